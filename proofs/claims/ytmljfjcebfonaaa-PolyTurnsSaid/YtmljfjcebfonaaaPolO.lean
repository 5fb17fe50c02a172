/- Crossings of the reference. -/
import Derived.Test.YtmljfjcebfonaaaPolN
set_option linter.unusedSimpArgs false
set_option linter.unusedVariables false
namespace Go.Proofs.Ytmljfjcebfonaaa
open Go.RowKit
attribute [local go_sem ↓] Go.wp_at_zero Go.wp_at_succ

theorem croF_no1 {A B : List (Int × Int)} (h : vPB A = false) : croF A B = 0 := by unfold croF; simp [h]
theorem croF_no2 {A B : List (Int × Int)} (h : vPB B = false) : croF A B = 0 := by unfold croF; simp [h]
theorem croF_yes {A B : List (Int × Int)} (h : vPB A = true) (k : vPB B = true) : croF A B = croK A B (A.length - 1) := by unfold croF; simp [h, k]

set_option maxRecDepth 8000 in
set_option maxHeartbeats 8000000 in
theorem crossings_r (p q : Option Addr) (n m c d : Nat) (A B : List (Int × Int)) (w : World) (hP : Prs w p A) (hQ : Prs w q B) (hn : A.length = n) (hm : B.length = m) :
    Calls Try.prog 23 #[.slice p n c, .slice q m d] w fun e w' => e = .returned (.int .i64 (croF A B)) ∧ Grew w w' := by
  subst hn hm
  have HP := Lib.hid hP
  have HQ := Lib.hid hQ
  cases hv : vPB A
  case false =>
    have Hv := Lib.hid hv
    have Hf := Lib.hid (croF_no1 (B := B) hv)
    clear hP hQ hv
    go_enter Try.func23, Try.ntmps23
    go_wp2_with (go_at_call 10; apply Calls.mono; (with_reducible exact valid_re Hv.out HP.out rfl); rintro e w' ⟨rfl, x, rfl⟩)
    go_ret
    exact ⟨by rw [Hf.out]; rfl, by (repeat (first | exact Grew.refl _ | refine Grew.over ?_ _ | refine Grew.alloc ?_ _ | refine Grew.drew ?_ | refine Grew.drewN ?_ _))⟩
  cases hu : vPB B
  case false =>
    have Hv := Lib.hid hv
    have Hu := Lib.hid hu
    have Hf := Lib.hid (croF_no2 (A := A) hu)
    clear hP hQ hv hu
    go_enter Try.func23, Try.ntmps23
    go_wp2_with (first
      | (go_at_call 10; apply Calls.mono; (with_reducible exact valid_re Hv.out HP.out rfl); rintro e w' ⟨rfl, x, rfl⟩)
      | (go_at_call 10; apply Calls.mono; (with_reducible exact valid_re Hu.out (HQ.out.grew (by (repeat (first | exact Grew.refl _ | refine Grew.over ?_ _ | refine Grew.alloc ?_ _ | refine Grew.drew ?_ | refine Grew.drewN ?_ _)))) rfl); rintro e w' ⟨rfl, x, rfl⟩))
    go_ret
    exact ⟨by rw [Hf.out]; rfl, by (repeat (first | exact Grew.refl _ | refine Grew.over ?_ _ | refine Grew.alloc ?_ _ | refine Grew.drew ?_ | refine Grew.drewN ?_ _))⟩
  have Hv := Lib.hid hv
  have Hu := Lib.hid hu
  have HV := Lib.hid (vPB_iff.1 hv)
  have HU := Lib.hid (vPB_iff.1 hu)
  have hl1 := (vPB_iff.1 hv).l1
  have hl2 := (vPB_iff.1 hv).l2
  have hm1 := (vPB_iff.1 hu).l1
  have hm2 := (vPB_iff.1 hu).l2
  have Hf := Lib.hid (croF_yes hv hu)
  clear hP hQ hv hu
  go_enter Try.func23, Try.ntmps23
  go_wp2_with (first
    | (go_at_call 10; apply Calls.mono; (with_reducible exact valid_re Hv.out HP.out rfl); rintro e w' ⟨rfl, x, rfl⟩)
    | (go_at_call 10; apply Calls.mono; (with_reducible exact valid_re Hu.out (HQ.out.grew (by (repeat (first | exact Grew.refl _ | refine Grew.over ?_ _ | refine Grew.alloc ?_ _ | refine Grew.drew ?_ | refine Grew.drewN ?_ _)))) rfl); rintro e w' ⟨rfl, x, rfl⟩))
  go_loopw [5, 6] (fun t i wr => ∃ k : Nat, k + 1 ≤ A.length ∧ i = .int .i64 ((k : Int) + 1) ∧ t = .int .i64 (croK A B k) ∧ Grew w wr) (fun _ i _ => A.length - (intOf i).toNat)
  case atStart => exact ⟨0, by omega, rfl, rfl, by (repeat (first | exact Grew.refl _ | refine Grew.over ?_ _ | refine Grew.alloc ?_ _ | refine Grew.drew ?_ | refine Grew.drewN ?_ _))⟩
  case round =>
    obtain ⟨k, hk, rfl, rfl, hg⟩ := hrel
    have Hg := Lib.hid hg
    clear hg
    obtain ⟨y, hy⟩ : ∃ y, croK A B k = y := ⟨_, rfl⟩
    have hyb := croK_bd A B k
    rw [hy] at hyb ⊢
    have Hy := Lib.hid hy
    clear hy
    obtain ⟨hy1, hy2⟩ := hyb
    have hy3 : y ≤ 262144 := by
      have : (k : Int) * (B.length : Int) ≤ 512 * 512 := Int.mul_le_mul (by omega) (by omega) (by omega) (by omega)
      omega
    clear hy2
    by_cases hlt : k + 1 < A.length
    · obtain ⟨b, o, rfl, hb, hc⟩ := HP.out.cells (by omega)
      have Hc := Lib.hid hc
      have hlti : (k : Int) + 1 < (A.length : Int) := by omega
      clear hc
      go_wp2
      go_loopw [5, 7] (fun t i wr => ∃ j : Nat, j + 1 ≤ B.length ∧ i = .int .i64 ((j : Int) + 1) ∧ t = .int .i64 (y + croRow A B k j) ∧ Grew w wr) (fun _ i _ => B.length - (intOf i).toNat)
      case atStart => exact ⟨0, by omega, rfl, by simp [croRow], Hg.out⟩
      case round =>
        obtain ⟨j, hj, rfl, rfl, hg⟩ := hrel
        have Hg := Lib.hid hg
        clear hg
        obtain ⟨z, hz⟩ : ∃ z, croRow A B k j = z := ⟨_, rfl⟩
        have hzb := croRow_bd A B k j
        rw [hz] at hzb ⊢
        have Hz := Lib.hid hz
        clear hz
        obtain ⟨hz1, hz2⟩ := hzb
        by_cases hlj : j + 1 < B.length
        · obtain ⟨b', o', rfl, hb', hc'⟩ := HQ.out.cells (by omega)
          obtain ⟨c1, c2⟩ := Hc.out wr Hg.out k (by omega)
          obtain ⟨d1, d2⟩ := Hc.out wr Hg.out (k + 1) hlt
          obtain ⟨e1, e2⟩ := hc' wr Hg.out j (by omega)
          obtain ⟨f1, f2⟩ := hc' wr Hg.out (j + 1) hlj
          have V1 := Lib.hid (HV.out.ok k (by omega))
          have V2 := Lib.hid (HV.out.ok (k + 1) hlt)
          have V3 := Lib.hid (HU.out.ok j (by omega))
          have V4 := Lib.hid (HU.out.ok (j + 1) hlj)
          obtain ⟨k1, hk1⟩ : ∃ k1, k + 1 = k1 := ⟨_, rfl⟩
          obtain ⟨j1, hj1⟩ : ∃ j1, j + 1 = j1 := ⟨_, rfl⟩
          have hki : (k : Int) + 1 = (k1 : Int) := by omega
          have hji : (j : Int) + 1 = (j1 : Int) := by omega
          have hk2 : (k1 : Int) - 1 = (k : Int) := by omega
          have hj2 : (j1 : Int) - 1 = (j : Int) := by omega
          have hlk0 : k < A.length := by omega
          have hlj0 : j < B.length := by omega
          rw [hk1] at d1 d2 hlt
          rw [hj1] at f1 f2 hlj
          rw [hji, hki]
          have Hk1 := Lib.hid hk1
          have Hj1 := Lib.hid hj1
          have hsz := Hg.out.below.size
          have hst : croRow A B k (j + 1) = z + if crs2 (pr A k) (pr A (k + 1)) (pr B j) (pr B (j + 1)) then 1 else 0 := by rw [croRow, Hz.out]
          cases hb : crs2 (pr A k) (pr A (k + 1)) (pr B j) (pr B (j + 1))
          · have Hst : Hid (croRow A B k (j + 1) = z) := Lib.hid (by rw [hst, hb]; simp)
            have Hb := Lib.hid (by simpa only [crs2] using hb)
            clear hst hb hc' hk1 hj1 hki hji hlti
            rw [Hk1.out, Hj1.out] at Hb
            rw [Hk1.out] at V2
            rw [Hj1.out] at V4
            go_upto_region 10 with fail
            refine wp_region_over (by kernel_rfl) (by kernel_rfl) ?_; (repeat (go_big_quiet_step ((go_at_call 36; apply over_call; with_reducible exact cross_re Hb.out V1.out V2.out V3.out V4.out _)))); refine wpQuiet_nil ?_; rintro _ ⟨x, rfl⟩
            go_wp2
            go_roundw
            case rel => exact ⟨j + 1, by have := Hj1.out; omega, by have := Hj1.out; first | rfl | (congr 1; omega), by rw [Hst.out], Hg.out.trans (by (repeat (first | exact Grew.refl _ | refine Grew.over ?_ _ | refine Grew.alloc ?_ _ | refine Grew.drew ?_ | refine Grew.drewN ?_ _)))⟩
            case measure => have := Hj1.out; simp [intOf]; omega
          · have Hst : Hid (croRow A B k (j + 1) = z + 1) := Lib.hid (by rw [hst, hb]; simp)
            have Hb := Lib.hid (by simpa only [crs2] using hb)
            clear hst hb hc' hk1 hj1 hki hji hlti
            rw [Hk1.out, Hj1.out] at Hb
            rw [Hk1.out] at V2
            rw [Hj1.out] at V4
            go_upto_region 10 with fail
            refine wp_region_over (by kernel_rfl) (by kernel_rfl) ?_; (repeat (go_big_quiet_step ((go_at_call 36; apply over_call; with_reducible exact cross_re Hb.out V1.out V2.out V3.out V4.out _)))); refine wpQuiet_nil ?_; rintro _ ⟨x, rfl⟩
            go_wp2
            go_roundw
            case rel => exact ⟨j + 1, by have := Hj1.out; omega, by have := Hj1.out; first | rfl | (congr 1; omega), by rw [Hst.out]; congr 1; omega, Hg.out.trans (by (repeat (first | exact Grew.refl _ | refine Grew.over ?_ _ | refine Grew.alloc ?_ _ | refine Grew.drew ?_ | refine Grew.drewN ?_ _)))⟩
            case measure => have := Hj1.out; simp [intOf]; omega
        · have hlji : ¬ (j : Int) + 1 < (B.length : Int) := by omega
          have Hj : Hid (j = B.length - 1) := Lib.hid (by omega)
          go_wp2
          go_roundw
          case rel => exact ⟨k + 1, by omega, by simp, by rw [croK, Hy.out, ← Hj.out, Hz.out], Hg.out⟩
          case measure => simp [intOf]; omega
    · have hlti : ¬ (k : Int) + 1 < (A.length : Int) := by omega
      have hke : Hid (k = A.length - 1) := Lib.hid (by omega)
      clear hk
      go_wp2
      go_ret
      exact ⟨by rw [Hf.out, ← hke.out, Hy.out]; rfl, Hg.out⟩
theorem crossings_re {p q : Option Addr} {n m c d : Nat} {A B : List (Int × Int)} {w : World} {b : Int} (h : croF A B = b) (hP : Prs w p A) (hQ : Prs w q B) (hn : A.length = n) (hm : B.length = m) :
    Calls Try.prog 23 #[.slice p n c, .slice q m d] w fun e w' => e = .returned (.int .i64 b) ∧ Grew w w' := h ▸ crossings_r p q n m c d A B w hP hQ hn hm
end Go.Proofs.Ytmljfjcebfonaaa
