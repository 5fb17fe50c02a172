/- Ends, Check and Contour of the reference. -/
import Derived.Test.YtdacnkjmimhcaaaDoorCanF
set_option linter.unusedSimpArgs false
set_option linter.unusedVariables false
namespace Go.Proofs.YtdacnkjmimhcaaaDoor
open Go.RowKit
attribute [local go_sem ↓] Go.wp_at_zero Go.wp_at_succ

set_option maxHeartbeats 4000000 in
theorem ends_r (N : Int) (pE pA : Option Addr) (nE nA cE cA : Nat) (E : List (Int × Int)) (A : List (List Int)) (w : World) (hR : RotAt w pE pA E A) (hT : trgB N E A = true) (hnE : E.length = nE) (hnA : A.length = nA) :
    Calls Tryd.prog 24 #[.agg #[.int .i64 N, .slice pE nE cE, .slice pA nA cA]] w fun e w' => e = .returned (.tuple #[.int .i64 (tailF N E A 0), .int .i64 (tailF N E A 1), .int .i64 (thirdR N E A)]) ∧ Grew w w' := by
  subst hnE hnA
  have HR := Lib.hid hR
  have he1 := hR.e1
  have hV := trg_valid hT
  have hE := trg_pos hT
  obtain ⟨d, hd⟩ : ∃ d, nextF N E A 0 = d := ⟨_, rfl⟩
  have hdr : 0 ≤ d ∧ d < 2 * E.length := by
    rw [← hd]; unfold nextF; rw [if_pos ⟨vRotB_iff.2 hV, by omega, by omega⟩]
    exact nxF_in hV (e := 0) (by omega) (by omega)
  obtain ⟨d, rfl⟩ := Int.eq_ofNat_of_zero_le hdr.1
  obtain ⟨o0, o1⟩ := oth_in (d := (d : Int)) (M := E.length) (by omega) (by omega)
  obtain ⟨o, ho⟩ : ∃ o : Nat, oth d = (o : Int) := ⟨(oth d).toNat, by omega⟩
  have hx2 : bits BinOp.xor IntKind.i64 (d : Int) 1 = (o : Int) := by rw [← ho]; exact xor_small d (by omega)
  obtain ⟨a, ha⟩ : ∃ a, tailF N E A 0 = a := ⟨_, rfl⟩
  obtain ⟨b, hb⟩ : ∃ b, tailF N E A 1 = b := ⟨_, rfl⟩
  obtain ⟨c, hc⟩ : ∃ c, tailF N E A o = c := ⟨_, rfl⟩
  have Hc : Hid (thirdR N E A = c) := Lib.hid (by unfold thirdR; rw [hd, ho, hc])
  have H0 : Hid (∀ W1, Grew w W1 → Calls Tryd.prog 36 #[.agg #[.int .i64 N, .slice pE E.length cE, .slice pA A.length cA], .int .i64 0] W1 fun e w' => e = .returned (.int .i64 (d : Int)) ∧ Grew W1 w') := Lib.hid (fun W1 h => by rw [← hd]; exact nextr_l _ _ _ _ _ _ _ _ _ _ _ (HR.out.grew h) rfl rfl)
  have H1 : Hid (∀ W1, Grew w W1 → Calls Tryd.prog 37 #[.agg #[.int .i64 N, .slice pE E.length cE, .slice pA A.length cA], .int .i64 0] W1 fun e w' => e = .returned (.int .i64 a) ∧ Grew W1 w') := Lib.hid (fun W1 h => by rw [← ha]; exact tailr_l _ _ _ _ _ _ _ _ _ _ _ (HR.out.grew h) rfl rfl)
  have H2 : Hid (∀ W1, Grew w W1 → Calls Tryd.prog 37 #[.agg #[.int .i64 N, .slice pE E.length cE, .slice pA A.length cA], .int .i64 1] W1 fun e w' => e = .returned (.int .i64 b) ∧ Grew W1 w') := Lib.hid (fun W1 h => by rw [← hb]; exact tailr_l _ _ _ _ _ _ _ _ _ _ _ (HR.out.grew h) rfl rfl)
  have H3 : Hid (∀ W1, Grew w W1 → Calls Tryd.prog 37 #[.agg #[.int .i64 N, .slice pE E.length cE, .slice pA A.length cA], .int .i64 (o : Int)] W1 fun e w' => e = .returned (.int .i64 c) ∧ Grew W1 w') := Lib.hid (fun W1 h => by rw [← hc]; exact tailr_l _ _ _ _ _ _ _ _ _ _ _ (HR.out.grew h) rfl rfl)
  rw [ha, hb, Hc.out]
  clear hR hV hE hd hdr o0 o1 ho ha hb hc
  go_enter Tryd.func24, Tryd.ntmps24
  go_wp2_with ((go_at_call 36; apply Calls.mono; (with_reducible exact H0.out _ (by (repeat (first | exact Grew.refl _ | refine Grew.over ?_ _ | refine Grew.alloc ?_ _ | refine Grew.drew ?_ | refine Grew.drewN ?_ _)))); rintro e w' ⟨rfl, x, rfl⟩))
  refine wp_region_over (by kernel_rfl) (by kernel_rfl) ?_; (repeat (go_big_quiet_step ((first | (go_at_call 37; apply over_call; with_reducible exact H1.out _ (by (repeat (first | exact Grew.refl _ | refine Grew.over ?_ _ | refine Grew.alloc ?_ _ | refine Grew.drew ?_ | refine Grew.drewN ?_ _)))) | (go_at_call 37; apply over_call; with_reducible exact H2.out _ (by (repeat (first | exact Grew.refl _ | refine Grew.over ?_ _ | refine Grew.alloc ?_ _ | refine Grew.drew ?_ | refine Grew.drewN ?_ _)))) | (go_at_call 37; apply over_call; with_reducible exact H3.out _ (by (repeat (first | exact Grew.refl _ | refine Grew.over ?_ _ | refine Grew.alloc ?_ _ | refine Grew.drew ?_ | refine Grew.drewN ?_ _)))))))); refine wpQuiet_nil ?_; rintro _ ⟨x, rfl⟩
  go_wp2
  go_ret3
  exact ⟨rfl, by (repeat (first | exact Grew.refl _ | refine Grew.over ?_ _ | refine Grew.alloc ?_ _ | refine Grew.drew ?_ | refine Grew.drewN ?_ _))⟩

set_option maxRecDepth 8000 in
set_option maxHeartbeats 8000000 in
theorem check36_r (N : Int) (pE pA : Option Addr) (nE nA cE cA : Nat) (E : List (Int × Int)) (A : List (List Int)) (pO : Option Addr) (nO cO : Nat) (O : List Int) (w : World) (hR : RotIn w pE pA cE E A)
    (hO : Ints w pO O) (hO1 : O.length ≤ 30) (hO2 : nO ≤ cO) (hO3 : cO ≤ maxLen) (hnE : E.length = nE) (hnA : A.length = nA) (hnO : O.length = nO) :
    Calls Tryd.prog 12 #[.agg #[.int .i64 N, .slice pE nE cE, .slice pA nA cA], .slice pO nO cO] w fun e w' => e = .returned (.bool (chkR N E A O)) ∧ Grew w w' := by
  subst hnE hnA hnO
  have HR := Lib.hid hR
  have HO := Lib.hid hO
  have he1 := hR.e1
  obtain ⟨t, ht⟩ : ∃ t, trgB N E A = t := ⟨_, rfl⟩
  have Ht := Lib.hid ht
  have Htr : Hid (∀ W1, Grew w W1 → Calls Tryd.prog 15 #[.agg #[.int .i64 N, .slice pE E.length cE, .slice pA A.length cA]] W1 fun e w' => e = .returned (.bool t) ∧ Grew W1 w') := Lib.hid (fun W1 h => by rw [← ht]; exact trg_r _ _ _ _ _ _ _ _ _ _ (HR.out.grew h) rfl rfl)
  clear hR hO ht
  cases t
  case false =>
    have Hf : Hid (chkR N E A O = false) := Lib.hid (by unfold chkR; rw [Ht.out]; rfl)
    go_enter Tryd.func12, Tryd.ntmps12
    go_wp2_with ((go_at_call 15; apply Calls.mono; (with_reducible exact Htr.out _ (by (repeat (first | exact Grew.refl _ | refine Grew.over ?_ _ | refine Grew.alloc ?_ _ | refine Grew.drew ?_ | refine Grew.drewN ?_ _)))); rintro e w' ⟨rfl, x, rfl⟩))
    go_ret
    exact ⟨by rw [Hf.out]; rfl, by (repeat (first | exact Grew.refl _ | refine Grew.over ?_ _ | refine Grew.alloc ?_ _ | refine Grew.drew ?_ | refine Grew.drewN ?_ _))⟩
  case true =>
  have hV := trg_valid Ht.out
  have hN : N = A.length := hV.al.symm
  have hN3 := trg_three Ht.out
  subst hN
  have hA3 : 3 ≤ A.length := by omega
  have HV := Lib.hid hV
  have HRt := Lib.hid (HR.out.at HR.out.e5 (vRotB_iff.2 hV))
  clear hV hN3
  by_cases hl : O.length = A.length
  case neg =>
    have Hf : Hid (chkR A.length E A O = false) := Lib.hid (by
      unfold chkR
      rw [decide_eq_false (show ¬ (O.length : Int) = (A.length : Int) by omega)]
      simp)
    have hli : ¬ (O.length : Int) = (A.length : Int) := by omega
    go_enter Tryd.func12, Tryd.ntmps12
    go_wp2_with ((go_at_call 15; apply Calls.mono; (with_reducible exact Htr.out _ (by (repeat (first | exact Grew.refl _ | refine Grew.over ?_ _ | refine Grew.alloc ?_ _ | refine Grew.drew ?_ | refine Grew.drewN ?_ _)))); rintro e w' ⟨rfl, x, rfl⟩))
    go_ret
    exact ⟨by rw [Hf.out]; rfl, by (repeat (first | exact Grew.refl _ | refine Grew.over ?_ _ | refine Grew.alloc ?_ _ | refine Grew.drew ?_ | refine Grew.drewN ?_ _))⟩
  case pos =>
  obtain ⟨bO, oO, rfl, lO, cO'⟩ := HO.out.cells (by omega)
  have HcO := Lib.hid cO'
  have Hl := Lib.hid hl
  rw [hl]
  rw [hl] at hO1 hO2
  clear cO' hl
  go_enter Tryd.func12, Tryd.ntmps12
  go_wp2_with ((go_at_call 15; apply Calls.mono; (with_reducible exact Htr.out _ (by (repeat (first | exact Grew.refl _ | refine Grew.over ?_ _ | refine Grew.alloc ?_ _ | refine Grew.drew ?_ | refine Grew.drewN ?_ _)))); rintro e w' ⟨rfl, x, rfl⟩))
  obtain ⟨wB, hwB⟩ : ∃ wB, w.alloc (.cells #[.int .i64 A.length, .slice pE E.length cE, .slice pA A.length cA] 25) = wB := ⟨_, rfl⟩
  have HwB : Hid (Grew w wB) := Lib.hid (by rw [← hwB]; exact (Grew.refl w).alloc _)
  have Hc0 : Hid (wB.cell? ⟨w.heap.size, 0, none⟩ = some (.int .i64 A.length)) := Lib.hid (by rw [← hwB]; simp [go_sem])
  have Hc1 : Hid (wB.cell? ⟨w.heap.size, 1, none⟩ = some (.slice pE E.length cE)) := Lib.hid (by rw [← hwB]; simp [go_sem])
  have Hc2 : Hid (wB.cell? ⟨w.heap.size, 2, none⟩ = some (.slice pA A.length cA)) := Lib.hid (by rw [← hwB]; simp [go_sem])
  have hsB : wB.heap.size = w.heap.size + 1 := by rw [← hwB]; simp
  rw [hwB]
  clear hwB
  go_loopw [5] (fun iv wr => ∃ j : Nat, j ≤ A.length ∧ iv = .int .i64 j ∧ Grew wB wr ∧ Fine A.length O j) (fun iv _ => A.length - (intOf iv).toNat)
  case atStart => exact ⟨0, Nat.zero_le _, rfl, by (repeat (first | exact Grew.refl _ | refine Grew.over ?_ _ | refine Grew.alloc ?_ _ | refine Grew.drew ?_ | refine Grew.drewN ?_ _)), ⟨by simp, fun u hu => by simp at hu⟩⟩
  case round =>
    obtain ⟨j, hj, rfl, hgB, hF⟩ := hrel
    have hszr := hgB.below.size
    rw [hsB] at hszr
    have Hgw : Hid (Grew w wr) := Lib.hid (HwB.out.trans hgB)
    have q0 := hgB.cellEq Hc0.out
    have q1 := hgB.cellEq Hc1.out
    have q2 := hgB.cellEq Hc2.out
    have HgB := Lib.hid hgB
    have HF := Lib.hid hF
    clear hgB hF
    by_cases hlt : j < A.length
    · have e1 := HcO.out wr Hgw.out j (by have := Hl.out; omega)
      obtain ⟨x, hx⟩ : ∃ x, ge O j = x := ⟨_, rfl⟩
      rw [hx] at e1
      have Hx := Lib.hid hx
      have hji : (j : Int) < (A.length : Int) := by omega
      have Hbad : Hid (¬ (0 ≤ x ∧ x < (A.length : Int) ∧ x ∉ O.take j) → chkR A.length E A O = false) := Lib.hid (fun hn => by
        cases hc : chkR A.length E A O
        · rfl
        · exfalso
          obtain ⟨_, _, hF, _⟩ := chkR_iff.1 hc
          have := ((hF.mono (show j + 1 ≤ O.length by have := Hl.out; omega)).pred (by have := Hl.out; omega)).2
          rw [Hx.out] at this
          exact hn this)
      have HT := Lib.hid (HO.out.cut (k := j) (by have := Hl.out; omega))
      obtain ⟨m, hm⟩ : ∃ m, decide (x ∈ O.take j) = m := ⟨_, rfl⟩
      have Hm := Lib.hid hm
      have Hhs : Hid (∀ W1, Grew w W1 → Calls Tryd.prog 23 #[.slice (some ⟨bO, oO, none⟩) j cO, .int .i64 x] W1 fun e w' => e = .returned (.bool m) ∧ Grew W1 w') := Lib.hid (fun W1 h => by
        rw [← hm]
        exact (has36_r _ _ _ _ _ _ (HT.out.grew h) (by rw [List.length_take]; have := Hl.out; omega)).mono fun e w' ⟨h1, h2⟩ => ⟨h1, h2 ▸ Grew.refl _⟩)
      clear hx hm
      by_cases hx0 : x < 0
      · have Hf : Hid (chkR A.length E A O = false) := Lib.hid (Hbad.out (fun h => by omega))
        have hxb : decide (x < 0) = true := decide_eq_true hx0
        go_upto_region 6 with fail
        refine wp_region_over (by kernel_rfl) (by kernel_rfl) ?_; (repeat (go_big_quiet_step (fail))); refine wpQuiet_nil ?_; rintro _ ⟨x, rfl⟩
        go_wp2
        go_ret
        exact ⟨by rw [Hf.out]; rfl, Hgw.out.trans (by (repeat (first | exact Grew.refl _ | refine Grew.over ?_ _ | refine Grew.alloc ?_ _ | refine Grew.drew ?_ | refine Grew.drewN ?_ _)))⟩
      have hxb : decide (x < 0) = false := decide_eq_false hx0
      by_cases hxl : (A.length : Int) ≤ x
      · have Hf : Hid (chkR A.length E A O = false) := Lib.hid (Hbad.out (fun h => by omega))
        have hxc : decide ((A.length : Int) ≤ x) = true := decide_eq_true hxl
        go_upto_region 6 with fail
        refine wp_region_over (by kernel_rfl) (by kernel_rfl) ?_; (repeat (go_big_quiet_step (fail))); refine wpQuiet_nil ?_; rintro _ ⟨x, rfl⟩
        go_wp2
        go_ret
        exact ⟨by rw [Hf.out]; rfl, Hgw.out.trans (by (repeat (first | exact Grew.refl _ | refine Grew.over ?_ _ | refine Grew.alloc ?_ _ | refine Grew.drew ?_ | refine Grew.drewN ?_ _)))⟩
      have hxc : decide ((A.length : Int) ≤ x) = false := decide_eq_false hxl
      cases m
      case true =>
        have Hf : Hid (chkR A.length E A O = false) := Lib.hid (Hbad.out (fun h => h.2.2 (of_decide_eq_true Hm.out)))
        go_upto_region 6 with fail
        refine wp_region_over (by kernel_rfl) (by kernel_rfl) ?_; (repeat (go_big_quiet_step ((go_at_call 23; apply over_call; with_reducible exact Hhs.out _ (Hgw.out.trans (by (repeat (first | exact Grew.refl _ | refine Grew.over ?_ _ | refine Grew.alloc ?_ _ | refine Grew.drew ?_ | refine Grew.drewN ?_ _)))))))); refine wpQuiet_nil ?_; rintro _ ⟨x, rfl⟩
        go_wp2
        go_ret
        exact ⟨by rw [Hf.out]; rfl, Hgw.out.trans (by (repeat (first | exact Grew.refl _ | refine Grew.over ?_ _ | refine Grew.alloc ?_ _ | refine Grew.drew ?_ | refine Grew.drewN ?_ _)))⟩
      case false =>
        have HF2 := Lib.hid (HF.out.succ (by have := Hl.out; omega) (by rw [Hx.out]; omega) (by rw [Hx.out]; omega) (by rw [Hx.out]; exact of_decide_eq_false Hm.out))
        go_upto_region 6 with fail
        refine wp_region_over (by kernel_rfl) (by kernel_rfl) ?_; (repeat (go_big_quiet_step ((go_at_call 23; apply over_call; with_reducible exact Hhs.out _ (Hgw.out.trans (by (repeat (first | exact Grew.refl _ | refine Grew.over ?_ _ | refine Grew.alloc ?_ _ | refine Grew.drew ?_ | refine Grew.drewN ?_ _)))))))); refine wpQuiet_nil ?_; rintro _ ⟨x, rfl⟩
        go_wp2
        go_roundw
        case rel => exact ⟨j + 1, by omega, by go_num, HgB.out.trans (by (repeat (first | exact Grew.refl _ | refine Grew.over ?_ _ | refine Grew.alloc ?_ _ | refine Grew.drew ?_ | refine Grew.drewN ?_ _))), HF2.out⟩
        case measure => simp [intOf]; omega
    · have hje : j = A.length := by omega
      subst hje
      have hA30 : A.length ≤ 30 := hO1
      have c0 := HcO.out wr Hgw.out 0 (by have := Hl.out; omega)
      have c1 := HcO.out wr Hgw.out 1 (by have := Hl.out; omega)
      have cz := HcO.out wr Hgw.out (A.length - 1) (by have := Hl.out; omega)
      rw [Nat.add_zero] at c0
      obtain ⟨a0, ha0⟩ : ∃ a, ge O 0 = a := ⟨_, rfl⟩
      obtain ⟨a1, ha1'⟩ : ∃ a, ge O 1 = a := ⟨_, rfl⟩
      obtain ⟨az, haz⟩ : ∃ a, ge O (A.length - 1) = a := ⟨_, rfl⟩
      rw [ha0] at c0
      rw [ha1'] at c1
      rw [haz] at cz
      obtain ⟨t0, ht0⟩ : ∃ t, tailF A.length E A 0 = t := ⟨_, rfl⟩
      obtain ⟨t1, ht1⟩ : ∃ t, tailF A.length E A 1 = t := ⟨_, rfl⟩
      obtain ⟨t2, ht2⟩ : ∃ t, thirdR A.length E A = t := ⟨_, rfl⟩
      have HE : Hid (∀ W1, Grew w W1 → Calls Tryd.prog 24 #[.agg #[.int .i64 A.length, .slice pE E.length cE, .slice pA A.length cA]] W1 fun e w' => e = .returned (.tuple #[.int .i64 t0, .int .i64 t1, .int .i64 t2]) ∧ Grew W1 w') := Lib.hid (fun W1 h => by
        rw [← ht0, ← ht1, ← ht2]
        exact ends_r _ _ _ _ _ _ _ _ _ _ (HRt.out.grew h) Ht.out rfl rfl)
      have Hh : Hid (headR A.length E A O = (decide (a0 = t0) && decide (a1 = t1) && decide (az = t2))) := Lib.hid (by
        unfold headR
        rw [ht0, ht1, ht2, ha0, ha1', show ((A.length : Int) - 1).toNat = A.length - 1 by omega, haz])
      have hn1 : ((A.length : Int) - 1) = ((A.length - 1 : Nat) : Int) := by omega
      clear ha0 ha1' haz ht0 ht1 ht2
      by_cases e0 : a0 = t0
      case neg =>
        have Hf : Hid (chkR A.length E A O = false) := Lib.hid (by unfold chkR; rw [Hh.out, decide_eq_false e0]; simp)
        have hlb : (a0 == t0) = false := beq_eq_false_iff_ne.2 e0
        go_wp2_with ((go_at_call 24; apply Calls.mono; (with_reducible exact HE.out _ (Hgw.out.trans (by (repeat (first | exact Grew.refl _ | refine Grew.over ?_ _ | refine Grew.alloc ?_ _ | refine Grew.drew ?_ | refine Grew.drewN ?_ _))))); rintro e w' ⟨rfl, x, rfl⟩))
        go_ret
        exact ⟨by rw [Hf.out]; rfl, Hgw.out.trans (by (repeat (first | exact Grew.refl _ | refine Grew.over ?_ _ | refine Grew.alloc ?_ _ | refine Grew.drew ?_ | refine Grew.drewN ?_ _)))⟩
      case pos =>
      subst e0
      by_cases e1 : a1 = t1
      case neg =>
        have Hf : Hid (chkR A.length E A O = false) := Lib.hid (by unfold chkR; rw [Hh.out, decide_eq_false e1]; simp)
        have hlb : (a1 == t1) = false := beq_eq_false_iff_ne.2 e1
        go_wp2_with ((go_at_call 24; apply Calls.mono; (with_reducible exact HE.out _ (Hgw.out.trans (by (repeat (first | exact Grew.refl _ | refine Grew.over ?_ _ | refine Grew.alloc ?_ _ | refine Grew.drew ?_ | refine Grew.drewN ?_ _))))); rintro e w' ⟨rfl, x, rfl⟩))
        go_ret
        exact ⟨by rw [Hf.out]; rfl, Hgw.out.trans (by (repeat (first | exact Grew.refl _ | refine Grew.over ?_ _ | refine Grew.alloc ?_ _ | refine Grew.drew ?_ | refine Grew.drewN ?_ _)))⟩
      case pos =>
      subst e1
      by_cases e2 : az = t2
      case neg =>
        have Hf : Hid (chkR A.length E A O = false) := Lib.hid (by unfold chkR; rw [Hh.out, decide_eq_false e2]; simp)
        have hlb : (az == t2) = false := beq_eq_false_iff_ne.2 e2
        go_wp2_with ((go_at_call 24; apply Calls.mono; (with_reducible exact HE.out _ (Hgw.out.trans (by (repeat (first | exact Grew.refl _ | refine Grew.over ?_ _ | refine Grew.alloc ?_ _ | refine Grew.drew ?_ | refine Grew.drewN ?_ _))))); rintro e w' ⟨rfl, x, rfl⟩))
        go_ret
        exact ⟨by rw [Hf.out]; rfl, Hgw.out.trans (by (repeat (first | exact Grew.refl _ | refine Grew.over ?_ _ | refine Grew.alloc ?_ _ | refine Grew.drew ?_ | refine Grew.drewN ?_ _)))⟩
      case pos =>
      subst e2
      obtain ⟨R, hR⟩ : ∃ R, contR E O (A.length - 2) = R := ⟨_, rfl⟩
      have Hf : Hid (chkR A.length E A O = R.isSome) := Lib.hid (by
        unfold chkR
        rw [Ht.out, Hh.out, ordB_fine.2 (by rw [Hl.out]; exact HF.out), decide_eq_true (show (O.length : Int) = (A.length : Int) by have := Hl.out; omega), show ((A.length : Int) - 2).toNat = A.length - 2 by omega, hR]
        simp)
      have HC : Hid (∀ W1, Grew w W1 → Calls Tryd.prog 22 #[.agg #[.int .i64 A.length, .slice pE E.length cE, .slice pA A.length cA], .slice (some ⟨bO, oO, none⟩) A.length cO, .int .i64 A.length] W1 (StepPost R W1)) := Lib.hid (fun W1 h => by
        rw [← hR]
        exact contours_r A.length pE pA E.length A.length cE cA E (some ⟨bO, oO, none⟩) A.length cO O A.length W1 (HR.out.hE.grew h) he1 (HO.out.grew h) (by rw [Hl.out]; exact Nat.le_refl _) (by omega) (by rw [Hl.out]; omega) (fun j C hj hc => by have := contR_len hc; omega) rfl Hl.out)
      clear hR
      cases R with
      | none =>
        go_wp2_with (first
          | ((go_at_call 24; apply Calls.mono; (with_reducible exact HE.out _ (Hgw.out.trans (by (repeat (first | exact Grew.refl _ | refine Grew.over ?_ _ | refine Grew.alloc ?_ _ | refine Grew.drew ?_ | refine Grew.drewN ?_ _))))); rintro e w' ⟨rfl, x, rfl⟩))
          | (go_at_call 22; apply Calls.mono; (with_reducible exact HC.out _ (Hgw.out.trans (by (repeat (first | exact Grew.refl _ | refine Grew.over ?_ _ | refine Grew.alloc ?_ _ | refine Grew.drew ?_ | refine Grew.drewN ?_ _))))); rintro e w4 ⟨hg4, rfl⟩; obtain ⟨x4, rfl⟩ := hg4))
        go_ret
        exact ⟨by rw [Hf.out]; rfl, Hgw.out.trans (by (repeat (first | exact Grew.refl _ | refine Grew.over ?_ _ | refine Grew.alloc ?_ _ | refine Grew.drew ?_ | refine Grew.drewN ?_ _)))⟩
      | some D =>
        go_wp2_with (first
          | ((go_at_call 24; apply Calls.mono; (with_reducible exact HE.out _ (Hgw.out.trans (by (repeat (first | exact Grew.refl _ | refine Grew.over ?_ _ | refine Grew.alloc ?_ _ | refine Grew.drew ?_ | refine Grew.drewN ?_ _))))); rintro e w' ⟨rfl, x, rfl⟩))
          | (go_at_call 22; apply Calls.mono; (with_reducible exact HC.out _ (Hgw.out.trans (by (repeat (first | exact Grew.refl _ | refine Grew.over ?_ _ | refine Grew.alloc ?_ _ | refine Grew.drew ?_ | refine Grew.drewN ?_ _))))); rintro e w4 ⟨hg4, q4, cap4, rfl, _⟩; obtain ⟨x4, rfl⟩ := hg4))
        go_ret
        exact ⟨by rw [Hf.out]; rfl, Hgw.out.trans (by (repeat (first | exact Grew.refl _ | refine Grew.over ?_ _ | refine Grew.alloc ?_ _ | refine Grew.drew ?_ | refine Grew.drewN ?_ _)))⟩

noncomputable def contResR (N : Int) (E : List (Int × Int)) (A : List (List Int)) (O : List Int) (k : Int) : List Int × Int :=
  if trgB N E A = false then ([], 13) else if chkR N E A O = false then ([], 1) else if k < 2 ∨ k > N then ([], 3) else ((contR E O (k - 2).toNat).getD [], 0)
theorem contRes_same {N : Int} {E : List (Int × Int)} {A : List (List Int)} {O : List Int} {k : Int} : contResR N E A O k = contRes N E A O k := by
  unfold contResR contRes
  rw [chk_same]
  split
  · rfl
  · split
    · rfl
    · rename_i hT hc
      split
      · rfl
      · rename_i hk
        have hc' : chkO N E A O = true := by simpa using hc
        rw [cont_same hc' (by have := (chkO_iff.1 hc').2.1; omega)]

set_option maxHeartbeats 4000000 in
theorem contour36_r (N : Int) (pE pA : Option Addr) (nE nA cE cA : Nat) (E : List (Int × Int)) (A : List (List Int)) (pO : Option Addr) (nO cO : Nat) (O : List Int) (k : Int) (w : World) (hR : RotIn w pE pA cE E A)
    (hO : Ints w pO O) (hO1 : O.length ≤ 30) (hO2 : nO ≤ cO) (hO3 : cO ≤ maxLen) (hnE : E.length = nE) (hnA : A.length = nA) (hnO : O.length = nO) :
    Calls Tryd.prog 10 #[.agg #[.int .i64 N, .slice pE nE cE, .slice pA nA cA], .slice pO nO cO, .int .i64 k] w (TwoPost (contRes N E A O k).1 (contRes N E A O k).2 w) := by
  rw [← contRes_same]
  have HR := Lib.hid hR
  have HO := Lib.hid hO
  have he1 := hR.e1
  clear hR hO
  obtain ⟨b, hb⟩ : ∃ b, trgB N E A = b := ⟨_, rfl⟩
  have Htr : Hid (∀ W1, Grew w W1 → Calls Tryd.prog 15 #[.agg #[.int .i64 N, .slice pE nE cE, .slice pA nA cA]] W1 fun e w' => e = .returned (.bool b) ∧ Grew W1 w') := Lib.hid (fun W1 h => by rw [← hb]; exact trg_r _ _ _ _ _ _ _ _ _ _ (HR.out.grew h) hnE hnA)
  cases b
  case false =>
    have Hf : Hid (contResR N E A O k = ([], 13)) := Lib.hid (by unfold contResR; rw [if_pos hb])
    clear hb
    rw [Hf.out]
    go_enter Tryd.func10, Tryd.ntmps10
    go_wp2_with ((go_at_call 15; apply Calls.mono; (with_reducible exact Htr.out _ (by (repeat (first | exact Grew.refl _ | refine Grew.over ?_ _ | refine Grew.alloc ?_ _ | refine Grew.drew ?_ | refine Grew.drewN ?_ _)))); rintro e w' ⟨rfl, x, rfl⟩))
    go_ret2
    exact TwoPost.none (by (repeat (first | exact Grew.refl _ | refine Grew.over ?_ _ | refine Grew.alloc ?_ _ | refine Grew.drew ?_ | refine Grew.drewN ?_ _)))
  case true =>
  have Hb := Lib.hid hb
  clear hb
  obtain ⟨t, ht⟩ : ∃ t, chkR N E A O = t := ⟨_, rfl⟩
  have Ht := Lib.hid ht
  have Hck : Hid (∀ W1, Grew w W1 → Calls Tryd.prog 12 #[.agg #[.int .i64 N, .slice pE nE cE, .slice pA nA cA], .slice pO nO cO] W1 fun e w' => e = .returned (.bool t) ∧ Grew W1 w') := Lib.hid (fun W1 h => by rw [← ht]; exact check36_r _ _ _ _ _ _ _ _ _ _ _ _ _ _ (HR.out.grew h) (HO.out.grew h) hO1 hO2 hO3 hnE hnA hnO)
  clear ht
  cases t
  case false =>
    have Hf : Hid (contResR N E A O k = ([], 1)) := Lib.hid (by unfold contResR; rw [if_neg (by rw [Hb.out]; simp), if_pos Ht.out])
    rw [Hf.out]
    go_enter Tryd.func10, Tryd.ntmps10
    go_wp2_with (first
      | ((go_at_call 15; apply Calls.mono; (with_reducible exact Htr.out _ (by (repeat (first | exact Grew.refl _ | refine Grew.over ?_ _ | refine Grew.alloc ?_ _ | refine Grew.drew ?_ | refine Grew.drewN ?_ _)))); rintro e w' ⟨rfl, x, rfl⟩))
      | ((go_at_call 12; apply Calls.mono; (with_reducible exact Hck.out _ (by (repeat (first | exact Grew.refl _ | refine Grew.over ?_ _ | refine Grew.alloc ?_ _ | refine Grew.drew ?_ | refine Grew.drewN ?_ _)))); rintro e w' ⟨rfl, x, rfl⟩)))
    go_ret2
    exact TwoPost.none (by (repeat (first | exact Grew.refl _ | refine Grew.over ?_ _ | refine Grew.alloc ?_ _ | refine Grew.drew ?_ | refine Grew.drewN ?_ _)))
  case true =>
  have hV := trg_valid Hb.out
  have hN := hV.al
  have hNs := hV.n1
  have hN3 := trg_three Hb.out
  obtain ⟨n, rfl⟩ : ∃ n : Nat, N = (n : Int) := ⟨N.toNat, by omega⟩
  have hcl := (chkR_iff.1 Ht.out).2.1
  have hsome := (chkR_iff.1 Ht.out).2.2.2.2
  clear hN hV
  by_cases hk2 : k < 2
  · have Hf : Hid (contResR n E A O k = ([], 3)) := Lib.hid (by unfold contResR; rw [if_neg (by rw [Hb.out]; simp), if_neg (by rw [Ht.out]; simp), if_pos (Or.inl hk2)])
    rw [Hf.out]
    clear hcl hsome
    go_enter Tryd.func10, Tryd.ntmps10
    go_wp2_with (first
      | ((go_at_call 15; apply Calls.mono; (with_reducible exact Htr.out _ (by (repeat (first | exact Grew.refl _ | refine Grew.over ?_ _ | refine Grew.alloc ?_ _ | refine Grew.drew ?_ | refine Grew.drewN ?_ _)))); rintro e w' ⟨rfl, x, rfl⟩))
      | ((go_at_call 12; apply Calls.mono; (with_reducible exact Hck.out _ (by (repeat (first | exact Grew.refl _ | refine Grew.over ?_ _ | refine Grew.alloc ?_ _ | refine Grew.drew ?_ | refine Grew.drewN ?_ _)))); rintro e w' ⟨rfl, x, rfl⟩)))
    go_ret2
    exact TwoPost.none (by (repeat (first | exact Grew.refl _ | refine Grew.over ?_ _ | refine Grew.alloc ?_ _ | refine Grew.drew ?_ | refine Grew.drewN ?_ _)))
  by_cases hkn : (n : Int) < k
  · have Hf : Hid (contResR n E A O k = ([], 3)) := Lib.hid (by unfold contResR; rw [if_neg (by rw [Hb.out]; simp), if_neg (by rw [Ht.out]; simp), if_pos (Or.inr (by omega))])
    rw [Hf.out]
    clear hcl hsome
    go_enter Tryd.func10, Tryd.ntmps10
    go_wp2_with (first
      | ((go_at_call 15; apply Calls.mono; (with_reducible exact Htr.out _ (by (repeat (first | exact Grew.refl _ | refine Grew.over ?_ _ | refine Grew.alloc ?_ _ | refine Grew.drew ?_ | refine Grew.drewN ?_ _)))); rintro e w' ⟨rfl, x, rfl⟩))
      | ((go_at_call 12; apply Calls.mono; (with_reducible exact Hck.out _ (by (repeat (first | exact Grew.refl _ | refine Grew.over ?_ _ | refine Grew.alloc ?_ _ | refine Grew.drew ?_ | refine Grew.drewN ?_ _)))); rintro e w' ⟨rfl, x, rfl⟩)))
    go_ret2
    exact TwoPost.none (by (repeat (first | exact Grew.refl _ | refine Grew.over ?_ _ | refine Grew.alloc ?_ _ | refine Grew.drew ?_ | refine Grew.drewN ?_ _)))
  obtain ⟨j, rfl⟩ : ∃ j : Nat, k = ((j : Nat) : Int) := ⟨k.toNat, by omega⟩
  have hj2 : 2 ≤ j := by omega
  obtain ⟨C, hC⟩ : ∃ C, contR E O (j - 2) = some C := by
    cases hd : contR E O (j - 2) with
    | some D => exact ⟨D, rfl⟩
    | none => rw [contR_none hd _ (by omega)] at hsome; cases hsome
  have Hf : Hid (contResR n E A O j = (C, 0)) := Lib.hid (by unfold contResR; rw [if_neg (by rw [Hb.out]; simp), if_neg (by rw [Ht.out]; simp), if_neg (by omega), show ((j : Int) - 2).toNat = j - 2 by omega, hC]; rfl)
  have HC : Hid (∀ W1, Grew w W1 → Calls Tryd.prog 22 #[.agg #[.int .i64 n, .slice pE nE cE, .slice pA nA cA], .slice pO nO cO, .int .i64 j] W1 (StepPost (some C) W1)) := Lib.hid (fun W1 h => by
    rw [← hC]
    exact contours_r n pE pA nE nA cE cA E pO nO cO O j W1 (HR.out.hE.grew h) he1 (HO.out.grew h) (by omega) hj2 (by omega) (fun j' C' hj' hc => by have := contR_len hc; omega) hnE hnO)
  rw [Hf.out]
  clear hcl hsome hC
  go_enter Tryd.func10, Tryd.ntmps10
  go_wp2_with (first
    | ((go_at_call 15; apply Calls.mono; (with_reducible exact Htr.out _ (by (repeat (first | exact Grew.refl _ | refine Grew.over ?_ _ | refine Grew.alloc ?_ _ | refine Grew.drew ?_ | refine Grew.drewN ?_ _)))); rintro e w' ⟨rfl, x, rfl⟩))
    | ((go_at_call 12; apply Calls.mono; (with_reducible exact Hck.out _ (by (repeat (first | exact Grew.refl _ | refine Grew.over ?_ _ | refine Grew.alloc ?_ _ | refine Grew.drew ?_ | refine Grew.drewN ?_ _)))); rintro e w' ⟨rfl, x, rfl⟩))
    | (go_at_call 22; apply Calls.mono; (with_reducible exact HC.out _ (by (repeat (first | exact Grew.refl _ | refine Grew.over ?_ _ | refine Grew.alloc ?_ _ | refine Grew.drew ?_ | refine Grew.drewN ?_ _)))); rintro e w4 ⟨hg4, q4, cap4, rfl, hI4, hd1, hd2, _⟩; have HI4 := Lib.hid hI4; have Hg4 := Lib.hid (Grew.trans (a := w) (by (repeat (first | exact Grew.refl _ | refine Grew.over ?_ _ | refine Grew.alloc ?_ _ | refine Grew.drew ?_ | refine Grew.drewN ?_ _))) hg4); clear hI4 hg4))
  go_ret2
  exact ⟨Hg4.out.trans (by (repeat (first | exact Grew.refl _ | refine Grew.over ?_ _ | refine Grew.alloc ?_ _ | refine Grew.drew ?_ | refine Grew.drewN ?_ _))), q4, cap4, rfl, HI4.out.grew (by (repeat (first | exact Grew.refl _ | refine Grew.over ?_ _ | refine Grew.alloc ?_ _ | refine Grew.drew ?_ | refine Grew.drewN ?_ _))), hd1, hd2⟩

end Go.Proofs.YtdacnkjmimhcaaaDoor
