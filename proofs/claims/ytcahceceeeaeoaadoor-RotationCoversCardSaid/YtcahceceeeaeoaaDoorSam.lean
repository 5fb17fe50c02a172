/- Same and Exact of the reference. -/
import Derived.Test.YtcahceceeeaeoaaDoorRotZ
import Derived.Laws.StructEq
set_option linter.unusedSimpArgs false
set_option linter.unusedVariables false
namespace Go.Proofs.YtcahceceeeaeoaaDoor
open Go.RowKit
attribute [local go_sem ↓] Go.wp_at_zero Go.wp_at_succ

@[go_sem] theorem eq_arc (a b c d : Int) (w : World) : (Op.equalIn 10000 41 (.agg #[.int .i64 a, .int .i64 b]) (.agg #[.int .i64 c, .int .i64 d])).run Tryd.prog w = .ok (a == c && b == d) w := by
  have hS : Tryd.prog.underlying 41 = some (.struct (Tryd.prog.fieldsOf 41)) := by kernel_rfl
  rw [show (10000 : Nat) = 9999 + 1 from rfl, run_equalIn_agg w 9999 41 _ _ hS (by kernel_rfl)]
  simp only [Program.fieldsOf, Tryd.underlying41]
  have u3 := Tryd.underlying3
  go_simp
  by_cases h1 : a = c <;> by_cases h2 : b = d <;> simp [h1, h2]
@[go_sem] theorem guard_arc (op : BinOp) (x y : Operand) (xs ys : Array Value) (w : World) : (eqGuard op 41 x y (.agg xs) (.agg ys)).run Tryd.prog w = .ok () w := run_eqGuard_agg w op _ x y xs ys (by kernel_rfl)

@[go_sem] theorem neq_arc (a b c d : Int) (w : World) : (binOp .neq 41 (.agg #[.int .i64 a, .int .i64 b]) (.agg #[.int .i64 c, .int .i64 d])).run Tryd.prog w = .ok (.bool (!(a == c && b == d))) w := by
  rw [run_neq_struct, eq_arc]
  rfl
def sameP (N : Int) (E : List (Int × Int)) (A : List (List Int)) (N' : Int) (E' : List (Int × Int)) (A' : List (List Int)) : Prop :=
  N = N' ∧ E = E' ∧ A.length = A'.length ∧ ∀ v, v < A.length → cycP (rowOf A v) (rowOf A' v)
open Classical in
noncomputable def sameB (N : Int) (E : List (Int × Int)) (A : List (List Int)) (N' : Int) (E' : List (Int × Int)) (A' : List (List Int)) : Bool := decide (sameP N E A N' E' A')
theorem sameB_yes {N : Int} {E : List (Int × Int)} {A : List (List Int)} {N' : Int} {E' : List (Int × Int)} {A' : List (List Int)} (h : sameP N E A N' E' A') : sameB N E A N' E' A' = true := by unfold sameB; simp [h]
theorem sameB_no {N : Int} {E : List (Int × Int)} {A : List (List Int)} {N' : Int} {E' : List (Int × Int)} {A' : List (List Int)} (h : ¬ sameP N E A N' E' A') : sameB N E A N' E' A' = false := by unfold sameB; simp [h]
theorem prs_ext {E E' : List (Int × Int)} (hl : E.length = E'.length) (h : ∀ i, i < E.length → pr E i = pr E' i) : E = E' := by
  refine List.ext_getElem hl fun i h1 h2 => ?_
  have := h i h1
  rw [pr_eq E h1, pr_eq E' h2] at this
  exact this

set_option maxRecDepth 8000 in
set_option maxHeartbeats 8000000 in
theorem same_r (N N' : Int) (pE pA pE' pA' : Option Addr) (nE nA cE cA nE' nA' cE' cA' : Nat) (E E' : List (Int × Int)) (A A' : List (List Int)) (w : World) (hR : RotAt w pE pA E A) (hR' : RotAt w pE' pA' E' A')
    (hnE : E.length = nE) (hnA : A.length = nA) (hnE' : E'.length = nE') (hnA' : A'.length = nA') :
    Calls Tryd.prog 28 #[.agg #[.int .i64 N, .slice pE nE cE, .slice pA nA cA], .agg #[.int .i64 N', .slice pE' nE' cE', .slice pA' nA' cA']] w fun e w' => e = .returned (.bool (sameB N E A N' E' A')) ∧ Grew w w' := by
  subst hnE hnA hnE' hnA'
  by_cases h1 : N = N'
  case neg =>
    have Hf : Hid (sameB N E A N' E' A' = false) := Lib.hid (sameB_no fun h => h1 h.1)
    have h1' : (N != N') = true := by rw [bne_iff_ne]; exact h1
    clear h1 hR hR'
    go_enter Tryd.func28, Tryd.ntmps28
    go_wp2
    go_ret
    exact ⟨by rw [Hf.out]; rfl, by (repeat (first | exact Grew.refl _ | refine Grew.over ?_ _ | refine Grew.alloc ?_ _ | refine Grew.drew ?_ | refine Grew.drewN ?_ _))⟩
  subst h1
  by_cases h2 : E.length = E'.length
  case neg =>
    have Hf : Hid (sameB N E A N E' A' = false) := Lib.hid (sameB_no fun h => h2 (by rw [h.2.1]))
    have h2' : ((E.length : Int) != (E'.length : Int)) = true := by rw [bne_iff_ne]; omega
    clear h2 hR hR'
    go_enter Tryd.func28, Tryd.ntmps28
    go_wp2
    go_ret
    exact ⟨by rw [Hf.out]; rfl, by (repeat (first | exact Grew.refl _ | refine Grew.over ?_ _ | refine Grew.alloc ?_ _ | refine Grew.drew ?_ | refine Grew.drewN ?_ _))⟩
  by_cases h3 : A.length = A'.length
  case neg =>
    have Hf : Hid (sameB N E A N E' A' = false) := Lib.hid (sameB_no fun h => h3 h.2.2.1)
    have h2' : ((E.length : Int) != (E'.length : Int)) = false := by simp [h2]
    have h3' : ((A.length : Int) != (A'.length : Int)) = true := by rw [bne_iff_ne]; omega
    clear h2 h3 hR hR'
    go_enter Tryd.func28, Tryd.ntmps28
    go_wp2
    go_ret
    exact ⟨by rw [Hf.out]; rfl, by (repeat (first | exact Grew.refl _ | refine Grew.over ?_ _ | refine Grew.alloc ?_ _ | refine Grew.drew ?_ | refine Grew.drewN ?_ _))⟩
  have he1 := hR.e1
  have ha1 := hR.a1
  have HR := Lib.hid hR
  have HR' := Lib.hid hR'
  have H2 := Lib.hid h2
  have H3 := Lib.hid h3
  obtain ⟨L, hL⟩ : ∃ L, E.length = L := ⟨_, rfl⟩
  obtain ⟨M, hM⟩ : ∃ M, A.length = M := ⟨_, rfl⟩
  have hL' : E'.length = L := by omega
  have hM' : A'.length = M := by omega
  have HL := Lib.hid hL
  have HM := Lib.hid hM
  have HL' := Lib.hid hL'
  have HM' := Lib.hid hM'
  rw [hL] at he1
  rw [hM] at ha1
  rw [hL, hL', hM, hM']
  clear h2 h3 hR hR' hL hL' hM hM'
  go_enter Tryd.func28, Tryd.ntmps28
  go_wp2
  obtain ⟨wB, hwB⟩ : ∃ wB, (w.alloc (.cells #[.int .i64 N, .slice pE L cE, .slice pA M cA] 25)).alloc (.cells #[.int .i64 N, .slice pE' L cE', .slice pA' M cA'] 25) = wB := ⟨_, rfl⟩
  have HwB : Hid (Grew w wB) := Lib.hid (by rw [← hwB]; (repeat (first | exact Grew.refl _ | refine Grew.over ?_ _ | refine Grew.alloc ?_ _ | refine Grew.drew ?_ | refine Grew.drewN ?_ _)))
  have hsB : wB.heap.size = w.heap.size + 2 := by rw [← hwB]; simp
  have b1 : wB.cell? ⟨w.heap.size, 1, none⟩ = some (.slice pE L cE) := by rw [← hwB]; simp [go_sem]
  have b2 : wB.cell? ⟨w.heap.size, 2, none⟩ = some (.slice pA M cA) := by rw [← hwB]; simp [go_sem]
  have b4 : wB.cell? ⟨w.heap.size + 1, 1, none⟩ = some (.slice pE' L cE') := by rw [← hwB]; simp [go_sem]
  have b5 : wB.cell? ⟨w.heap.size + 1, 2, none⟩ = some (.slice pA' M cA') := by rw [← hwB]; simp [go_sem]
  have Hb1 := Lib.hid b1
  have Hb2 := Lib.hid b2
  have Hb4 := Lib.hid b4
  have Hb5 := Lib.hid b5
  rw [hwB]
  clear hwB b1 b2 b4 b5
  go_loopw [5] (fun i wr => ∃ j : Nat, j ≤ L ∧ i = .int .i64 j ∧ (∀ t, t < j → pr E t = pr E' t) ∧ Grew wB wr) (fun i _ => L - (intOf i).toNat)
  case atStart => exact ⟨0, Nat.zero_le _, rfl, fun t ht => absurd ht (Nat.not_lt_zero _), Grew.refl _⟩
  case round =>
    obtain ⟨j, hj, rfl, hall, hg⟩ := hrel
    have Hall := Lib.hid hall
    have Hg := Lib.hid hg
    have q1 := hg.cellEq Hb1.out
    have q2 := hg.cellEq Hb2.out
    have q4 := hg.cellEq Hb4.out
    have q5 := hg.cellEq Hb5.out
    have hsz := hg.below.size
    clear hall hg
    by_cases hlt : j < L
    · obtain ⟨bE, oE, rfl, lE, kE⟩ := HR.out.hE.cells (by rw [HL.out]; omega)
      obtain ⟨bF, oF, rfl, lF, kF⟩ := HR'.out.hE.cells (by rw [HL'.out]; omega)
      obtain ⟨c1, c2⟩ := kE wr (HwB.out.trans Hg.out) j (by rw [HL.out]; exact hlt)
      obtain ⟨c3, c4⟩ := kF wr (HwB.out.trans Hg.out) j (by rw [HL'.out]; exact hlt)
      clear kE kF
      have hszw := HwB.out.below.size
      obtain ⟨x1, hx1⟩ : ∃ x1, (pr E j).1 = x1 := ⟨_, rfl⟩
      obtain ⟨x2, hx2⟩ : ∃ x2, (pr E j).2 = x2 := ⟨_, rfl⟩
      obtain ⟨y1, hy1⟩ : ∃ y1, (pr E' j).1 = y1 := ⟨_, rfl⟩
      obtain ⟨y2, hy2⟩ : ∃ y2, (pr E' j).2 = y2 := ⟨_, rfl⟩
      rw [hx1] at c1
      rw [hx2] at c2
      rw [hy1] at c3
      rw [hy2] at c4
      by_cases e1 : x1 = y1
      case neg =>
        have Hf : Hid (sameB N E A N E' A' = false) := Lib.hid (sameB_no fun h => e1 (by rw [← hx1, ← hy1, h.2.1]))
        clear hx1 hx2 hy1 hy2
        go_upto_region 6 with fail
        refine wp_region_over (by kernel_rfl) (by kernel_rfl) ?_; (repeat (go_big_quiet_step (fail))); refine wpQuiet_nil ?_; rintro _ ⟨x, rfl⟩
        go_wp2
        go_ret
        exact ⟨by rw [Hf.out]; rfl, (HwB.out.trans Hg.out).trans (by (repeat (first | exact Grew.refl _ | refine Grew.over ?_ _ | refine Grew.alloc ?_ _ | refine Grew.drew ?_ | refine Grew.drewN ?_ _)))⟩
      subst e1
      by_cases e2 : x2 = y2
      case neg =>
        have Hf : Hid (sameB N E A N E' A' = false) := Lib.hid (sameB_no fun h => e2 (by rw [← hx2, ← hy2, h.2.1]))
        clear hx1 hx2 hy1 hy2
        go_upto_region 6 with fail
        refine wp_region_over (by kernel_rfl) (by kernel_rfl) ?_; (repeat (go_big_quiet_step (fail))); refine wpQuiet_nil ?_; rintro _ ⟨x, rfl⟩
        go_wp2
        go_ret
        exact ⟨by rw [Hf.out]; rfl, (HwB.out.trans Hg.out).trans (by (repeat (first | exact Grew.refl _ | refine Grew.over ?_ _ | refine Grew.alloc ?_ _ | refine Grew.drew ?_ | refine Grew.drewN ?_ _)))⟩
      subst e2
      have Hall2 : Hid (∀ t, t < j + 1 → pr E t = pr E' t) := Lib.hid (fun t ht => by
        by_cases e : t = j
        · subst e; exact Prod.ext (hx1.trans hy1.symm) (hx2.trans hy2.symm)
        · exact Hall.out t (by omega))
      clear hx1 hx2 hy1 hy2
      go_upto_region 6 with fail
      refine wp_region_over (by kernel_rfl) (by kernel_rfl) ?_; (repeat (go_big_quiet_step (fail))); refine wpQuiet_nil ?_; rintro _ ⟨x, rfl⟩
      go_wp2
      go_roundw
      case rel => exact ⟨j + 1, by omega, by go_num, Hall2.out, Hg.out.trans (by (repeat (first | exact Grew.refl _ | refine Grew.over ?_ _ | refine Grew.alloc ?_ _ | refine Grew.drew ?_ | refine Grew.drewN ?_ _)))⟩
      case measure => simp [intOf]; omega
    · have HE : Hid (E = E') := Lib.hid (prs_ext H2.out fun i hi => Hall.out i (by rw [HL.out] at hi; omega))
      go_wp2
      clear q1 q2 q4 q5
      go_loopw [6] (fun i wr => ∃ v : Nat, v ≤ M ∧ i = .int .i64 v ∧ (∀ t, t < v → cycP (rowOf A t) (rowOf A' t)) ∧ Grew wB wr) (fun i _ => M - (intOf i).toNat)
      case atStart => exact ⟨0, Nat.zero_le _, rfl, fun t ht => absurd ht (Nat.not_lt_zero _), Hg.out⟩
      case round =>
        obtain ⟨v, hv, rfl, hall, hg⟩ := hrel
        have Hall3 := Lib.hid hall
        have Hg3 := Lib.hid hg
        have q2 := hg.cellEq Hb2.out
        have q5 := hg.cellEq Hb5.out
        have hsz3 := hg.below.size
        clear hall hg
        by_cases hlt2 : v < M
        · obtain ⟨bA, oA, rp, rc, rfl, lA, kA⟩ := HR.out.hA.rows (by rw [HM.out]; omega)
          obtain ⟨bB, oB, sp, sc, rfl, lB, kB⟩ := HR'.out.hA.rows (by rw [HM'.out]; omega)
          obtain ⟨a1, _⟩ := kA wr (HwB.out.trans Hg3.out) v (by rw [HM.out]; exact hlt2)
          obtain ⟨d1, _⟩ := kB wr (HwB.out.trans Hg3.out) v (by rw [HM'.out]; exact hlt2)
          obtain ⟨_, a2⟩ := kA w (Grew.refl _) v (by rw [HM.out]; exact hlt2)
          obtain ⟨_, d2⟩ := kB w (Grew.refl _) v (by rw [HM'.out]; exact hlt2)
          have hr1 := HR.out.r1 v (by rw [HM.out]; exact hlt2)
          have hr2 := HR'.out.r1 v (by rw [HM'.out]; exact hlt2)
          have hszw := HwB.out.below.size
          obtain ⟨rv, hrv⟩ : ∃ rv, rp v = rv := ⟨_, rfl⟩
          rw [hrv] at a1 a2
          obtain ⟨sv, hsv⟩ : ∃ sv, sp v = sv := ⟨_, rfl⟩
          rw [hsv] at d1 d2
          cases hc : cycB (rowOf A v) (rowOf A' v)
          · have Hf : Hid (sameB N E A N E' A' = false) := Lib.hid (sameB_no fun h => by
              have := cycB_yes (h.2.2.2 v (by rw [HM.out]; exact hlt2))
              rw [hc] at this
              cases this)
            have Hcy := Lib.hid (fun (W1 : World) (hg : Grew w W1) => hc ▸ cyclic_r rv sv _ _ (rc v) (sc v) _ _ W1 (a2.grew hg) (d2.grew hg) hr1 hr2 rfl rfl)
            clear kA kB a2 d2 hc hrv hsv
            go_upto_region 11 with fail
            refine wp_region_over (by kernel_rfl) (by kernel_rfl) ?_; (repeat (go_big_quiet_step ((go_at_call 43; apply over_call; with_reducible exact Hcy.out _ ((HwB.out.trans Hg3.out).trans (by (repeat (first | exact Grew.refl _ | refine Grew.over ?_ _ | refine Grew.alloc ?_ _ | refine Grew.drew ?_ | refine Grew.drewN ?_ _)))))))); refine wpQuiet_nil ?_; rintro _ ⟨x, rfl⟩
            go_wp2
            go_ret
            exact ⟨by rw [Hf.out]; rfl, (HwB.out.trans Hg3.out).trans (by (repeat (first | exact Grew.refl _ | refine Grew.over ?_ _ | refine Grew.alloc ?_ _ | refine Grew.drew ?_ | refine Grew.drewN ?_ _)))⟩
          · have Hall4 : Hid (∀ t, t < v + 1 → cycP (rowOf A t) (rowOf A' t)) := Lib.hid (fun t ht => by
              by_cases e : t = v
              · subst e; exact cycB_iff.1 hc
              · exact Hall3.out t (by omega))
            have Hcy := Lib.hid (fun (W1 : World) (hg : Grew w W1) => hc ▸ cyclic_r rv sv _ _ (rc v) (sc v) _ _ W1 (a2.grew hg) (d2.grew hg) hr1 hr2 rfl rfl)
            clear kA kB a2 d2 hc hrv hsv
            go_upto_region 11 with fail
            refine wp_region_over (by kernel_rfl) (by kernel_rfl) ?_; (repeat (go_big_quiet_step ((go_at_call 43; apply over_call; with_reducible exact Hcy.out _ ((HwB.out.trans Hg3.out).trans (by (repeat (first | exact Grew.refl _ | refine Grew.over ?_ _ | refine Grew.alloc ?_ _ | refine Grew.drew ?_ | refine Grew.drewN ?_ _)))))))); refine wpQuiet_nil ?_; rintro _ ⟨x, rfl⟩
            go_wp2
            go_roundw
            case rel => exact ⟨v + 1, by omega, by go_num, Hall4.out, Hg3.out.trans (by (repeat (first | exact Grew.refl _ | refine Grew.over ?_ _ | refine Grew.alloc ?_ _ | refine Grew.drew ?_ | refine Grew.drewN ?_ _)))⟩
            case measure => simp [intOf]; omega
        · have Hf : Hid (sameB N E A N E' A' = true) := Lib.hid (sameB_yes ⟨rfl, HE.out, H3.out, fun t ht => Hall3.out t (by rw [HM.out] at ht; omega)⟩)
          go_wp2
          go_ret
          exact ⟨by rw [Hf.out]; rfl, (HwB.out.trans Hg3.out).trans (by (repeat (first | exact Grew.refl _ | refine Grew.over ?_ _ | refine Grew.alloc ?_ _ | refine Grew.drew ?_ | refine Grew.drewN ?_ _)))⟩
end Go.Proofs.YtcahceceeeaeoaaDoor
