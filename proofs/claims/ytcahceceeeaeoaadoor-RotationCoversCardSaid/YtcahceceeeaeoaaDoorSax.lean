/- Exact of the reference, at equal systems. -/
import Derived.Test.YtcahceceeeaeoaaDoorSam
set_option linter.unusedSimpArgs false
set_option linter.unusedVariables false
namespace Go.Proofs.YtcahceceeeaeoaaDoor
open Go.RowKit
attribute [local go_sem ↓] Go.wp_at_zero Go.wp_at_succ

theorem cycP_refl (a : List Int) : cycP a a := by
  refine ⟨rfl, ?_⟩
  by_cases h : a.length = 0
  · exact Or.inl h
  · exact Or.inr ⟨0, by omega, fun k hk => by rw [Nat.zero_add, Nat.mod_eq_of_lt hk]⟩
theorem sameP_refl (N : Int) (E : List (Int × Int)) (A : List (List Int)) : sameP N E A N E A := ⟨rfl, rfl, rfl, fun _ _ => cycP_refl _⟩

set_option maxRecDepth 8000 in
set_option maxHeartbeats 8000000 in
theorem exact_e (N : Int) (pE pA pE' pA' : Option Addr) (nE nA cE cA nE' nA' cE' cA' : Nat) (E : List (Int × Int)) (A : List (List Int)) (w : World) (hR : RotAt w pE pA E A) (hR' : RotAt w pE' pA' E A)
    (hnE : E.length = nE) (hnA : A.length = nA) (hnE' : E.length = nE') (hnA' : A.length = nA') :
    Calls Tryd.prog 23 #[.agg #[.int .i64 N, .slice pE nE cE, .slice pA nA cA], .agg #[.int .i64 N, .slice pE' nE' cE', .slice pA' nA' cA']] w fun e w' => e = .returned (.bool true) ∧ Grew w w' := by
  subst hnE hnA hnE' hnA'
  have ha1 := hR.a1
  have HR := Lib.hid hR
  have HR' := Lib.hid hR'
  have Hs := Lib.hid (fun (W1 : World) (hg : Grew w W1) => (sameB_yes (sameP_refl N E A)) ▸ same_r N N pE pA pE' pA' _ _ cE cA _ _ cE' cA' E E A A W1 (hR.grew hg) (hR'.grew hg) rfl rfl rfl rfl)
  clear hR hR'
  go_enter Tryd.func23, Tryd.ntmps23
  go_wp2_with (go_at_call 28; apply Calls.mono; (with_reducible exact Hs.out _ (by (repeat (first | exact Grew.refl _ | refine Grew.over ?_ _ | refine Grew.alloc ?_ _ | refine Grew.drew ?_ | refine Grew.drewN ?_ _)))); rintro e w' ⟨rfl, x, rfl⟩)
  obtain ⟨wB, hwB⟩ : ∃ wB, (w.alloc (.cells #[.int .i64 N, .slice pE E.length cE, .slice pA A.length cA] 25)).alloc (.cells #[.int .i64 N, .slice pE' E.length cE', .slice pA' A.length cA'] 25) = wB := ⟨_, rfl⟩
  have HwB : Hid (Grew w wB) := Lib.hid (by rw [← hwB]; (repeat (first | exact Grew.refl _ | refine Grew.over ?_ _ | refine Grew.alloc ?_ _ | refine Grew.drew ?_ | refine Grew.drewN ?_ _)))
  have hsB : wB.heap.size = w.heap.size + 2 := by rw [← hwB]; simp
  have b2 : wB.cell? ⟨w.heap.size, 2, none⟩ = some (.slice pA A.length cA) := by rw [← hwB]; simp [go_sem]
  have b5 : wB.cell? ⟨w.heap.size + 1, 2, none⟩ = some (.slice pA' A.length cA') := by rw [← hwB]; simp [go_sem]
  have Hb2 := Lib.hid b2
  have Hb5 := Lib.hid b5
  rw [hwB]
  clear hwB b2 b5
  go_loopw [5] (fun i wr => ∃ v : Nat, v ≤ A.length ∧ i = .int .i64 v ∧ Grew wB wr) (fun i _ => A.length - (intOf i).toNat)
  case atStart => exact ⟨0, Nat.zero_le _, rfl, by (repeat (first | exact Grew.refl _ | refine Grew.over ?_ _ | refine Grew.alloc ?_ _ | refine Grew.drew ?_ | refine Grew.drewN ?_ _))⟩
  case round =>
    obtain ⟨v, hv, rfl, hg⟩ := hrel
    have Hg := Lib.hid hg
    have q2 := hg.cellEq Hb2.out
    have q5 := hg.cellEq Hb5.out
    have hsz := hg.below.size
    have hszw := HwB.out.below.size
    clear hg
    by_cases hlt : v < A.length
    · obtain ⟨bA, oA, rp, rc, rfl, lA, kA⟩ := HR.out.hA.rows (by omega)
      obtain ⟨bB, oB, sp, sc, rfl, lB, kB⟩ := HR'.out.hA.rows (by omega)
      obtain ⟨_, a2⟩ := kA w (Grew.refl _) v hlt
      obtain ⟨_, d2⟩ := kB w (Grew.refl _) v hlt
      have KA := Lib.hid (fun (W1 : World) (hg : Grew w W1) => (kA W1 hg v hlt).1)
      have KB := Lib.hid (fun (W1 : World) (hg : Grew w W1) => (kB W1 hg v hlt).1)
      have hrl := HR.out.r1 v hlt
      have Ha2 := Lib.hid a2
      have Hd2 := Lib.hid d2
      clear kA kB a2 d2
      go_wp2
      clear q2 q5
      go_loopw [6] (fun i wk => ∃ k : Nat, k ≤ (rowOf A v).length ∧ i = .int .i64 k ∧ Grew wB wk) (fun i _ => (rowOf A v).length - (intOf i).toNat)
      case atStart => exact ⟨0, Nat.zero_le _, rfl, Hg.out.trans (by (repeat (first | exact Grew.refl _ | refine Grew.over ?_ _ | refine Grew.alloc ?_ _ | refine Grew.drew ?_ | refine Grew.drewN ?_ _)))⟩
      case round =>
        obtain ⟨k, hk, rfl, hgk⟩ := hrel
        have Hgk := Lib.hid hgk
        have q2 := hgk.cellEq Hb2.out
        have q5 := hgk.cellEq Hb5.out
        have hszk := hgk.below.size
        have a1 := KA.out wr (HwB.out.trans hgk)
        have d1 := KB.out wr (HwB.out.trans hgk)
        clear hgk
        by_cases hlk : k < (rowOf A v).length
        · obtain ⟨bI, oI, eI, lI, cI⟩ := Ha2.out.cells (by omega)
          obtain ⟨bJ, oJ, eJ, lJ, cJ⟩ := Hd2.out.cells (by omega)
          have c1 := cI wr (HwB.out.trans Hgk.out) k hlk
          have c2 := cJ wr (HwB.out.trans Hgk.out) k hlk
          rw [eI] at a1
          rw [eJ] at d1
          clear cI cJ eI eJ
          go_upto_region 9 with fail
          refine wp_region_over (by kernel_rfl) (by kernel_rfl) ?_; (repeat (go_big_quiet_step (fail))); refine wpQuiet_nil ?_; rintro _ ⟨x, rfl⟩
          go_wp2
          go_roundw
          case rel => exact ⟨k + 1, by omega, by go_num, Hgk.out.trans (by (repeat (first | exact Grew.refl _ | refine Grew.over ?_ _ | refine Grew.alloc ?_ _ | refine Grew.drew ?_ | refine Grew.drewN ?_ _)))⟩
          case measure => simp [intOf]; omega
        · go_wp2
          go_roundw
          case rel => exact ⟨v + 1, by omega, by go_num, Hgk.out.trans (by (repeat (first | exact Grew.refl _ | refine Grew.over ?_ _ | refine Grew.alloc ?_ _ | refine Grew.drew ?_ | refine Grew.drewN ?_ _)))⟩
          case measure => simp [intOf]; omega
    · go_wp2
      go_ret
      exact ⟨rfl, (HwB.out.trans Hg.out).trans (by (repeat (first | exact Grew.refl _ | refine Grew.over ?_ _ | refine Grew.alloc ?_ _ | refine Grew.drew ?_ | refine Grew.drewN ?_ _)))⟩
end Go.Proofs.YtcahceceeeaeoaaDoor
