/- Simple of the reference. -/
import Derived.Test.YtdacnkjmimhcaaaDoorTriA
set_option linter.unusedSimpArgs false
set_option linter.unusedVariables false
namespace Go.Proofs.YtdacnkjmimhcaaaDoor
open Go.RowKit
attribute [local go_sem ↓] Go.wp_at_zero Go.wp_at_succ

/-- No two edges join the same vertices. -/
def simB (E : List (Int × Int)) : Bool := (List.range E.length).all fun i => !joinB (E.take i) (pr E i).1 (pr E i).2
theorem sim_all {E : List (Int × Int)} (h : ∀ i, i < E.length → joinB (E.take i) (pr E i).1 (pr E i).2 = false) : simB E = true := by
  unfold simB; rw [List.all_eq_true]; intro i hi; rw [h i (List.mem_range.1 hi)]; rfl
theorem sim_bad {E : List (Int × Int)} {i : Nat} (hi : i < E.length) (h : joinB (E.take i) (pr E i).1 (pr E i).2 = true) : simB E = false := by
  unfold simB; rw [List.all_eq_false]; exact ⟨i, List.mem_range.2 hi, by rw [h]; simp⟩
theorem Prs.take {w : World} {p : Option Addr} {E : List (Int × Int)} (h : Prs w p E) (i : Nat) : Prs w p (E.take i) := by
  obtain ⟨h1, b, o, h3, h4⟩ := h
  refine ⟨by rw [List.length_take]; omega, b, o, fun hp => h3 (by rw [List.length_take] at hp; omega), fun k hk => ?_⟩
  rw [List.length_take] at hk
  have e : pr (E.take i) k = pr E k := by unfold pr; simp only [List.getD_eq_getElem?_getD, List.getElem?_take]; rw [if_pos (by omega)]
  rw [e]
  exact h4 k (by omega)

set_option maxHeartbeats 2000000 in
theorem simple_r (N : Int) (pE pA : Option Addr) (nE nA cE cA : Nat) (E : List (Int × Int)) (w : World) (hE : Prs w pE E) (he1 : E.length ≤ 100) (hcE : E.length ≤ cE) (hcM : cE ≤ maxLen) (hnE : E.length = nE) :
    Calls Tryd.prog 45 #[.agg #[.int .i64 N, .slice pE nE cE, .slice pA nA cA]] w fun e w' => e = .returned (.bool (simB E)) ∧ Grew w w' := by
  subst hnE
  have HE := Lib.hid hE
  clear hE
  go_enter Tryd.func45, Tryd.ntmps45
  go_wp2
  go_loopw [3] (fun i wr => ∃ j : Nat, j ≤ E.length ∧ i = .int .i64 j ∧ (∀ t, t < j → joinB (E.take t) (pr E t).1 (pr E t).2 = false) ∧ Grew (w.alloc (.cells #[.int .i64 N, .slice pE E.length cE, .slice pA nA cA] 25)) wr) (fun i _ => E.length - (intOf i).toNat)
  case atStart => exact ⟨0, Nat.zero_le _, rfl, fun t ht => absurd ht (Nat.not_lt_zero _), Grew.refl _⟩
  case round =>
    obtain ⟨j, hj, rfl, hok, hg⟩ := hrel
    have Hok := Lib.hid hok
    have Hg := Lib.hid hg
    have hszr := hg.below.size
    simp at hszr
    have Hgw : Hid (Grew w wr) := Lib.hid (((Grew.refl w).alloc _).trans hg)
    have b0 : wr.cell? ⟨w.heap.size, 0, none⟩ = some (.int .i64 N) := hg.cellEq (by first | (go_simp; done) | (simp [go_sem, ↓IntWalk.iteOmega, *]; done))
    have b1 : wr.cell? ⟨w.heap.size, 1, none⟩ = some (.slice pE E.length cE) := hg.cellEq (by first | (go_simp; done) | (simp [go_sem, ↓IntWalk.iteOmega, *]; done))
    have b2 : wr.cell? ⟨w.heap.size, 2, none⟩ = some (.slice pA nA cA) := hg.cellEq (by first | (go_simp; done) | (simp [go_sem, ↓IntWalk.iteOmega, *]; done))
    clear hok hg
    by_cases hlt : j < E.length
    · obtain ⟨bE, oE, rfl, lE, cE'⟩ := HE.out.cells (by omega)
      obtain ⟨c1, c2⟩ := cE' wr Hgw.out j hlt
      clear cE'
      have HJ := Lib.hid (fun W1 (hg1 : Grew w W1) => joined35_r N (some ⟨bE, oE, none⟩) pA j nA cE cA (E.take j) (pr E j).1 (pr E j).2 W1 ((HE.out.take j).grew hg1) (by rw [List.length_take]; omega) (by rw [List.length_take]; omega))
      obtain ⟨x, hx⟩ : ∃ x, (pr E j).1 = x := ⟨_, rfl⟩
      obtain ⟨y, hy⟩ : ∃ y, (pr E j).2 = y := ⟨_, rfl⟩
      obtain ⟨t, ht⟩ : ∃ t, joinB (E.take j) (pr E j).1 (pr E j).2 = t := ⟨_, rfl⟩
      have Ht := Lib.hid ht
      rw [ht, hx, hy] at HJ
      rw [hx] at c1; rw [hy] at c2
      clear hx hy ht
      cases t
      case false =>
        have Hnx : Hid (∀ t, t < j + 1 → joinB (E.take t) (pr E t).1 (pr E t).2 = false) := Lib.hid (fun t ht => by
          by_cases e : t = j
          · subst e; exact Ht.out
          · exact Hok.out t (by omega))
        go_upto_region 6 with fail
        refine wp_region_over (by kernel_rfl) (by kernel_rfl) ?_; (repeat (go_big_quiet_step ((go_at_call 56; apply over_call; with_reducible exact HJ.out _ (Hgw.out.trans (by (repeat (first | exact Grew.refl _ | refine Grew.over ?_ _ | refine Grew.alloc ?_ _ | refine Grew.drew ?_ | refine Grew.drewN ?_ _)))))))); refine wpQuiet_nil ?_; rintro _ ⟨x, rfl⟩
        go_wp2
        go_roundw
        case rel => exact ⟨j + 1, by omega, by go_num, Hnx.out, Hg.out.trans (by (repeat (first | exact Grew.refl _ | refine Grew.over ?_ _ | refine Grew.alloc ?_ _ | refine Grew.drew ?_ | refine Grew.drewN ?_ _)))⟩
        case measure => simp [intOf]; omega
      case true =>
        have Hf : Hid (simB E = false) := Lib.hid (sim_bad hlt Ht.out)
        go_upto_region 6 with fail
        refine wp_region_over (by kernel_rfl) (by kernel_rfl) ?_; (repeat (go_big_quiet_step ((go_at_call 56; apply over_call; with_reducible exact HJ.out _ (Hgw.out.trans (by (repeat (first | exact Grew.refl _ | refine Grew.over ?_ _ | refine Grew.alloc ?_ _ | refine Grew.drew ?_ | refine Grew.drewN ?_ _)))))))); refine wpQuiet_nil ?_; rintro _ ⟨x, rfl⟩
        go_wp2
        go_ret
        exact ⟨by rw [Hf.out]; rfl, Hgw.out.trans (by (repeat (first | exact Grew.refl _ | refine Grew.over ?_ _ | refine Grew.alloc ?_ _ | refine Grew.drew ?_ | refine Grew.drewN ?_ _)))⟩
    · have Hf : Hid (simB E = true) := Lib.hid (sim_all fun i hi => Hok.out i (by omega))
      go_wp2
      go_ret
      exact ⟨by rw [Hf.out]; rfl, Hgw.out.trans (by (repeat (first | exact Grew.refl _ | refine Grew.over ?_ _ | refine Grew.alloc ?_ _ | refine Grew.drew ?_ | refine Grew.drewN ?_ _)))⟩

end Go.Proofs.YtdacnkjmimhcaaaDoor
