/- Edges that join. -/
import Derived.Test.YtdacnkjmimhcaaaDoorRotA
set_option linter.unusedSimpArgs false
set_option linter.unusedVariables false
namespace Go.Proofs.YtdacnkjmimhcaaaDoor
open Go.RowKit
attribute [local go_sem ↓] Go.wp_at_zero Go.wp_at_succ

/-- An edge joins u and v. -/
def jn (u v : Int) (a : Int × Int) : Bool := (a.1 == u && a.2 == v) || (a.1 == v && a.2 == u)
def joinB (E : List (Int × Int)) (u v : Int) : Bool := E.any (jn u v)
theorem join_hit {E : List (Int × Int)} {u v : Int} {i : Nat} (hi : i < E.length) (h : jn u v (pr E i) = true) : joinB E u v = true := by
  unfold joinB; rw [List.any_eq_true]; exact ⟨E[i], List.getElem_mem hi, by rw [← pr_eq E hi]; exact h⟩
theorem join_none {E : List (Int × Int)} {u v : Int} (h : ∀ i, i < E.length → jn u v (pr E i) = false) : joinB E u v = false := by
  unfold joinB; rw [List.any_eq_false]; intro a ha
  obtain ⟨i, hi, rfl⟩ := List.getElem_of_mem ha
  have := h i hi
  rw [pr_eq E hi] at this
  rw [this]; simp
theorem jn_no {u v : Int} {a : Int × Int} (h : jn u v a = false) : ¬ (a.1 = u ∧ a.2 = v) ∧ ¬ (a.1 = v ∧ a.2 = u) := by
  unfold jn at h; simp at h; omega

set_option maxHeartbeats 2000000 in
theorem joined_r (N : Int) (pE pA : Option Addr) (nE nA cE cA : Nat) (E : List (Int × Int)) (u v : Int) (w : World) (hE : Prs w pE E) (he1 : E.length ≤ 100) (hnE : E.length = nE) :
    Calls Tryd.prog 17 #[.agg #[.int .i64 N, .slice pE nE cE, .slice pA nA cA], .int .i64 u, .int .i64 v] w fun e w' => e = .returned (.bool (joinB E u v)) ∧ Grew w w' := by
  subst hnE
  have HE := Lib.hid hE
  clear hE
  go_enter Tryd.func17, Tryd.ntmps17
  go_wp2
  go_loopw [7] (fun i wr => ∃ j : Nat, j ≤ E.length ∧ i = .int .i64 j ∧ (∀ t, t < j → jn u v (pr E t) = false) ∧ Grew (w.alloc (.cells #[.int .i64 N, .slice pE E.length cE, .slice pA nA cA] 25)) wr) (fun i _ => E.length - (intOf i).toNat)
  case atStart => exact ⟨0, Nat.zero_le _, rfl, fun t ht => absurd ht (Nat.not_lt_zero _), Grew.refl _⟩
  case round =>
    obtain ⟨j, hj, rfl, hok, hg⟩ := hrel
    have Hok := Lib.hid hok
    have Hg := Lib.hid hg
    have hszr := hg.below.size
    simp at hszr
    have Hgw : Hid (Grew w wr) := Lib.hid (((Grew.refl w).alloc _).trans hg)
    have b1 : wr.cell? ⟨w.heap.size, 1, none⟩ = some (.slice pE E.length cE) := hg.cellEq (by first | (go_simp; done) | (simp [go_sem, ↓IntWalk.iteOmega, *]; done))
    clear hok hg
    by_cases hlt : j < E.length
    · obtain ⟨bE, oE, rfl, lE, cE'⟩ := HE.out.cells (by omega)
      obtain ⟨c1, c2⟩ := cE' wr Hgw.out j hlt
      clear cE'
      obtain ⟨x, hx⟩ : ∃ x, (pr E j).1 = x := ⟨_, rfl⟩
      obtain ⟨y, hy⟩ : ∃ y, (pr E j).2 = y := ⟨_, rfl⟩
      rw [hx] at c1; rw [hy] at c2
      have Hjn : Hid (jn u v (pr E j) = ((x == u && y == v) || (x == v && y == u))) := Lib.hid (by unfold jn; rw [hx, hy])
      clear hx hy
      cases hc : ((x == u && y == v) || (x == v && y == u)) <;> rw [hc] at Hjn
      case false =>
        have Hnx : Hid (∀ t, t < j + 1 → jn u v (pr E t) = false) := Lib.hid (fun t ht => by
          by_cases e : t = j
          · subst e; exact Hjn.out
          · exact Hok.out t (by omega))
        cases h1 : x == u <;> cases h2 : y == v <;> cases h3 : x == v <;> cases h4 : y == u <;> rw [h1, h2, h3, h4] at hc <;> first | (exact absurd hc (by decide)) | skip
        all_goals
          clear hc
          go_wp2
          go_roundw
          case rel => exact ⟨j + 1, by omega, by go_num, Hnx.out, Hg.out.trans (by (repeat (first | exact Grew.refl _ | refine Grew.over ?_ _ | refine Grew.alloc ?_ _ | refine Grew.drew ?_ | refine Grew.drewN ?_ _)))⟩
          case measure => simp [intOf]; omega
      case true =>
        have Hf : Hid (joinB E u v = true) := Lib.hid (join_hit hlt Hjn.out)
        cases h1 : x == u <;> cases h2 : y == v <;> cases h3 : x == v <;> cases h4 : y == u <;> rw [h1, h2, h3, h4] at hc <;> first | (exact absurd hc (by decide)) | skip
        all_goals
          clear hc
          go_wp2
          go_ret
          exact ⟨by rw [Hf.out]; rfl, Hgw.out.trans (by (repeat (first | exact Grew.refl _ | refine Grew.over ?_ _ | refine Grew.alloc ?_ _ | refine Grew.drew ?_ | refine Grew.drewN ?_ _)))⟩
    · have Hf : Hid (joinB E u v = false) := Lib.hid (join_none fun i hi => Hok.out i (by omega))
      go_wp2
      go_ret
      exact ⟨by rw [Hf.out]; rfl, Hgw.out.trans (by (repeat (first | exact Grew.refl _ | refine Grew.over ?_ _ | refine Grew.alloc ?_ _ | refine Grew.drew ?_ | refine Grew.drewN ?_ _)))⟩

set_option maxHeartbeats 2000000 in
theorem joined35_r (N : Int) (pE pA : Option Addr) (nE nA cE cA : Nat) (E : List (Int × Int)) (u v : Int) (w : World) (hE : Prs w pE E) (he1 : E.length ≤ 100) (hnE : E.length = nE) :
    Calls Tryd.prog 56 #[.agg #[.int .i64 N, .slice pE nE cE, .slice pA nA cA], .int .i64 u, .int .i64 v] w fun e w' => e = .returned (.bool (joinB E u v)) ∧ Grew w w' := by
  subst hnE
  have HE := Lib.hid hE
  clear hE
  go_enter Tryd.func56, Tryd.ntmps56
  go_wp2
  go_loopw [7] (fun i wr => ∃ j : Nat, j ≤ E.length ∧ i = .int .i64 j ∧ (∀ t, t < j → jn u v (pr E t) = false) ∧ Grew (w.alloc (.cells #[.int .i64 N, .slice pE E.length cE, .slice pA nA cA] 25)) wr) (fun i _ => E.length - (intOf i).toNat)
  case atStart => exact ⟨0, Nat.zero_le _, rfl, fun t ht => absurd ht (Nat.not_lt_zero _), Grew.refl _⟩
  case round =>
    obtain ⟨j, hj, rfl, hok, hg⟩ := hrel
    have Hok := Lib.hid hok
    have Hg := Lib.hid hg
    have hszr := hg.below.size
    simp at hszr
    have Hgw : Hid (Grew w wr) := Lib.hid (((Grew.refl w).alloc _).trans hg)
    have b1 : wr.cell? ⟨w.heap.size, 1, none⟩ = some (.slice pE E.length cE) := hg.cellEq (by first | (go_simp; done) | (simp [go_sem, ↓IntWalk.iteOmega, *]; done))
    clear hok hg
    by_cases hlt : j < E.length
    · obtain ⟨bE, oE, rfl, lE, cE'⟩ := HE.out.cells (by omega)
      obtain ⟨c1, c2⟩ := cE' wr Hgw.out j hlt
      clear cE'
      obtain ⟨x, hx⟩ : ∃ x, (pr E j).1 = x := ⟨_, rfl⟩
      obtain ⟨y, hy⟩ : ∃ y, (pr E j).2 = y := ⟨_, rfl⟩
      rw [hx] at c1; rw [hy] at c2
      have Hjn : Hid (jn u v (pr E j) = ((x == u && y == v) || (x == v && y == u))) := Lib.hid (by unfold jn; rw [hx, hy])
      clear hx hy
      cases hc : ((x == u && y == v) || (x == v && y == u)) <;> rw [hc] at Hjn
      case false =>
        have Hnx : Hid (∀ t, t < j + 1 → jn u v (pr E t) = false) := Lib.hid (fun t ht => by
          by_cases e : t = j
          · subst e; exact Hjn.out
          · exact Hok.out t (by omega))
        cases h1 : x == u <;> cases h2 : y == v <;> cases h3 : x == v <;> cases h4 : y == u <;> rw [h1, h2, h3, h4] at hc <;> first | (exact absurd hc (by decide)) | skip
        all_goals
          clear hc
          go_wp2
          go_roundw
          case rel => exact ⟨j + 1, by omega, by go_num, Hnx.out, Hg.out.trans (by (repeat (first | exact Grew.refl _ | refine Grew.over ?_ _ | refine Grew.alloc ?_ _ | refine Grew.drew ?_ | refine Grew.drewN ?_ _)))⟩
          case measure => simp [intOf]; omega
      case true =>
        have Hf : Hid (joinB E u v = true) := Lib.hid (join_hit hlt Hjn.out)
        cases h1 : x == u <;> cases h2 : y == v <;> cases h3 : x == v <;> cases h4 : y == u <;> rw [h1, h2, h3, h4] at hc <;> first | (exact absurd hc (by decide)) | skip
        all_goals
          clear hc
          go_wp2
          go_ret
          exact ⟨by rw [Hf.out]; rfl, Hgw.out.trans (by (repeat (first | exact Grew.refl _ | refine Grew.over ?_ _ | refine Grew.alloc ?_ _ | refine Grew.drew ?_ | refine Grew.drewN ?_ _)))⟩
    · have Hf : Hid (joinB E u v = false) := Lib.hid (join_none fun i hi => Hok.out i (by omega))
      go_wp2
      go_ret
      exact ⟨by rw [Hf.out]; rfl, Hgw.out.trans (by (repeat (first | exact Grew.refl _ | refine Grew.over ?_ _ | refine Grew.alloc ?_ _ | refine Grew.drew ?_ | refine Grew.drewN ?_ _)))⟩

end Go.Proofs.YtdacnkjmimhcaaaDoor
