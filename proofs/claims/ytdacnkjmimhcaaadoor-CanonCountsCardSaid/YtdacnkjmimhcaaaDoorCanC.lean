/- step and contours of the reference. -/
import Derived.Test.YtdacnkjmimhcaaaDoorCanB
set_option linter.unusedSimpArgs false
set_option linter.unusedVariables false
namespace Go.Proofs.YtdacnkjmimhcaaaDoor
open Go.RowKit
attribute [local go_sem ↓] Go.wp_at_zero Go.wp_at_succ

def stepIk (E : List (Int × Int)) (C : List Int) (w : Int) (j : Nat) : List Int := ((List.range j).filter (fun i => joinB E (ge C i) w)).map (fun i : Nat => (i : Int))
theorem stepIk_succ (E : List (Int × Int)) (C : List Int) (w : Int) (j : Nat) : stepIk E C w (j + 1) = stepIk E C w j ++ if joinB E (ge C j) w = true then [(j : Int)] else [] := by
  unfold stepIk
  rw [List.range_succ, List.filter_append, List.map_append]
  by_cases h : joinB E (ge C j) w = true
  · simp [h]
  · simp [h]
theorem stepIk_in {E : List (Int × Int)} {C : List Int} {w : Int} {j : Nat} : ∀ i ∈ stepIk E C w j, 0 ≤ i ∧ i < (j : Int) := by
  intro i hi
  unfold stepIk at hi
  obtain ⟨k, hk, rfl⟩ := List.mem_map.1 hi
  have := List.mem_range.1 (List.mem_filter.1 hk).1
  omega
theorem stepIk_len (E : List (Int × Int)) (C : List Int) (w : Int) (j : Nat) : (stepIk E C w j).length ≤ j := by
  unfold stepIk
  rw [List.length_map]
  exact Nat.le_trans (List.length_filter_le _ _) (by simp)
theorem countP_take {p : Int → Bool} {L : List Int} {k : Nat} (h : k < L.length) : (L.take (k + 1)).countP p = (L.take k).countP p + if p (ge L k) = true then 1 else 0 := by
  rw [List.take_succ_eq_append_getElem h, List.countP_append, ← ge_eq L h]
  by_cases e : p (ge L k) = true
  · simp [e]
  · simp [e]
theorem take_take' (O : List Int) {i k : Nat} (h : i ≤ k) : (O.take k).take i = O.take i := by rw [List.take_take, Nat.min_eq_left h]

set_option maxRecDepth 8000 in
set_option maxHeartbeats 16000000 in
theorem step_r (N : Int) (pE pA : Option Addr) (nE nA cE cA : Nat) (E : List (Int × Int)) (pO : Option Addr) (nO cO : Nat) (O : List Int) (k : Nat) (pC : Option Addr) (nC cC : Nat) (C : List Int) (w : World) (hE : Prs w pE E) (he1 : E.length ≤ 100)
    (hO : Ints w pO O) (hk : k < O.length) (hO1 : O.length ≤ 100) (hC : Ints w pC C) (hC1 : nC ≤ 100) (hC2 : nC ≤ cC) (hC3 : cC ≤ maxLen) (hnE : E.length = nE) (hnO : O.length = nO) (hnC : C.length = nC) :
    Calls Tryd.prog 35 #[.agg #[.int .i64 N, .slice pE nE cE, .slice pA nA cA], .slice pO nO cO, .int .i64 k, .slice pC nC cC] w (StepPost (stepF E (O.take k) C (ge O k)) w) := by
  subst hnE hnO hnC
  have HE := Lib.hid hE
  have HO := Lib.hid hO
  have HC := Lib.hid hC
  obtain ⟨bO, oO, rfl, lO, cO'⟩ := hO.cells (by omega)
  have o1 := cO' w (Grew.refl _) k hk
  obtain ⟨x, hx⟩ : ∃ x, ge O k = x := ⟨_, rfl⟩
  rw [hx] at o1 ⊢
  have Hx := Lib.hid hx
  have hxb := hO.2.1 x (by rw [← hx]; exact ge_mem hk)
  have HcO := Lib.hid cO'
  have HJ := Lib.hid (fun (u : Int) (W1 : World) (hg1 : Grew w W1) => joined_r N pE pA E.length nA cE cA E u x W1 (HE.out.grew hg1) he1 rfl)
  clear hE hO hC cO' hx
  go_enter Tryd.func35, Tryd.ntmps35
  go_wp2
  obtain ⟨wB, hwB⟩ : ∃ wB, w.alloc (.cells #[.int .i64 N, .slice pE E.length cE, .slice pA nA cA] 25) = wB := ⟨_, rfl⟩
  have HwB : Hid (Grew w wB) := Lib.hid (by rw [← hwB]; exact (Grew.refl w).alloc _)
  have Hc0 : Hid (wB.cell? ⟨w.heap.size, 0, none⟩ = some (.int .i64 N)) := Lib.hid (by rw [← hwB]; simp [go_sem])
  have Hc1 : Hid (wB.cell? ⟨w.heap.size, 1, none⟩ = some (.slice pE E.length cE)) := Lib.hid (by rw [← hwB]; simp [go_sem])
  have Hc2 : Hid (wB.cell? ⟨w.heap.size, 2, none⟩ = some (.slice pA nA cA)) := Lib.hid (by rw [← hwB]; simp [go_sem])
  have hsB : wB.heap.size = w.heap.size + 1 := by rw [← hwB]; simp
  rw [hwB]
  clear hwB
  go_loopw [11, 12, 13, 14] (fun vf vl vn iv wr => ∃ j : Nat, j ≤ C.length ∧ iv = .int .i64 j ∧ vf = .int .i64 (lo (stepIk E C x j)) ∧ vl = .int .i64 (hi (stepIk E C x j)) ∧ vn = .int .i64 ((stepIk E C x j).length : Int) ∧ Grew wB wr) (fun _ _ _ iv _ => C.length - (intOf iv).toNat)
  case atStart => exact ⟨0, Nat.zero_le _, rfl, rfl, rfl, rfl, Grew.refl _⟩
  case round =>
    obtain ⟨j, hj, rfl, rfl, rfl, rfl, hgB⟩ := hrel
    obtain ⟨hf1, hf2, hl1, hl2⟩ := lo_range (stepIk_in (E := E) (C := C) (w := x) (j := j)) (by omega)
    have hnl := stepIk_len E C x j
    have hszr := hgB.below.size
    rw [hsB] at hszr
    have Hgw : Hid (Grew w wr) := Lib.hid (HwB.out.trans hgB)
    have q0 := hgB.cellEq Hc0.out
    have q1 := hgB.cellEq Hc1.out
    have q2 := hgB.cellEq Hc2.out
    have HgB := Lib.hid hgB
    obtain ⟨f, hf⟩ : ∃ f, lo (stepIk E C x j) = f := ⟨_, rfl⟩
    obtain ⟨l, hl⟩ : ∃ l, hi (stepIk E C x j) = l := ⟨_, rfl⟩
    obtain ⟨n, hn⟩ : ∃ n, (stepIk E C x j).length = n := ⟨_, rfl⟩
    rw [hf] at hf1 hf2 ⊢
    rw [hl] at hl1 hl2 ⊢
    rw [hn] at hnl ⊢
    have Hf := Lib.hid hf
    have Hl := Lib.hid hl
    have Hn := Lib.hid hn
    clear hf hl hn hgB
    by_cases hlj : j < C.length
    · obtain ⟨bC, oC, rfl, lC, cC'⟩ := HC.out.cells (by omega)
      have e1 := cC' wr Hgw.out j hlj
      obtain ⟨u, hu⟩ : ∃ u, ge C j = u := ⟨_, rfl⟩
      have HI := Lib.hid (stepIk_succ E C x j)
      rw [hu] at e1 HI
      obtain ⟨t, ht⟩ : ∃ t, joinB E u x = t := ⟨_, rfl⟩
      have HJ2 : Hid (∀ W1, Grew w W1 → Calls Tryd.prog 17 #[.agg #[.int .i64 N, .slice pE E.length cE, .slice pA nA cA], .int .i64 u, .int .i64 x] W1 fun e w' => e = .returned (.bool t) ∧ Grew W1 w') := Lib.hid (fun W1 h => by rw [← ht]; exact HJ.out u W1 h)
      rw [ht] at HI
      clear cC' hu ht
      cases t
      case false =>
        replace HI : Hid (stepIk E C x (j + 1) = stepIk E C x j) := Lib.hid (by rw [HI.out]; simp)
        go_upto_region 6 with fail
        refine wp_region_over (by kernel_rfl) (by kernel_rfl) ?_; (repeat (go_big_quiet_step ((go_at_call 17; apply over_call; with_reducible exact HJ2.out _ (Hgw.out.trans (by (repeat (first | exact Grew.refl _ | refine Grew.over ?_ _ | refine Grew.alloc ?_ _ | refine Grew.drew ?_ | refine Grew.drewN ?_ _)))))))); refine wpQuiet_nil ?_; rintro _ ⟨x, rfl⟩
        go_wp2
        go_roundw
        case rel => exact ⟨j + 1, by omega, by go_num, by rw [HI.out, Hf.out], by rw [HI.out, Hl.out], by rw [HI.out, Hn.out], HgB.out.trans (by (repeat (first | exact Grew.refl _ | refine Grew.over ?_ _ | refine Grew.alloc ?_ _ | refine Grew.drew ?_ | refine Grew.drewN ?_ _)))⟩
        case measure => simp [intOf]; omega
      case true =>
        replace HI : Hid (stepIk E C x (j + 1) = stepIk E C x j ++ [(j : Int)]) := Lib.hid (by rw [HI.out]; simp)
        have Hf2 := Lib.hid (lo_snoc (stepIk E C x j) j)
        have Hl2 := Lib.hid (hi_snoc (stepIk E C x j) j)
        rw [← HI.out, Hf.out] at Hf2
        rw [← HI.out, Hl.out] at Hl2
        have Hn2 : Hid ((stepIk E C x (j + 1)).length = n + 1) := Lib.hid (by rw [HI.out, List.length_append, Hn.out]; rfl)
        by_cases h1 : f < 0
        all_goals
          have Hf3 := Hf2
          have Hl3 := Hl2
          clear Hf2 Hl2
          go_upto_region 6 with fail
          refine wp_region_over (by kernel_rfl) (by kernel_rfl) ?_; (repeat (go_big_quiet_step ((go_at_call 17; apply over_call; with_reducible exact HJ2.out _ (Hgw.out.trans (by (repeat (first | exact Grew.refl _ | refine Grew.over ?_ _ | refine Grew.alloc ?_ _ | refine Grew.drew ?_ | refine Grew.drewN ?_ _)))))))); refine wpQuiet_nil ?_; rintro _ ⟨x, rfl⟩
          go_wp2
          go_roundw
          case rel => exact ⟨j + 1, by omega, by go_num, by rw [Hf3.out]; congr 1; split <;> omega, by rw [Hl3.out]; congr 1; omega, by rw [Hn2.out]; go_num, HgB.out.trans (by (repeat (first | exact Grew.refl _ | refine Grew.over ?_ _ | refine Grew.alloc ?_ _ | refine Grew.drew ?_ | refine Grew.drewN ?_ _)))⟩
          case measure => simp [intOf]; omega
    · have hje : j = C.length := by omega
      subst hje
      have HIe : Hid (stepIk E C x C.length = stepI E C x) := Lib.hid rfl
      rw [HIe.out] at Hf Hl Hn
      have hend : ¬ n < 2 → 0 ≤ f ∧ f ≤ l ∧ l < C.length := fun hn2 => by
        have h1 := fun i (h : i ∈ stepI E C x) => stepI_pos h
        have hne : stepI E C x ≠ [] := fun e => by have := Hn.out; rw [e] at this; simp at this; omega
        have a := lo_mem (fun i hi => (h1 i hi).1) hne
        have b := hi_mem (fun i hi => (h1 i hi).1) hne
        rw [Hf.out] at a
        rw [Hl.out] at b
        have := h1 _ a.1
        have := h1 _ b.1
        have := a.2 _ b.1
        omega
      have Hend := Lib.hid hend
      have hki : (k : Int) < (O.length : Int) := by omega
      clear HIe hend q0 q1 q2
      go_wp2
      go_loopw [15, 16] (fun va iv wr => ∃ i : Nat, i ≤ k ∧ iv = .int .i64 i ∧ va = .int .i64 (((O.take i).countP (fun u => joinB E u x) : Nat) : Int) ∧ Grew wB wr) (fun _ iv _ => k - (intOf iv).toNat)
      case atStart => exact ⟨0, Nat.zero_le _, rfl, rfl, HgB.out.trans (by (repeat (first | exact Grew.refl _ | refine Grew.over ?_ _ | refine Grew.alloc ?_ _ | refine Grew.drew ?_ | refine Grew.drewN ?_ _)))⟩
      case round =>
        clear Hgw HgB hszr
        obtain ⟨i, hi, rfl, rfl, hgB⟩ := hrel
        have hszr := hgB.below.size
        rw [hsB] at hszr
        have Hgw : Hid (Grew w wr) := Lib.hid (HwB.out.trans hgB)
        have q0 := hgB.cellEq Hc0.out
        have q1 := hgB.cellEq Hc1.out
        have q2 := hgB.cellEq Hc2.out
        have HgB := Lib.hid hgB
        have hal : (O.take i).countP (fun u => joinB E u x) ≤ i := Nat.le_trans List.countP_le_length (by rw [List.length_take]; omega)
        have Hcs := Lib.hid (countP_take (p := fun u => joinB E u x) (L := O) (k := i) )
        obtain ⟨a, ha⟩ : ∃ a, (O.take i).countP (fun u => joinB E u x) = a := ⟨_, rfl⟩
        rw [ha] at hal Hcs ⊢
        have Ha := Lib.hid ha
        clear ha hgB
        by_cases hlk : i < k
        · have e1 := HcO.out wr Hgw.out i (by omega)
          have hio : i < O.length := by omega
          have hioi : (i : Int) < (O.length : Int) := by omega
          obtain ⟨u, hu⟩ : ∃ u, ge O i = u := ⟨_, rfl⟩
          replace Hcs := Lib.hid (Hcs.out hio)
          rw [hu] at e1 Hcs
          obtain ⟨t, ht⟩ : ∃ t, joinB E u x = t := ⟨_, rfl⟩
          have HJ2 : Hid (∀ W1, Grew w W1 → Calls Tryd.prog 17 #[.agg #[.int .i64 N, .slice pE E.length cE, .slice pA nA cA], .int .i64 u, .int .i64 x] W1 fun e w' => e = .returned (.bool t) ∧ Grew W1 w') := Lib.hid (fun W1 h => by rw [← ht]; exact HJ.out u W1 h)
          rw [ht] at Hcs
          clear hu ht
          cases t
          case false =>
            replace Hcs : Hid ((O.take (i + 1)).countP (fun u => joinB E u x) = a) := Lib.hid (by rw [Hcs.out]; simp)
            go_upto_region 15 with fail
            refine wp_region_over (by kernel_rfl) (by kernel_rfl) ?_; (repeat (go_big_quiet_step ((go_at_call 17; apply over_call; with_reducible exact HJ2.out _ (Hgw.out.trans (by (repeat (first | exact Grew.refl _ | refine Grew.over ?_ _ | refine Grew.alloc ?_ _ | refine Grew.drew ?_ | refine Grew.drewN ?_ _)))))))); refine wpQuiet_nil ?_; rintro _ ⟨x, rfl⟩
            go_wp2
            go_roundw
            case rel => exact ⟨i + 1, by omega, by go_num, by rw [Hcs.out], HgB.out.trans (by (repeat (first | exact Grew.refl _ | refine Grew.over ?_ _ | refine Grew.alloc ?_ _ | refine Grew.drew ?_ | refine Grew.drewN ?_ _)))⟩
            case measure => simp [intOf]; omega
          case true =>
            replace Hcs : Hid ((O.take (i + 1)).countP (fun u => joinB E u x) = a + 1) := Lib.hid (by rw [Hcs.out]; simp)
            go_upto_region 15 with fail
            refine wp_region_over (by kernel_rfl) (by kernel_rfl) ?_; (repeat (go_big_quiet_step ((go_at_call 17; apply over_call; with_reducible exact HJ2.out _ (Hgw.out.trans (by (repeat (first | exact Grew.refl _ | refine Grew.over ?_ _ | refine Grew.alloc ?_ _ | refine Grew.drew ?_ | refine Grew.drewN ?_ _)))))))); refine wpQuiet_nil ?_; rintro _ ⟨x, rfl⟩
            go_wp2
            go_roundw
            case rel => exact ⟨i + 1, by omega, by go_num, by rw [Hcs.out]; go_num, HgB.out.trans (by (repeat (first | exact Grew.refl _ | refine Grew.over ?_ _ | refine Grew.alloc ?_ _ | refine Grew.drew ?_ | refine Grew.drewN ?_ _)))⟩
            case measure => simp [intOf]; omega
        · have hie : i = k := by omega
          subst hie
          have Hg : Hid (stepF E (O.take i) C x = if a ≠ n then none else if n < 2 ∨ l - f ≠ (n : Int) - 1 then none else some (C.take (f + 1).toNat ++ [x] ++ C.drop l.toNat)) := Lib.hid (by
            unfold stepF spanF
            rw [Ha.out, Hn.out, Hf.out, Hl.out])
          clear Ha Hcs
          by_cases hn2 : n < 2
          · replace Hg : Hid (stepF E (O.take i) C x = none) := Lib.hid (by rw [Hg.out, if_pos (Or.inl hn2)]; split <;> rfl)
            have hn2i : (n : Int) < 2 := by omega
            go_wp2
            go_ret2
            exact ⟨Hgw.out.trans (by (repeat (first | exact Grew.refl _ | refine Grew.over ?_ _ | refine Grew.alloc ?_ _ | refine Grew.drew ?_ | refine Grew.drewN ?_ _))), by rw [Hg.out]; rfl⟩
          have hn2i : ¬ (n : Int) < 2 := by omega
          obtain ⟨f0, f1, f2⟩ := Hend.out hn2
          by_cases han : a = n
          · by_cases hsp : l - f + 1 = (n : Int)
            · replace Hg : Hid (stepF E (O.take i) C x = some (C.take (f + 1).toNat ++ [x] ++ C.drop l.toNat)) := Lib.hid (by rw [Hg.out, if_neg (by omega), if_neg (by omega)])
              obtain ⟨p, rfl⟩ := Int.eq_ofNat_of_zero_le f0
              obtain ⟨b, rfl⟩ := Int.eq_ofNat_of_zero_le (show 0 ≤ l by omega)
              obtain ⟨bC, oC, rfl, lC, _⟩ := HC.out.cells (by omega)
              have HT := Lib.hid (HC.out.cut (k := p + 1) (by omega))
              have hTl : (C.take (p + 1)).length = p + 1 := by rw [List.length_take]; omega
              have HD := Lib.hid (HC.out.drop (k := b) (by omega))
              subst han
              clear Hf Hl Hn Hend
              go_wp2_with (first
                | (at_builtin; refine wp_append_owns rfl _ _ 26 rfl 3 1 8 (.int .i64 0) Tryd.underlying26 Tryd.infoInt rfl (by decide) (w.heap.size + 1) _ 0 _ _ _ (HO2.out.grew (by (repeat (first | exact Grew.refl _ | refine Grew.over ?_ _ | refine Grew.alloc ?_ _ | refine Grew.drew ?_ | refine Grew.drewN ?_ _)))) rfl rfl _ 1 1 rfl [.int .i64 (x)] rfl (fun h => by cases h) (one_news _ (by first | (go_simp; done) | (simp [go_sem, ↓IntWalk.iteOmega, *]; done))) (by simp [Value.oneCell']) (by simp only [maxLen]; omega) (by omega) (by first | rfl | omega | (simp <;> omega)) ?_; intro v1 w1 hO1 hg1 hb1 hv1; have Hg3 := Lib.hid (Grew.grownBy (w0 := w) (Hg2.out.trans (by (repeat (first | exact Grew.refl _ | refine Grew.over ?_ _ | refine Grew.alloc ?_ _ | refine Grew.drew ?_ | refine Grew.drewN ?_ _)))) hg1 (fun g h => by have := hb1 g h; omega)); have HO3 := Lib.hid hO1; have hs3 := hg1.size; simp at hs3; clear hO1 hg1 hb1 hv1)
                | (at_builtin; refine wp_append_owns rfl _ _ 26 rfl 3 1 8 (.int .i64 0) Tryd.underlying26 Tryd.infoInt rfl (by decide) (w.heap.size + 1) _ 0 _ _ _ (HO3.out.grew (by (repeat (first | exact Grew.refl _ | refine Grew.over ?_ _ | refine Grew.alloc ?_ _ | refine Grew.drew ?_ | refine Grew.drewN ?_ _)))) rfl rfl _ _ _ rfl (intVs (C.drop b)) (by rw [intVs_length, Nat.mul_one]; try first | rfl | assumption | (simp; done) | omega) (fun h => by cases h) (Ints.news (HD.out.grew (Hg3.out.trans (by (repeat (first | exact Grew.refl _ | refine Grew.over ?_ _ | refine Grew.alloc ?_ _ | refine Grew.drew ?_ | refine Grew.drewN ?_ _)))))) (intVs_one _) (by simp only [maxLen]; omega) (by omega) (by first | rfl | omega | (simp <;> omega)) ?_; intro v1 w1 hO1 hg1 hb1 hv1; have Hg4 := Lib.hid (Grew.grownBy (w0 := w) (Hg3.out.trans (by (repeat (first | exact Grew.refl _ | refine Grew.over ?_ _ | refine Grew.alloc ?_ _ | refine Grew.drew ?_ | refine Grew.drewN ?_ _)))) hg1 (fun g h => by have := hb1 g h; omega)); have HO4 := Lib.hid hO1; clear hO1 hg1 hb1 hv1)
                | (at_builtin; refine wp_append_owns rfl _ _ 26 rfl 3 1 8 (.int .i64 0) Tryd.underlying26 Tryd.infoInt rfl (by decide) (w.heap.size + 1) _ 0 _ _ _ ((Owns.nil _ (w.heap.size + 1)).none 3 1) rfl rfl _ _ _ rfl (intVs (C.take (p + 1))) (by rw [intVs_length, Nat.mul_one]; try first | rfl | assumption | (simp; done) | omega) (fun h => by cases h) (Ints.news (HT.out.grew (Hgw.out.trans (by (repeat (first | exact Grew.refl _ | refine Grew.over ?_ _ | refine Grew.alloc ?_ _ | refine Grew.drew ?_ | refine Grew.drewN ?_ _)))))) (intVs_one _) (by simp only [maxLen]; omega) (by omega) (by first | rfl | omega | (simp <;> omega)) ?_; intro v1 w1 hO1 hg1 hb1 hv1; have Hg2 := Lib.hid (Grew.grownBy (w0 := w) (Hgw.out.trans (by (repeat (first | exact Grew.refl _ | refine Grew.over ?_ _ | refine Grew.alloc ?_ _ | refine Grew.drew ?_ | refine Grew.drewN ?_ _)))) hg1 (fun g h => by have := hb1 g h; omega)); have HO2 := Lib.hid hO1; have hs2 := hg1.size; clear hO1 hg1 hb1 hv1))
              have hbd : ∀ y ∈ C.take (p + 1) ++ [x] ++ C.drop b, -9223372036854775808 ≤ y ∧ y ≤ 9223372036854775807 := by
                intro y hy
                rw [List.append_assoc] at hy
                rcases List.mem_append.1 hy with hy | hy
                · exact HC.out.2.1 y (List.mem_of_mem_take hy)
                · rcases List.mem_append.1 hy with hy | hy
                  · rw [List.mem_singleton.1 hy]; exact hxb
                  · exact HC.out.2.1 y (List.mem_of_mem_drop hy)
              have h5 := HO4.out
              rw [show ([] : List Value) ++ intVs (C.take (p + 1)) ++ [.int .i64 x] ++ intVs (C.drop b) = intVs (C.take (p + 1) ++ [x] ++ C.drop b) by rw [intVs_app', intVs_app', List.nil_append]; rfl] at h5
              obtain ⟨q, cap, e1, e2, e3, e4, e5, e6⟩ := own_ints h5 (k := 0) rfl hbd
              subst e1
              have H6 := Lib.hid e6
              have H5 := Lib.hid e5
              have H2 := Lib.hid e2
              clear h5 e6 e5 hbd
              go_ret2
              refine ⟨Hg4.out, ?_⟩
              rw [Hg.out, show ((p : Int) + 1).toNat = p + 1 by omega, show ((b : Nat) : Int).toNat = b by omega]
              exact ⟨q, cap, by rw [H2.out]; rfl, H6.out _ (Grew.refl _), by omega, e4, fun a ha => by have := (H5.out a ha).1; omega⟩
            · replace Hg : Hid (stepF E (O.take i) C x = none) := Lib.hid (by rw [Hg.out, if_neg (by omega), if_pos (Or.inr (by omega))])
              subst han
              go_wp2
              go_ret2
              exact ⟨Hgw.out.trans (by (repeat (first | exact Grew.refl _ | refine Grew.over ?_ _ | refine Grew.alloc ?_ _ | refine Grew.drew ?_ | refine Grew.drewN ?_ _))), by rw [Hg.out]; rfl⟩
          · replace Hg : Hid (stepF E (O.take i) C x = none) := Lib.hid (by rw [Hg.out, if_pos han])
            have hani : ¬ (a : Int) = (n : Int) := by omega
            go_wp2
            go_ret2
            exact ⟨Hgw.out.trans (by (repeat (first | exact Grew.refl _ | refine Grew.over ?_ _ | refine Grew.alloc ?_ _ | refine Grew.drew ?_ | refine Grew.drewN ?_ _))), by rw [Hg.out]; rfl⟩

/-- The contour of the first j + 2 vertices of an order. -/
def contR (E : List (Int × Int)) (O : List Int) : Nat → Option (List Int)
  | 0 => some [ge O 0, ge O 1]
  | j + 1 => (contR E O j).bind fun C => stepF E (O.take (j + 2)) C (ge O (j + 2))
theorem spanF_len {C I D : List Int} {w : Int} (h : spanF C w I = some D) : D.length ≤ C.length + 1 + C.length := by
  unfold spanF at h
  split at h
  · cases h
  · cases h
    simp only [List.length_append, List.length_take, List.length_drop, List.length_cons, List.length_nil]
    omega
theorem contR_none {E : List (Int × Int)} {O : List Int} {i : Nat} (h : contR E O i = none) : ∀ j, i ≤ j → contR E O j = none := by
  intro j hj
  induction j with
  | zero => have : i = 0 := by omega
            subst this; exact h
  | succ j ih =>
    by_cases e : i = j + 1
    · subst e; exact h
    · unfold contR; rw [ih (by omega)]; rfl

set_option maxRecDepth 8000 in
set_option maxHeartbeats 16000000 in
theorem contours_r (N : Int) (pE pA : Option Addr) (nE nA cE cA : Nat) (E : List (Int × Int)) (pO : Option Addr) (nO cO : Nat) (O : List Int) (k : Nat) (w : World) (hE : Prs w pE E) (he1 : E.length ≤ 100)
    (hO : Ints w pO O) (hk : k ≤ O.length) (hk2 : 2 ≤ k) (hO1 : O.length ≤ 100) (hlen : ∀ j C, j + 2 < k → contR E O j = some C → C.length ≤ 100) (hnE : E.length = nE) (hnO : O.length = nO) :
    Calls Tryd.prog 22 #[.agg #[.int .i64 N, .slice pE nE cE, .slice pA nA cA], .slice pO nO cO, .int .i64 k] w (StepPost (contR E O (k - 2)) w) := by
  subst hnE hnO
  have HE := Lib.hid hE
  have HO := Lib.hid hO
  have Hlen := Lib.hid hlen
  obtain ⟨bO, oO, rfl, lO, cO'⟩ := hO.cells (by omega)
  have o0 := cO' w (Grew.refl _) 0 (by omega)
  have o1 := cO' w (Grew.refl _) 1 (by omega)
  rw [Nat.add_zero] at o0
  have hO2 : 2 ≤ O.length := by omega
  have HO2 := Lib.hid hO.2.1
  clear hE hO hlen cO'
  go_enter Tryd.func22, Tryd.ntmps22
  go_wp2
  go_region
  go_wp2
  obtain ⟨wB, hwB⟩ : ∃ wB, w.alloc (.cells #[.int .i64 N, .slice pE E.length cE, .slice pA nA cA] 25) = wB := ⟨_, rfl⟩
  have HwB : Hid (Grew w wB) := Lib.hid (by rw [← hwB]; exact (Grew.refl w).alloc _)
  have Hc0 : Hid (wB.cell? ⟨w.heap.size, 0, none⟩ = some (.int .i64 N)) := Lib.hid (by rw [← hwB]; simp [go_sem])
  have Hc1 : Hid (wB.cell? ⟨w.heap.size, 1, none⟩ = some (.slice pE E.length cE)) := Lib.hid (by rw [← hwB]; simp [go_sem])
  have Hc2 : Hid (wB.cell? ⟨w.heap.size, 2, none⟩ = some (.slice pA nA cA)) := Lib.hid (by rw [← hwB]; simp [go_sem])
  have hsB : wB.heap.size = w.heap.size + 1 := by rw [← hwB]; simp
  rw [hwB]
  clear hwB
  have Hst : Hid (Ints (wB.alloc (.cells #[.int .i64 (ge O 0), .int .i64 (ge O 1)] 3)) (some ⟨w.heap.size + 1, 0, none⟩) [ge O 0, ge O 1]) := Lib.hid (by
    refine ⟨by simp, fun x hx => ?_, w.heap.size + 1, 0, fun _ => ⟨rfl, by simp [hsB]⟩, fun i hi => ?_⟩
    · rcases List.mem_cons.1 hx with rfl | hx
      · exact HO2.out _ (ge_mem (by omega))
      · rw [List.mem_singleton.1 hx]; exact HO2.out _ (ge_mem (by omega))
    · match i, hi with
      | 0, _ => simp [cell?_alloc_if, hsB, ge]
      | 1, _ => simp [cell?_alloc_if, hsB, ge])
  go_loopw [8, 9, 10, 11] (fun vl iv _ _ wr => ∃ j : Nat, j + 2 ≤ k ∧ iv = .int .i64 ((j : Int) + 2) ∧ Grew wB wr ∧ ∃ C q cap, contR E O j = some C ∧ vl = .slice q C.length cap ∧ Ints wr q C ∧ C.length ≤ cap ∧ cap ≤ maxLen ∧ ∀ a, q = some a → w.heap.size ≤ a.block) (fun _ iv _ _ _ => k - (intOf iv).toNat)
  case atStart => exact ⟨0, hk2, rfl, by (repeat (first | exact Grew.refl _ | refine Grew.over ?_ _ | refine Grew.alloc ?_ _ | refine Grew.drew ?_ | refine Grew.drewN ?_ _)), _, _, 2, rfl, rfl, Hst.out.grew (by (repeat (first | exact Grew.refl _ | refine Grew.over ?_ _ | refine Grew.alloc ?_ _ | refine Grew.drew ?_ | refine Grew.drewN ?_ _))), by simp, (by decide), (fun a ha => by cases ha; dsimp only; omega)⟩
  case round =>
    clear Hst o0 o1
    obtain ⟨j, hj, rfl, hgB, C, q, cap, hC, rfl, hI, hc1, hc2, hfr⟩ := hrel
    have Hfr := Lib.hid hfr
    clear hfr
    have hszr := hgB.below.size
    rw [hsB] at hszr
    have Hgw : Hid (Grew w wr) := Lib.hid (HwB.out.trans hgB)
    have q0 := hgB.cellEq Hc0.out
    have q1 := hgB.cellEq Hc1.out
    have q2 := hgB.cellEq Hc2.out
    have HgB := Lib.hid hgB
    have HC := Lib.hid hC
    have HI := Lib.hid hI
    clear hgB hC hI
    by_cases hlt : j + 2 < k
    · have hCl := Hlen.out j C hlt HC.out
      obtain ⟨R, hR⟩ : ∃ R, stepF E (O.take (j + 2)) C (ge O (j + 2)) = R := ⟨_, rfl⟩
      have Hnx : Hid (contR E O (j + 1) = R) := Lib.hid (by unfold contR; rw [HC.out]; exact hR)
      have Hst : Hid (∀ W1, Grew wr W1 → Calls Tryd.prog 35 #[.agg #[.int .i64 N, .slice pE E.length cE, .slice pA nA cA], .slice (some ⟨bO, oO, none⟩) O.length cO, .int .i64 ((j : Int) + 2), .slice q C.length cap] W1 (StepPost R W1)) := Lib.hid (fun W1 h => by
        have h' := step_r N pE pA E.length nA cE cA E (some ⟨bO, oO, none⟩) O.length cO O (j + 2) q C.length cap C W1 (HE.out.grew (Hgw.out.trans h)) he1 (HO.out.grew (Hgw.out.trans h)) (by omega) hO1 (HI.out.grew h) hCl hc1 hc2 rfl rfl rfl
        rw [hR] at h'
        exact h')
      have hlti : (j : Int) + 2 < (k : Int) := by omega
      clear hR hCl
      cases R with
      | none =>
        go_wp2_with (go_at_call 35; apply Calls.mono; (with_reducible exact Hst.out _ (by (repeat (first | exact Grew.refl _ | refine Grew.over ?_ _ | refine Grew.alloc ?_ _ | refine Grew.drew ?_ | refine Grew.drewN ?_ _)))); rintro e w4 ⟨hg4, rfl⟩; obtain ⟨x4, rfl⟩ := hg4)
        go_ret2
        refine ⟨Hgw.out.trans (by (repeat (first | exact Grew.refl _ | refine Grew.over ?_ _ | refine Grew.alloc ?_ _ | refine Grew.drew ?_ | refine Grew.drewN ?_ _))), ?_⟩
        rw [contR_none Hnx.out (k - 2) (by omega)]
        rfl
      | some D =>
        go_wp2_with (go_at_call 35; apply Calls.mono; (with_reducible exact Hst.out _ (by (repeat (first | exact Grew.refl _ | refine Grew.over ?_ _ | refine Grew.alloc ?_ _ | refine Grew.drew ?_ | refine Grew.drewN ?_ _)))); rintro e w4 ⟨hg4, q4, cap4, rfl, hI4, hd1, hd2, hd3⟩; have Hd3 := Lib.hid hd3; clear hd3; have Hg4 := Lib.hid (Grew.trans (a := wB) (HgB.out.trans (by (repeat (first | exact Grew.refl _ | refine Grew.over ?_ _ | refine Grew.alloc ?_ _ | refine Grew.drew ?_ | refine Grew.drewN ?_ _)))) hg4); have HI4 := Lib.hid hI4; clear hg4 hI4)
        go_roundw
        case rel => exact ⟨j + 1, by omega, by go_num, Hg4.out, D, q4, cap4, Hnx.out, rfl, HI4.out, hd1, hd2, fun a ha => by have := Hd3.out a ha; omega⟩
        case measure => simp [intOf]; omega
    · have Hke : Hid (k - 2 = j) := Lib.hid (by omega)
      have hlti : ¬ (j : Int) + 2 < (k : Int) := by omega
      go_wp2
      go_ret2
      refine ⟨Hgw.out.trans (by (repeat (first | exact Grew.refl _ | refine Grew.over ?_ _ | refine Grew.alloc ?_ _ | refine Grew.drew ?_ | refine Grew.drewN ?_ _))), ?_⟩
      rw [Hke.out, HC.out]
      exact ⟨q, cap, rfl, HI.out.grew (by (repeat (first | exact Grew.refl _ | refine Grew.over ?_ _ | refine Grew.alloc ?_ _ | refine Grew.drew ?_ | refine Grew.drewN ?_ _))), hc1, hc2, Hfr.out⟩

end Go.Proofs.YtdacnkjmimhcaaaDoor
