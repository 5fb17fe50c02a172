/- slices.Compact at points: the walk. -/
import Derived.Test.YtmljfjcebfonaaaPolS
set_option linter.unusedSimpArgs false
set_option linter.unusedVariables false
namespace Go.Proofs.Ytmljfjcebfonaaa
open Go.RowKit
attribute [local go_sem ↓] Go.wp_at_zero Go.wp_at_succ

theorem cmpK_take {E : List (Int × Int)} : ∀ {k : Nat}, k ≤ E.length → (∀ j, j + 1 < k → pr E j ≠ pr E (j + 1)) → cmpK E k = E.take k
  | 0, _, _ => rfl
  | k + 1, hk, h => by
    have e : k = 0 ∨ pr E k ≠ pr E (k - 1) := by
      rcases Nat.eq_zero_or_pos k with h0 | h0
      · exact Or.inl h0
      · have := h (k - 1) (by omega)
        rw [show k - 1 + 1 = k by omega] at this
        exact Or.inr this.symm
    rw [cmpK, if_pos e, cmpK_take (by omega) (fun j hj => h j (by omega)), List.take_succ_eq_append_getElem (by omega), pr_eq E (by omega)]
theorem pr_set (M : List (Int × Int)) (m : Nat) (v : Int × Int) {j : Nat} (h : m < j) : pr (M.set m v) j = pr M j := by
  unfold pr
  rw [List.getD_eq_getElem?_getD, List.getD_eq_getElem?_getD, List.getElem?_set_ne (by omega)]
theorem take_set_snoc (M : List (Int × Int)) {m : Nat} (hm : m < M.length) (v : Int × Int) : (M.set m v).take (m + 1) = M.take m ++ [v] := by
  rw [List.take_succ_eq_append_getElem (by simpa using hm), List.getElem_set_self, List.take_set_of_le (Nat.le_refl _)]

theorem store_pt {w : World} {B g cap n m : Nat} {M : List (Int × Int)} {x y : Int} (hO : Owns w B [ptRow (.slice (some ⟨g, 0, none⟩) n cap) M]) (hn : M.length = n) :
    Owns ((w.setCell ⟨g, m * 2, none⟩ (.int .i64 x)).setCell ⟨g, m * 2 + 1, none⟩ (.int .i64 y)) B [ptRow (.slice (some ⟨g, 0, none⟩) n cap) (M.set m (x, y))] := by
  subst hn
  have h1 := hO.set (k := 0) rfl (m * 2) (.int .i64 x)
  have h2 := Owns.set h1 (k := 0) (n := M.length) (vs := (prVs M).set (m * 2) (.int .i64 x)) rfl (m * 2 + 1) (.int .i64 y)
  rw [List.set_cons_zero, List.set_cons_zero, prVs_set] at h2
  unfold ptRow
  rw [List.length_set]
  exact h2

def CompPost (w : World) (B g : Nat) (E : List (Int × Int)) (e : Ending) (w' : World) : Prop :=
  Gr (fun k => k = g) w w' ∧ ∃ v, e = .returned v ∧ Owns w' B [ptRow v (cmpl E)]

set_option maxHeartbeats 4000000 in
theorem compact_pt (g n cap B : Nat) (E : List (Int × Int)) (w : World) (hO : Owns w B [ptRow (.slice (some ⟨g, 0, none⟩) n cap) E]) (he : E.length ≤ 512) (hn : E.length = n) (h0 : 0 < n) :
    Calls Try.prog 34 #[.slice (some ⟨g, 0, none⟩) n cap] w (CompPost w B g E) := by
  subst hn
  have HO := Lib.hid hO
  obtain ⟨g', cap', hv', hgb, hgl, hle, hmx, _, _⟩ := hO.some (k := 0) rfl h0
  cases hv'
  have hmx' : cap ≤ 9223372036854775807 := by simp only [maxLen] at hmx; omega
  have Hcl : Hid (∀ (W : World) (M : List (Int × Int)), Owns W B [ptRow (.slice (some ⟨g, 0, none⟩) E.length cap) M] → ∀ i, i < E.length → M.length = E.length → W.cell? ⟨g, i * 2, none⟩ = some (.int .i64 (pr M i).1) ∧ W.cell? ⟨g, i * 2 + 1, none⟩ = some (.int .i64 (pr M i).2)) := Lib.hid (fun W M hM i hi hl => by
    obtain ⟨b', _, hv, _, _, _, _, _, hce⟩ := hM.some (k := 0) rfl (by omega)
    have hb : b' = g := by
      simp only [Value.slice.injEq, Option.some.injEq, Addr.mk.injEq] at hv
      exact hv.1.1.symm
    subst hb
    obtain ⟨g1, g2⟩ := prVs_get M i (by omega)
    exact ⟨hce _ _ g1, hce _ _ g2⟩)
  clear hO
  by_cases h1 : E.length < 2
  · have Hf : Hid (cmpl E = E) := Lib.hid (by unfold cmpl; rw [cmpK_take (Nat.le_refl _) (fun j hj => by omega)]; exact List.take_length)
    go_enter Try.func34, Try.ntmps34
    go_wp2
    go_ret
    exact ⟨Gr.refl _ _, _, rfl, by rw [Hf.out]; exact HO.out⟩
  go_enter Try.func34, Try.ntmps34
  go_wp2
  go_loopw [3] (fun i wr => ∃ k : Nat, k + 1 ≤ E.length ∧ i = .int .i64 ((k + 1 : Nat) : Int) ∧ (∀ j, j + 1 < k + 1 → pr E j ≠ pr E (j + 1)) ∧ Grew w wr) (fun i _ => E.length - (intOf i).toNat)
  case atStart => exact ⟨0, by omega, rfl, fun j hj => by omega, by (repeat (first | exact Grew.refl _ | refine Grew.over ?_ _ | refine Grew.alloc ?_ _ | refine Grew.drew ?_ | refine Grew.drewN ?_ _))⟩
  case round =>
    obtain ⟨k, hk, rfl, hne, hg⟩ := hrel
    have Hne := Lib.hid hne
    have Hg := Lib.hid hg
    clear hne hg
    obtain ⟨k1, hk1⟩ : ∃ k1, k + 1 = k1 := ⟨_, rfl⟩
    by_cases hlt : k + 1 < E.length
    · obtain ⟨c1, c2⟩ := Hcl.out wr E (HO.out.grew Hg.out) k (by omega) rfl
      obtain ⟨d1, d2⟩ := Hcl.out wr E (HO.out.grew Hg.out) (k + 1) (by omega) rfl
      have hsub : (k1 : Int) - 1 = (k : Int) := by omega
      have hlt1 : k1 < E.length := by omega
      have hlt0 : k < E.length := by omega
      rw [hk1] at d1 d2 ⊢
      have Hk1 := Lib.hid hk1
      have hsz := Hg.out.below.size
      by_cases heq : pr E (k + 1) = pr E k
      · have heb := eqb_yes heq
        have Hc0 : Hid (cmpK E (k1 + 1) = E.take k1) := Lib.hid (by
          have e : ¬ (k1 = 0 ∨ pr E k1 ≠ pr E (k1 - 1)) := by
            rw [← hk1]
            exact fun h => h.elim (fun h => by omega) (fun h => h heq)
          rw [cmpK, if_neg e, cmpK_take (by omega) (by rw [← hk1]; exact Hne.out)])
        rw [hk1] at heb
        obtain ⟨w0, hw0⟩ : ∃ w0, w0 = wr := ⟨_, rfl⟩
        subst hw0
        have hc1 : ¬ cap = k1 := by omega
        have hkc : k1 ≤ cap := by omega
        obtain ⟨N, hN⟩ : ∃ N, k1 + N = E.length := ⟨E.length - k1, by omega⟩
        have hN1 : E.length - k1 = N := by omega
        clear heq hk1 hk hlt
        go_upto_region 6 with fail
        refine wp_region_over (by kernel_rfl) (by kernel_rfl) ?_; (repeat (go_big_quiet_step (fail))); refine wpQuiet_nil ?_; rintro _ ⟨x, rfl⟩
        go_wp2
        go_loopw [3, 5] (fun v3 v5 wx => ∃ (q m : Nat) (M : List (Int × Int)), 1 ≤ q ∧ q ≤ N ∧ v5 = .int .i64 q ∧ v3 = .int .i64 m ∧ m + 1 ≤ k1 + q ∧ M.length = E.length ∧ M.take m = cmpK E (k1 + q) ∧ (∀ j, k1 + q ≤ j + 1 → j < E.length → pr M j = pr E j) ∧
          Gr (fun k => k = g) w0 wx ∧ Owns wx B [ptRow (.slice (some ⟨g, 0, none⟩) E.length cap) M]) (fun _ v5 _ => N - (intOf v5).toNat)
        case atStart => exact ⟨1, k1, E, by omega, by omega, rfl, rfl, by omega, rfl, Hc0.out.symm, fun j _ _ => rfl, (Gr.refl _ _).ovr _, HO.out.grew (Hg.out.trans (by (repeat (first | exact Grew.refl _ | refine Grew.over ?_ _ | refine Grew.alloc ?_ _ | refine Grew.drew ?_ | refine Grew.drewN ?_ _))))⟩
        case round =>
          obtain ⟨q, m, M, hq, hqN, rfl, rfl, hmq, hMl, hMt, hMp, hgr, hO1⟩ := hrel
          have HMt := Lib.hid hMt
          have HMp := Lib.hid hMp
          have Hgr := Lib.hid hgr
          have HO1 := Lib.hid hO1
          have hsz1 := hgr.size
          clear hMt hMp hgr hO1
          obtain ⟨r, rfl⟩ : ∃ r, q = r + 1 := ⟨q - 1, by omega⟩
          obtain ⟨q, hqr⟩ : ∃ q, r + 1 = q := ⟨_, rfl⟩
          have hsub2 : (q : Int) - 1 = (r : Int) := by omega
          rw [hqr] at hq hqN hmq HMt HMp ⊢
          have hfr : ∀ i, wr.frozen? ⟨g, i, none⟩ = false := by
            obtain ⟨_, _, hv', _, _, _, _, hfr, _⟩ := HO1.out.some (k := 0) rfl (by omega)
            simp only [Value.slice.injEq, Option.some.injEq, Addr.mk.injEq] at hv'
            rw [hv'.1.1]
            exact hfr
          obtain ⟨s1, s2⟩ := Hcl.out wr M HO1.out m (by omega) hMl
          have f1 := hfr (m * 2)
          have f2 := hfr (m * 2 + 1)
          by_cases hlt : q < N
          · obtain ⟨y1, y2⟩ := Hcl.out wr M HO1.out (k1 + q) (by omega) hMl
            obtain ⟨x1, x2⟩ := Hcl.out wr M HO1.out (k1 + r) (by omega) hMl
            rw [HMp.out _ (by omega) (by omega), Nat.add_mul] at y1 y2 x1 x2
            have hml : m < E.length := by omega
            have hlt2 : r < N := by omega
            obtain ⟨ax, hax⟩ : ∃ x, (pr E (k1 + q)).1 = x := ⟨_, rfl⟩
            obtain ⟨ay, hay⟩ : ∃ x, (pr E (k1 + q)).2 = x := ⟨_, rfl⟩
            have Hpk : Hid (pr E (k1 + q) = (ax, ay)) := Lib.hid (by rw [← hax, ← hay])
            have Hqr := Lib.hid hqr
            have hpred : k1 + q - 1 = k1 + r := by omega
            by_cases he : pr E (k1 + q) = pr E (k1 + r)
            · have he' := eqb_yes he
              have hno : ¬ (k1 + q = 0 ∨ pr E (k1 + q) ≠ pr E (k1 + q - 1)) := by
                rw [hpred]
                exact fun h => h.elim (fun h => by omega) (fun h => h he)
              have Hst : Hid (cmpK E (k1 + (q + 1)) = cmpK E (k1 + q)) := Lib.hid (by rw [← Nat.add_assoc, cmpK, if_neg hno])
              rw [hax, hay] at he'
              rw [hax] at y1
              rw [hay] at y2
              clear he hno hax hay hqr hpred s1 s2 f1 f2 hfr
              go_upto_region 11 with fail
              refine wp_region_over (by kernel_rfl) (by kernel_rfl) ?_; (repeat (go_big_quiet_step (fail))); refine wpQuiet_nil ?_; rintro _ ⟨x, rfl⟩
              go_wp2
              go_roundw
              case rel => exact ⟨q + 1, m, M, by omega, by omega, by go_num, rfl, by omega, hMl, by rw [Hst.out]; exact HMt.out, fun j hj hj2 => HMp.out j (by omega) hj2, Hgr.out.ovr _, HO1.out.grew (by (repeat (first | exact Grew.refl _ | refine Grew.over ?_ _ | refine Grew.alloc ?_ _ | refine Grew.drew ?_ | refine Grew.drewN ?_ _)))⟩
              case measure => simp [intOf]; omega
            · have he' := eqb_no he
              have Hst : Hid (cmpK E (k1 + (q + 1)) = cmpK E (k1 + q) ++ [(ax, ay)]) := Lib.hid (by rw [← Nat.add_assoc, cmpK, if_pos (Or.inr (by rw [hpred]; exact he)), Hpk.out])
              rw [hax, hay] at he'
              rw [hax] at y1
              rw [hay] at y2
              clear he hax hay hqr hpred hfr
              go_upto_region 11 with fail
              refine wp_region_over (by kernel_rfl) (by kernel_rfl) ?_; (repeat (go_big_quiet_step (fail))); refine wpQuiet_nil ?_; rintro _ ⟨x, rfl⟩
              go_wp2
              go_roundw
              case rel => exact ⟨q + 1, m + 1, M.set m (ax, ay), by omega, by omega, by go_num, by go_num, by omega, by rw [List.length_set]; exact hMl, by rw [take_set_snoc M (by omega), Hst.out, HMt.out],
                fun j hj hj2 => by rw [pr_set M m _ (by omega)]; exact HMp.out j (by omega) hj2, (((Hgr.out.setCell rfl _).setCell rfl _).ovr _), (store_pt HO1.out hMl).grew (by (repeat (first | exact Grew.refl _ | refine Grew.over ?_ _ | refine Grew.alloc ?_ _ | refine Grew.drew ?_ | refine Grew.drewN ?_ _)))⟩
              case measure => simp [intOf]; omega
          · have hqe : q = N := by omega
            subst hqe
            rw [hN] at hmq HMt HMp
            have hml : m < M.length := by omega
            have hcm : ¬ cap = m := by omega
            have hmc : m ≤ cap := by omega
            have hmE : m ≤ E.length := by omega
            obtain ⟨W2, hclr, hgr2, hO2⟩ := clear_tail (m := m) (by rw [hMl]; exact HO1.out) hml
            rw [hMl] at hclr
            have Hgr2 := Lib.hid hgr2
            have HO2 := Lib.hid hO2
            clear hgr2 hO2 s1 s2 f1 f2 hfr
            go_wp2
            go_ret
            refine ⟨((Gr.of_grew _ Hg.out).trans (Hgr.out.trans Hgr2.out)), _, rfl, ?_⟩
            have h := HO2.out
            rw [HMt.out] at h
            exact h
      · have heb := eqb_no heq
        rw [hk1] at heb
        have Hne2 : Hid (∀ j, j + 1 < k1 + 1 → pr E j ≠ pr E (j + 1)) := Lib.hid (fun j hj => by
          by_cases e : j = k
          · subst e; exact fun h => heq h.symm
          · exact Hne.out j (by omega))
        clear heq
        go_upto_region 6 with fail
        refine wp_region_over (by kernel_rfl) (by kernel_rfl) ?_; (repeat (go_big_quiet_step (fail))); refine wpQuiet_nil ?_; rintro _ ⟨x, rfl⟩
        go_wp2
        go_roundw
        case rel => exact ⟨k1, by omega, by go_num, Hne2.out, Hg.out.trans (by (repeat (first | exact Grew.refl _ | refine Grew.over ?_ _ | refine Grew.alloc ?_ _ | refine Grew.drew ?_ | refine Grew.drewN ?_ _)))⟩
        case measure => simp [intOf]; omega
    · have Hf : Hid (cmpl E = E) := Lib.hid (by unfold cmpl; rw [cmpK_take (Nat.le_refl _) (fun j hj => Hne.out j (by omega))]; exact List.take_length)
      rw [hk1]
      have hlt1 : ¬ k1 < E.length := by omega
      go_wp2
      go_ret
      exact ⟨Gr.of_grew _ Hg.out, _, rfl, by rw [Hf.out]; exact HO.out.grew Hg.out⟩
end Go.Proofs.Ytmljfjcebfonaaa
