/- Optimal of the reference. -/
import Derived.Test.YtnnlhmialmhpfaaFlO
set_option linter.unusedSimpArgs false
set_option linter.unusedVariables false
namespace Go.Proofs.Ytnnlhmialmhpfaa
open Go.RowKit
attribute [local go_sem ↓] Go.wp_at_zero Go.wp_at_succ

set_option maxHeartbeats 16000000 in
theorem optimal_r (p q r : Option Addr) (n cp m cq k cr : Nat) (s : List Int) (A : List Ark) (f : List Int) (w : World) (hS : Ints w p s) (hA : Arks w q A) (hF : Ints w r f) (hn : s.length = n) (hm : A.length = m) (hk : f.length = k) (hnil : p = none → n = 0 ∧ cp = 0) :
    Calls Try.prog 17 #[.agg #[.slice p n cp, .slice q m cq], .slice r k cr] w fun e w' => (∃ o : Bool, e = .returned (.bool o) ∧ (o = true ↔ chkS s A f = 0 ∧ ∃ π, Pot A f π)) ∧ Grew w w' := by
  subst hn hm hk
  have ham := hA.1
  have hsm := hS.1
  have HS := Lib.hid hS
  have HA := Lib.hid hA
  have HF := Lib.hid hF
  have Hnil := Lib.hid hnil
  clear hS hA hF hnil
  obtain ⟨z, hz⟩ : ∃ z, chkS s A f = z := ⟨_, rfl⟩
  have Hz := Lib.hid hz
  by_cases hz0 : z = 0
  case neg =>
    have hz1 : (z != 0) = true := by rw [bne_iff_ne]; exact hz0
    have Hf : Hid (¬ (chkS s A f = 0 ∧ ∃ π, Pot A f π)) := Lib.hid (fun h => hz0 (by rw [← hz]; exact h.1))
    clear hz hz0
    go_enter Try.func17, Try.ntmps17
    go_wp2_with (go_at_call 13; apply Calls.mono; (with_reducible exact checkr_e Hz.out (HS.out.grew (by (repeat (first | exact Grew.refl _ | refine Grew.over ?_ _ | refine Grew.alloc ?_ _ | refine Grew.drew ?_ | refine Grew.drewN ?_ _)))) (HA.out.grew (by (repeat (first | exact Grew.refl _ | refine Grew.over ?_ _ | refine Grew.alloc ?_ _ | refine Grew.drew ?_ | refine Grew.drewN ?_ _)))) (HF.out.grew (by (repeat (first | exact Grew.refl _ | refine Grew.over ?_ _ | refine Grew.alloc ?_ _ | refine Grew.drew ?_ | refine Grew.drewN ?_ _)))) rfl rfl rfl Hnil.out); rintro e w' ⟨rfl, x, rfl⟩)
    go_ret
    exact ⟨⟨false, rfl, fun h => by (cases h), fun h => absurd h Hf.out⟩, by (repeat (first | exact Grew.refl _ | refine Grew.over ?_ _ | refine Grew.alloc ?_ _ | refine Grew.drew ?_ | refine Grew.drewN ?_ _))⟩
  subst hz0
  have hfz : fitsS s A f = 0 := by
    rcases chk_cases s A f with h | h
    · exact h.1
    · rw [hz] at h; omega
  have HV := Lib.hid (fitsS_zero hfz).1
  have Hfit := Lib.hid (fitsS_zero hfz).2
  have h256 := HV.out.n
  clear hz hfz
  have hl4096 : (resL A f A.length).length ≤ 4096 := by have := resL_len A f A.length; have := HV.out.m; omega
  obtain ⟨L, hL⟩ : ∃ L, resL A f A.length = L := ⟨_, rfl⟩
  rw [hL] at hl4096
  have HL := Lib.hid hL
  have Hm : Hid (∀ (t i : Nat) (b : Bool), L[t]? = some (i, b) → i < A.length) := Lib.hid (fun t i b ht => by rw [← HL.out] at ht; exact (mem_resL.1 (List.mem_of_getElem? ht)).1)
  have hmk := make_ints s.length (by omega)
  clear hL
  go_enter Try.func17, Try.ntmps17
  go_upto_region 4 with (first
    | (go_at_call 13; apply Calls.mono; (with_reducible exact checkr_e Hz.out (HS.out.grew (by (repeat (first | exact Grew.refl _ | refine Grew.over ?_ _ | refine Grew.alloc ?_ _ | refine Grew.drew ?_ | refine Grew.drewN ?_ _)))) (HA.out.grew (by (repeat (first | exact Grew.refl _ | refine Grew.over ?_ _ | refine Grew.alloc ?_ _ | refine Grew.drew ?_ | refine Grew.drewN ?_ _)))) (HF.out.grew (by (repeat (first | exact Grew.refl _ | refine Grew.over ?_ _ | refine Grew.alloc ?_ _ | refine Grew.drew ?_ | refine Grew.drewN ?_ _)))) rfl rfl rfl Hnil.out); rintro e w1 ⟨rfl, hg1⟩; have Hg1 : Hid (Grew w w1) := Lib.hid (Grew.trans (by (repeat (first | exact Grew.refl _ | refine Grew.over ?_ _ | refine Grew.alloc ?_ _ | refine Grew.drew ?_ | refine Grew.drewN ?_ _))) hg1); have x0 : w1.cell? ⟨w.heap.size, 0, none⟩ = some (.slice p s.length cp) := Grew.cellEq hg1 (by simp [go_sem]); have x1 : w1.cell? ⟨w.heap.size, 1, none⟩ = some (.slice q A.length cq) := Grew.cellEq hg1 (by simp [go_sem]); clear hg1)
    | (go_at_call 27; apply Calls.mono; (with_reducible exact residual_r _ _ _ _ _ _ _ _ _ s A f _ (HA.out.grew Hg1.out) (HF.out.grew Hg1.out) rfl rfl HV.out Hfit.out); rintro e w2 ⟨hg2, v5, rfl, hO⟩; obtain ⟨pv, cv, rfl, hSt⟩ := own_stpr hO (k := 0) rfl; have Hg2 := Lib.hid (Hg1.out.trans hg2); replace x0 := hg2.cellEq x0; have HSt := Lib.hid hSt; clear hg2 hO hSt x1))
  rw [HL.out] at HSt ⊢
  have hbw := cell_lt x0
  go_wp2
  obtain ⟨w0, hw0⟩ : ∃ w0, w2.alloc (.cells (Array.replicate s.length (.int .i64 0)) 3) = w0 := ⟨_, rfl⟩
  obtain ⟨g, hg⟩ : ∃ g, w2.heap.size = g := ⟨_, rfl⟩
  have hO0 : Owns w0 g [rI g s.length (List.replicate s.length 0)] := by
    rw [← hw0, ← hg]
    exact own_newI (Owns.nil _ _) (by omega) s.length _ (by omega) rfl
  have hgw : w.heap.size < g := by omega
  have hg0 : Grew w2 w0 := by rw [← hw0]; (repeat (first | exact Grew.refl _ | refine Grew.over ?_ _ | refine Grew.alloc ?_ _ | refine Grew.drew ?_ | refine Grew.drewN ?_ _))
  have HO0 := Lib.hid hO0
  have Hg0 := Lib.hid hg0
  replace x0 := hg0.cellEq x0
  have HC0 : Hid (CyO s.length A f L (List.replicate s.length 0) 0) := Lib.hid (CyO.begin _ _ _ _)
  have hb2 : w2.heap.size ≤ g := by omega
  have Hb2 := Lib.hid hb2
  rw [hw0, hg]
  clear hw0 hO0 hg0 hg hmk hbw hb2
  go_loopw [7] (fun v7 wr => ∃ (k : Nat) (d : List Int), k ≤ s.length + 1 ∧ v7 = .int .i64 k ∧ CyO s.length A f L d k ∧ Owns wr g [rI g s.length d] ∧ Grew w2 wr ∧ wr.cell? ⟨w.heap.size, 0, none⟩ = some (.slice p s.length cp)) (fun v7 _ => s.length + 1 - (intOf v7).toNat)
  case atStart => exact ⟨0, _, Nat.zero_le _, rfl, HC0.out, HO0.out, Hg0.out, x0⟩
  case round =>
    clear HC0 HO0 Hg0 x0
    obtain ⟨k, d, hk, rfl, hC, hO, hg, x0⟩ := hrel
    have HC := Lib.hid hC
    have HO := Lib.hid hO
    have Hg := Lib.hid hg
    have hbw := cell_lt x0
    clear hC hO hg
    by_cases hkV : k ≤ s.length
    · have hkVi : (k : Int) ≤ (s.length : Int) := by omega
      have HS0 := Lib.hid HC.out.start
      clear HC
      go_wp2
      go_loopw [8, 9] (fun v8 v9 wr => ∃ (j : Nat) (d : List Int) (c : Bool), j ≤ L.length ∧ v9 = .int .i64 j ∧ v8 = .bool c ∧ CyS s.length A f L d k j c ∧ Owns wr g [rI g s.length d] ∧ Grew w2 wr ∧ wr.cell? ⟨w.heap.size, 0, none⟩ = some (.slice p s.length cp)) (fun _ v9 _ => L.length - (intOf v9).toNat)
      case atStart => exact ⟨0, d, false, Nat.zero_le _, rfl, rfl, HS0.out, HO.out, Hg.out, x0⟩
      case round =>
        clear HS0 HO Hg hbw x0
        obtain ⟨j, d, c, hj, rfl, rfl, hC, hO, hg, x0⟩ := hrel
        have HC := Lib.hid hC
        have HO := Lib.hid hO
        have Hg := Lib.hid hg
        have hbw := cell_lt x0
        clear hC hO hg
        by_cases hlt : j < L.length
        · obtain ⟨⟨i, b⟩, hib⟩ : ∃ x, L[j]? = some x := ⟨_, List.getElem?_eq_getElem hlt⟩
          have hi := Hm.out j i b hib
          have hibL := hib
          rw [← HL.out] at hibL
          obtain ⟨gS, g1, g2⟩ := HSt.out
          obtain ⟨rfl, hgS0⟩ := g1 (by omega)
          have hgS := Nat.lt_of_lt_of_le hgS0 Hg.out.below.size
          have hgS2 : gS ≠ g := by have := Hb2.out; omega
          obtain ⟨_, _, c2, c3, c4, _⟩ := g2 j i b hib
          replace c2 := Hg.out.cellEq c2
          replace c3 := Hg.out.cellEq c3
          replace c4 := Hg.out.cellEq c4
          have hu := sF_lt HV.out hi b
          have hv := sT_lt HV.out hi b
          have hsc := sC_bd HV.out hi b
          have hbu := HC.out.bd _ hu
          obtain ⟨u, eu⟩ : ∃ u, sF A i b = u := ⟨_, rfl⟩
          obtain ⟨v, ev⟩ : ∃ v, sT A i b = v := ⟨_, rfl⟩
          obtain ⟨sc, esc⟩ : ∃ x, sC A i b = x := ⟨_, rfl⟩
          obtain ⟨du, edu⟩ : ∃ x, ge d u = x := ⟨_, rfl⟩
          obtain ⟨dv, edv⟩ : ∃ x, ge d v = x := ⟨_, rfl⟩
          have hsame := fun h => HC.out.same hib h
          have hrel2 : ge d (sF A i b) + sC A i b < ge d (sT A i b) → CyS s.length A f L (d.set (sT A i b) (ge d (sF A i b) + sC A i b)) k (j + 1) true := fun h => by
            have h1 := HC.out
            rw [← HL.out] at h1 ⊢
            exact CyS.relax HV.out (by omega) (by omega) h1 hibL h
          rw [eu] at c2 hu hbu
          rw [ev] at c3 hv
          rw [esc] at hsc c4
          rw [eu, ev, esc, edu, edv] at hsame hrel2
          rw [edu] at hbu
          have hbu2 : -1100000000 ≤ du ∧ du ≤ 1100000000 := by omega
          obtain ⟨hbu3, hbu4⟩ := hbu2
          have hwr : IntKind.i64.wrap (du + sc) = du + sc := IntWalk.i64_in _ ⟨by omega, by omega⟩
          have Hsame := Lib.hid hsame
          have Hrel2 := Lib.hid hrel2
          have e0 := own_atI HO.out (j := 0) rfl (i := u) hu
          have e1 := own_atI HO.out (j := 0) rfl (i := v) hv
          rw [edu] at e0
          rw [edv] at e1
          have b1 := own_lt HO.out (j := 0) rfl
          have f1 := own_fr HO.out (j := 0) rfl
          replace f1 := f1 v
          clear hsame hrel2 eu ev esc edu edv hib hibL g1 g2 hbu hgS0
          go_wp2
          refine wp_region_over (by kernel_rfl) (by kernel_rfl) ?_; (repeat (go_big_quiet_step (fail))); refine wpQuiet_nil ?_; intro w3 hW; replace hW : Grew _ w3 := hW
          have HO3 := Lib.hid (HO.out.grew hW)
          have Hg3 := Lib.hid (Hg.out.trans hW)
          replace x0 := hW.cellEq x0
          replace e0 := hW.cellEq e0
          replace c2 := hW.cellEq c2
          replace c3 := hW.cellEq c3
          replace c4 := hW.cellEq c4
          replace f1 := hW.frozenEq b1 f1
          replace e1 := hW.cellEq e1
          have b3 := Nat.lt_of_lt_of_le b1 hW.below.size
          have hgS3 := Nat.lt_of_lt_of_le hgS hW.below.size
          have hbw3 := Nat.lt_of_lt_of_le hbw hW.below.size
          clear hW HO Hg b1 hgS hbw
          by_cases hlt2 : du + sc < dv
          · have HC5 := Lib.hid (Hrel2.out hlt2)
            have HO5 := Lib.hid (own_setI HO3.out (j := 0) rfl v (du + sc))
            have Hg5 := Lib.hid (HO3.out.setGrew (w0 := w2) Hb2.out Hg3.out (k := 0) rfl v (.int .i64 (du + sc)))
            go_upto_region 13 with fail
            refine wp_region_lex (One 21 (fun b => if b then w3.setCell ⟨g, v, none⟩ (.int .i64 (du + sc)) else w3)) (by kernel_rfl) (by kernel_rfl) ?_ ?_
            · (repeat (first | exact Grew.refl _ | refine Grew.over ?_ _ | refine Grew.alloc ?_ _ | refine Grew.drew ?_ | refine Grew.drewN ?_ _))
            repeat (first
              | (refine lex_skip rfl ?_ ?_
                 · exact One.keep (by decide)
                 (try simp only [Act.put, List.setIfInBounds_toArray, List.set_cons_zero, List.set_cons_succ]))
              | (refine lex_pure (v := ?_) rfl ?_ (fun d w hd hr hC => ?_) ?_
                 rotate_left
                 · exact One.keep (by decide)
                 · ((try (have hs := closed_undone (s := 21) hr.2 rfl (by decide +kernel) hd; unfold One at hC; rw [hs] at hC)); obtain ⟨x, rfl⟩ := hC; simp [go_sem, ↓IntWalk.iteOmega, c2, c3, c4, e0, e1, f1, hwr]; try rfl)
                 (try simp only [Act.put, List.setIfInBounds_toArray, List.set_cons_zero, List.set_cons_succ]))
              | (refine lex_call (v := ?_) (f := ?_) (args := ?_) rfl ?_ One.grew (fun d w hd hr hC => ?_) (fun d w hd hr hC => ?_) ?_
                 rotate_left 3
                 · exact One.keep (by decide)
                 · ((try (have hs := closed_undone (s := 21) hr.2 rfl (by decide +kernel) hd; unfold One at hC; rw [hs] at hC)); obtain ⟨x, rfl⟩ := hC; simp [go_sem, ↓IntWalk.iteOmega, c2, c3, c4, e0, e1, f1, hwr]; (refine ⟨?_, ?_⟩ <;> rfl))
                 · ((try (have hs := closed_undone (s := 21) hr.2 rfl (by decide +kernel) hd; unfold One at hC; rw [hs] at hC)); obtain ⟨x, rfl⟩ := hC; (fail))
                 (try simp only [Act.put, List.setIfInBounds_toArray, List.set_cons_zero, List.set_cons_succ]))
              | (refine lex_store rfl (fun d w hd hr hC => ?_) ?_
                 · (unfold One at hC ⊢; rw [hd] at hC; rw [mark_same]; obtain ⟨x, rfl⟩ := hC; refine ⟨?_, ?_, ?_⟩; rotate_left; (simp [go_sem, ↓IntWalk.iteOmega, c2, c3, c4, e0, e1, f1, hwr]; try rfl); (simp; exact ⟨_, rfl⟩))
                 (try simp only [Act.put, List.setIfInBounds_toArray, List.set_cons_zero, List.set_cons_succ])))
            refine lex_nil ?_
            intro dLx w4 hd hw4
            unfold One at hw4; rw [hd 21 (by decide)] at hw4; simp only [if_true] at hw4
            have Hw4 : Hid (Grew (w3.setCell ⟨g, v, none⟩ (.int .i64 (du + sc))) w4) := Lib.hid hw4
            have y0 : w4.cell? ⟨w.heap.size, 0, none⟩ = some (.slice p s.length cp) := hw4.cellEq (by
              rw [World.cell?_setCell_other _ _ _ _ (fun e => by have := congrArg Addr.block e; simp at this; omega)]; exact x0)
            have HO6 := Lib.hid (HO5.out.grew hw4)
            have Hg6 := Lib.hid (Hg5.out.trans hw4)
            clear hw4 x0
            go_wp2
            go_roundw
            case rel => exact ⟨j + 1, _, true, by omega, by go_num, rfl, HC5.out, HO6.out, Hg6.out, y0⟩
            case measure => simp [intOf]; omega
          · have HC5 := Lib.hid (Hsame.out (by omega))
            go_wp2
            go_roundw
            case rel => exact ⟨j + 1, d, c, by omega, by go_num, rfl, HC5.out, HO3.out, Hg3.out, x0⟩
            case measure => simp [intOf]; omega
        · have hje : j = L.length := by omega
          cases c
          · have Hp : Hid (∃ π, Pot A f π) := Lib.hid (by
              have h := HC.out
              rw [← HL.out] at h hje
              rw [hje] at h
              exact h.pot)
            clear hje
            go_wp2
            go_ret
            exact ⟨⟨true, rfl, fun _ => ⟨Hz.out, Hp.out⟩, fun _ => rfl⟩, Hg2.out.trans Hg.out⟩
          · have HC2 : Hid (CyO s.length A f L d (k + 1)) := Lib.hid (by
              have h := HC.out
              rw [hje] at h
              exact h.next hl4096)
            clear HC hje
            go_wp2
            go_roundw
            case rel => exact ⟨k + 1, d, by omega, by go_num, HC2.out, HO.out, Hg.out, x0⟩
            case measure => simp [intOf]; omega
    · have hke : k = s.length + 1 := by omega
      have Hn := Lib.hid (HC.out.none (by omega) (by omega))
      have hki : (s.length : Int) < (k : Int) := by omega
      clear hke
      go_wp2
      go_ret
      exact ⟨⟨false, rfl, fun h => by (cases h), fun h => absurd h.2 Hn.out⟩, Hg2.out.trans Hg.out⟩
end Go.Proofs.Ytnnlhmialmhpfaa
