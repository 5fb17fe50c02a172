/- Valid of the reference. -/
import Derived.Test.YtdacnkjmimhcaaaDoorRotC
set_option linter.unusedSimpArgs false
set_option linter.unusedVariables false
namespace Go.Proofs.YtdacnkjmimhcaaaDoor
open Go.RowKit
attribute [local go_sem ↓] Go.wp_at_zero Go.wp_at_succ

set_option maxRecDepth 8000 in
set_option maxHeartbeats 16000000 in
theorem valid_rw (N : Int) (pE pA : Option Addr) (nE nA cE cA : Nat) (E : List (Int × Int)) (A : List (List Int)) (w : World) (hR : RotAw w pE pA E A) (hnE : E.length = nE) (hnA : A.length = nA) :
    Calls Tryd.prog 46 #[.agg #[.int .i64 N, .slice pE nE cE, .slice pA nA cA]] w fun e w' => e = .returned (.bool (vRotB N E A)) ∧ Grew w w' := by
  subst hnE hnA
  have he1 := hR.e1
  have ha1 := hR.a1
  by_cases hN : 0 ≤ N ∧ N ≤ 16384 ∧ (A.length : Int) = N
  case neg =>
    have Hf : Hid (vRotB N E A = false) := Lib.hid (vRotB_no fun h => hN ⟨h.n0, h.n1, h.al⟩)
    by_cases h1 : N < 0
    · clear hN hR
      go_enter Tryd.func46, Tryd.ntmps46
      go_wp2
      go_ret
      exact ⟨by rw [Hf.out]; rfl, by (repeat (first | exact Grew.refl _ | refine Grew.over ?_ _ | refine Grew.alloc ?_ _ | refine Grew.drew ?_ | refine Grew.drewN ?_ _))⟩
    · have h1' : 0 ≤ N := by omega
      by_cases h2 : 16384 < N
      · clear hN hR h1
        go_enter Tryd.func46, Tryd.ntmps46
        go_wp2
        go_ret
        exact ⟨by rw [Hf.out]; rfl, by (repeat (first | exact Grew.refl _ | refine Grew.over ?_ _ | refine Grew.alloc ?_ _ | refine Grew.drew ?_ | refine Grew.drewN ?_ _))⟩
      · have h2' : N ≤ 16384 := by omega
        have h3 : ((A.length : Int) != N) = true := by rw [bne_iff_ne]; omega
        have h4 : (E.length : Int) ≤ 32768 := by omega
        clear hN hR h1 h2
        go_enter Tryd.func46, Tryd.ntmps46
        go_wp2
        go_ret
        exact ⟨by rw [Hf.out]; rfl, by (repeat (first | exact Grew.refl _ | refine Grew.over ?_ _ | refine Grew.alloc ?_ _ | refine Grew.drew ?_ | refine Grew.drewN ?_ _))⟩
  case pos =>
  obtain ⟨hN1, hN2, rfl⟩ := hN
  have h4 : (E.length : Int) ≤ 32768 := by omega
  have hne : ((A.length : Int) != (A.length : Int)) = false := by simp
  have HR := Lib.hid hR
  clear hR
  go_enter Tryd.func46, Tryd.ntmps46
  go_wp2
  go_loopw [3] (fun i wr => ∃ j : Nat, j ≤ E.length ∧ i = .int .i64 j ∧ (∀ t, t < j → okEdge A.length (pr E t)) ∧ Grew (w.alloc (.cells #[.int .i64 A.length, .slice pE E.length cE, .slice pA A.length cA] 25)) wr) (fun i _ => E.length - (intOf i).toNat)
  case atStart => exact ⟨0, Nat.zero_le _, rfl, fun t ht => absurd ht (Nat.not_lt_zero _), Grew.refl _⟩
  case round =>
    obtain ⟨j, hj, rfl, hok, hg⟩ := hrel
    have Hok := Lib.hid hok
    have Hg := Lib.hid hg
    have hszr := hg.below.size
    simp at hszr
    have Hgw : Hid (Grew w wr) := Lib.hid (((Grew.refl w).alloc _).trans hg)
    have b0 : wr.cell? ⟨w.heap.size, 0, none⟩ = some (.int .i64 A.length) := hg.cellEq (by first | (go_simp; done) | (simp [go_sem, ↓IntWalk.iteOmega, *]; done))
    have b1 : wr.cell? ⟨w.heap.size, 1, none⟩ = some (.slice pE E.length cE) := hg.cellEq (by first | (go_simp; done) | (simp [go_sem, ↓IntWalk.iteOmega, *]; done))
    have b2 : wr.cell? ⟨w.heap.size, 2, none⟩ = some (.slice pA A.length cA) := hg.cellEq (by first | (go_simp; done) | (simp [go_sem, ↓IntWalk.iteOmega, *]; done))
    clear hok hg
    by_cases hlt : j < E.length
    · obtain ⟨bE, oE, rfl, lE, cE'⟩ := HR.out.hE.cells (by omega)
      obtain ⟨c1, c2⟩ := cE' wr Hgw.out j hlt
      clear cE'
      by_cases h1 : (pr E j).1 < 0
      · have Hf : Hid (vRotB A.length E A = false) := Lib.hid (vRotB_no fun h => by have := h.ed j hlt; unfold okEdge at this; omega)
        go_wp2
        go_ret
        exact ⟨by rw [Hf.out]; rfl, Hgw.out.trans (by (repeat (first | exact Grew.refl _ | refine Grew.over ?_ _ | refine Grew.alloc ?_ _ | refine Grew.drew ?_ | refine Grew.drewN ?_ _)))⟩
      have h1' : 0 ≤ (pr E j).1 := by omega
      clear h1
      by_cases h2 : (A.length : Int) ≤ (pr E j).1
      · have Hf : Hid (vRotB A.length E A = false) := Lib.hid (vRotB_no fun h => by have := h.ed j hlt; unfold okEdge at this; omega)
        go_wp2
        go_ret
        exact ⟨by rw [Hf.out]; rfl, Hgw.out.trans (by (repeat (first | exact Grew.refl _ | refine Grew.over ?_ _ | refine Grew.alloc ?_ _ | refine Grew.drew ?_ | refine Grew.drewN ?_ _)))⟩
      have h2' : (pr E j).1 < (A.length : Int) := by omega
      clear h2
      by_cases h3 : (pr E j).2 < 0
      · have Hf : Hid (vRotB A.length E A = false) := Lib.hid (vRotB_no fun h => by have := h.ed j hlt; unfold okEdge at this; omega)
        go_wp2
        go_ret
        exact ⟨by rw [Hf.out]; rfl, Hgw.out.trans (by (repeat (first | exact Grew.refl _ | refine Grew.over ?_ _ | refine Grew.alloc ?_ _ | refine Grew.drew ?_ | refine Grew.drewN ?_ _)))⟩
      have h3' : 0 ≤ (pr E j).2 := by omega
      clear h3
      by_cases h4 : (A.length : Int) ≤ (pr E j).2
      · have Hf : Hid (vRotB A.length E A = false) := Lib.hid (vRotB_no fun h => by have := h.ed j hlt; unfold okEdge at this; omega)
        go_wp2
        go_ret
        exact ⟨by rw [Hf.out]; rfl, Hgw.out.trans (by (repeat (first | exact Grew.refl _ | refine Grew.over ?_ _ | refine Grew.alloc ?_ _ | refine Grew.drew ?_ | refine Grew.drewN ?_ _)))⟩
      have h4' : (pr E j).2 < (A.length : Int) := by omega
      clear h4
      by_cases h5 : (pr E j).1 = (pr E j).2
      · have Hf : Hid (vRotB A.length E A = false) := Lib.hid (vRotB_no fun h => by have := h.ed j hlt; unfold okEdge at this; omega)
        have h5' : ((pr E j).1 == (pr E j).2) = true := beq_iff_eq.2 h5
        clear h5
        go_wp2
        go_ret
        exact ⟨by rw [Hf.out]; rfl, Hgw.out.trans (by (repeat (first | exact Grew.refl _ | refine Grew.over ?_ _ | refine Grew.alloc ?_ _ | refine Grew.drew ?_ | refine Grew.drewN ?_ _)))⟩
      have Hnx : Hid (∀ t, t < j + 1 → okEdge A.length (pr E t)) := Lib.hid (fun t ht => by
        by_cases e : t = j
        · subst e; exact ⟨h1', h2', h3', h4', h5⟩
        · exact Hok.out t (by omega))
      have h5' : ((pr E j).1 == (pr E j).2) = false := beq_eq_false_iff_ne.2 h5
      clear h5
      go_wp2
      go_roundw
      case rel => exact ⟨j + 1, by omega, by go_num, Hnx.out, Hg.out.trans (by (repeat (first | exact Grew.refl _ | refine Grew.over ?_ _ | refine Grew.alloc ?_ _ | refine Grew.drew ?_ | refine Grew.drewN ?_ _)))⟩
      case measure => simp [intOf]; omega
    · have HokA : Hid (∀ t, t < E.length → okEdge A.length (pr E t)) := Lib.hid (fun t ht => Hok.out t (by omega))
      have hwE : ∀ a ∈ E, (0 ≤ a.1 ∧ a.1 ≤ 1000000) ∧ 0 ≤ a.2 ∧ a.2 ≤ 1000000 := fun a ha => by
        obtain ⟨t, ht, rfl⟩ := List.getElem_of_mem ha
        have := HokA.out t ht
        unfold okEdge at this
        rw [pr_eq E ht] at this
        omega
      have HTl := Lib.hid (fun W1 (hg1 : Grew w W1) => tails_r A.length pE pA E.length A.length cE cA E W1 (HR.out.hE.grew hg1) he1 rfl hwE)
      clear hwE
      go_upto_region 10 with (go_at_call 54; apply Calls.mono; (with_reducible exact HTl.out _ (Hgw.out.trans (by (repeat (first | exact Grew.refl _ | refine Grew.over ?_ _ | refine Grew.alloc ?_ _ | refine Grew.drew ?_ | refine Grew.drewN ?_ _))))); rintro e w3 ⟨hg3, pT, cT, rfl, hT⟩; have HT := Lib.hid hT; have Hg3 := Lib.hid hg3; have b0 := hg3.cellEq b0; have b1 := hg3.cellEq b1; have b2 := hg3.cellEq b2; clear hT hg3)
      have Hgw3 : Hid (Grew w w3) := Lib.hid (Hgw.out.trans Hg3.out)
      have Hc0 := Lib.hid b0
      have Hc1 := Lib.hid b1
      have Hc2 := Lib.hid b2
      have hsz3 := Hg3.out.below.size
      go_wp2_with (refine wp_make_owns rfl _ _ 58 rfl 4 1 (.bool false) Tryd.underlying58 Tryd.infoBool rfl .i64 .i64 _ _ (2 * E.length) rfl rfl (by push_cast; rfl) (by push_cast; rfl) (by omega) (by simp only [maxLen]; omega) w3.heap.size [] (Owns.nil _ _) (Nat.le_refl _) ?_; intro w4 hO hg4 hs4; have HO4 := Lib.hid hO; have Hg4 := Lib.hid hg4; have b0 := hg4.cellEq b0; have b1 := hg4.cellEq b1; have b2 := hg4.cellEq b2; clear hO hg4)
      obtain ⟨B, hB⟩ : ∃ B, w3.heap.size = B := ⟨_, rfl⟩
      have HB := Lib.hid hB
      rw [hB] at HO4 hs4 ⊢
      have hBw : w.heap.size < B := by omega
      have hsz4 := Hg4.out.below.size
      obtain ⟨wB, hwB⟩ : ∃ wB, w3 = wB := ⟨_, rfl⟩
      rw [hwB] at Hg4 Hgw3 HB Hc0 Hc1 Hc2 HT
      clear hwB b0 b1 b2
      go_loopw [7, 8] (fun n i wq => ∃ v : Nat, v ≤ A.length ∧ i = .int .i64 v ∧ n = .int .i64 ((pre A v).length : Nat) ∧ Good E (pre A v) ∧ Grew wB wq ∧ w4.heap.size ≤ wq.heap.size ∧ Owns wq B [⟨.slice (some ⟨B, 0, none⟩) (2 * E.length) (2 * E.length), 4, 1, 2 * E.length, bls (2 * E.length) ((pre A v).map (·.2))⟩]) (fun _ i _ => A.length - (intOf i).toNat)
      case atStart => exact ⟨0, Nat.zero_le _, rfl, rfl, Good.nil E, Hg4.out, Nat.le_refl _, by have := HO4.out; rw [← bls_nil] at this; exact this⟩
      case round =>
        obtain ⟨v, hv, rfl, rfl, hgood, hgq, hsq, hOq⟩ := hrel
        have Hgood := Lib.hid hgood
        have Hgq := Lib.hid hgq
        have q0 := hgq.cellEq Hc0.out
        have q1 := hgq.cellEq Hc1.out
        have q2 := hgq.cellEq Hc2.out
        have HOq := Lib.hid hOq
        have Hwq : Hid (Grew w wr) := Lib.hid (Hgw3.out.trans hgq)
        have hpl := hgood.len
        clear hgood hgq hOq
        by_cases hlv : v < A.length
        · obtain ⟨bA, oA, rp, rc, rfl, lA, cA'⟩ := HR.out.hA.rows (by omega)
          have CA := Lib.hid (fun (W1 : World) (hg : Grew w W1) => (cA' W1 hg v hlv).1)
          obtain ⟨a1, _⟩ := cA' wr Hwq.out v hlv
          obtain ⟨_, a2⟩ := cA' w (Grew.refl _) v hlv
          obtain ⟨rv, hrv⟩ : ∃ rv, rp v = rv := ⟨_, rfl⟩
          rw [hrv] at a1 a2 CA
          clear hrv
          have Ha2 := Lib.hid a2
          have hrl := a2.1
          clear cA' a2
          go_wp2
          clear q0 q1 q2
          go_loopw [7, 9] (fun n i wk => ∃ k : Nat, k ≤ (rowOf A v).length ∧ i = .int .i64 k ∧ n = .int .i64 ((preK A v k).length : Nat) ∧ Good E (preK A v k) ∧ Grew wB wk ∧ wr.heap.size ≤ wk.heap.size ∧ Owns wk B [⟨.slice (some ⟨B, 0, none⟩) (2 * E.length) (2 * E.length), 4, 1, 2 * E.length, bls (2 * E.length) ((preK A v k).map (·.2))⟩]) (fun _ i _ => (rowOf A v).length - (intOf i).toNat)
          case atStart => exact ⟨0, Nat.zero_le _, rfl, by rw [preK_zero], by rw [preK_zero]; exact Hgood.out, Hgq.out, Nat.le_refl _, by rw [preK_zero]; exact HOq.out⟩
          case round =>
            obtain ⟨k, hk, rfl, rfl, hgood, hgk, hgr, hOk⟩ := hrel
            have Hgood2 := Lib.hid hgood
            have Hgk := Lib.hid hgk
            have HOk := Lib.hid hOk
            have q0 := hgk.cellEq Hc0.out
            have q1 := hgk.cellEq Hc1.out
            have q2 := hgk.cellEq Hc2.out
            have Hwk : Hid (Grew w wr) := Lib.hid (Hgw3.out.trans hgk)
            have hBk : B < wr.heap.size := by omega
            have a1 := CA.out wr Hwk.out
            clear hgood hgk hOk
            by_cases hlk : k < (rowOf A v).length
            · obtain ⟨bR, oR, rfl, lR, cR⟩ := Ha2.out.cells (by omega)
              have e1 := cR wr Hwk.out k hlk
              obtain ⟨d, hd⟩ : ∃ d, ge (rowOf A v) k = d := ⟨_, rfl⟩
              rw [hd] at e1
              have Hd := Lib.hid hd
              clear cR
              by_cases h1 : d < 0
              · have Hf : Hid (vRotB A.length E A = false) := Lib.hid (bad_dart hlv hlk (fun h => by have := h.1; dsimp only at this; omega))
                clear hd
                go_wp2_with fail
                go_ret
                exact ⟨by rw [Hf.out]; rfl, Hwk.out.trans (by (repeat (first | exact Grew.refl _ | refine Grew.over ?_ _ | refine Grew.alloc ?_ _ | refine Grew.drew ?_ | refine Grew.drewN ?_ _)))⟩
              obtain ⟨m, rfl⟩ := Int.eq_ofNat_of_zero_le (by omega : 0 ≤ d)
              clear h1
              by_cases h2 : 2 * E.length ≤ m
              · have Hf : Hid (vRotB A.length E A = false) := Lib.hid (bad_dart hlv hlk (fun h => by have := h.2.1; dsimp only at this; omega))
                clear hd
                go_wp2_with fail
                go_ret
                exact ⟨by rw [Hf.out]; rfl, Hwk.out.trans (by (repeat (first | exact Grew.refl _ | refine Grew.over ?_ _ | refine Grew.alloc ?_ _ | refine Grew.drew ?_ | refine Grew.drewN ?_ _)))⟩
              have hm : m < 2 * E.length := by omega
              clear h2
              obtain ⟨gM, cM, eM, _, kM, _, _, nM, mM⟩ := HOk.out.some (k := 0) rfl (by omega)
              cases eM
              have x1 := mM m _ (bls_get _ hm)
              have x2 := nM m
              clear nM mM
              by_cases h3 : (m : Int) ∈ (preK A v k).map (·.2)
              · have Hf : Hid (vRotB A.length E A = false) := Lib.hid (bad_twice hlv hlk (by rw [hd]; exact h3))
                rw [decide_eq_true h3] at x1
                clear hd h3
                go_wp2_with fail
                go_ret
                exact ⟨by rw [Hf.out]; rfl, Hwk.out.trans (by (repeat (first | exact Grew.refl _ | refine Grew.over ?_ _ | refine Grew.alloc ?_ _ | refine Grew.drew ?_ | refine Grew.drewN ?_ _)))⟩
              rw [decide_eq_false h3] at x1
              obtain ⟨bT, oT, rfl, lT, cT'⟩ := HT.out.cells (by rw [tailsL_length]; omega)
              have c1 := cT' wr Hgk.out m (by rw [tailsL_length]; exact hm)
              rw [tailsL_get E m hm] at c1
              clear cT'
              obtain ⟨tl, htl⟩ : ∃ tl, tailE E m = tl := ⟨_, rfl⟩
              rw [htl] at c1
              by_cases h4 : tl = (v : Int)
              case neg =>
                have Hf : Hid (vRotB A.length E A = false) := Lib.hid (bad_dart hlv hlk (fun h => h4 (by have := h.2.2; dsimp only at this; rw [hd, htl] at this; exact this)))
                have h4' : (tl != (v : Int)) = true := by rw [bne_iff_ne]; exact h4
                clear hd h3 h4 htl
                go_wp2_with fail
                go_ret
                exact ⟨by rw [Hf.out]; rfl, Hwk.out.trans (by (repeat (first | exact Grew.refl _ | refine Grew.over ?_ _ | refine Grew.alloc ?_ _ | refine Grew.drew ?_ | refine Grew.drewN ?_ _)))⟩
              case pos =>
                have h4' : (tl != (v : Int)) = false := by rw [h4]; simp
                have Hn := Lib.hid (preK_succ A v hlk)
                have Hgn := Lib.hid (Hgood2.out.snoc (v := v) (d := (m : Int)) (by omega) (by omega) (by rw [htl]; exact h4) h3)
                have hpk : (preK A v k).length ≤ 20000 := by
                  have := Hgood2.out.len
                  omega
                clear h3 h4 htl
                go_wp2_with fail
                go_roundw
                case rel =>
                  have hlen : (preK A v (k + 1)).length = (preK A v k).length + 1 := by rw [Hn.out, List.length_append]; rfl
                  have hmap : (preK A v (k + 1)).map (·.2) = (preK A v k).map (·.2) ++ [(m : Int)] := by rw [Hn.out, List.map_append, Hd.out]; rfl
                  have h1 := HOk.out.set (k := 0) rfl m (.bool true)
                  rw [bls_set _ hm] at h1
                  refine ⟨k + 1, by omega, by go_num, ?_, ?_, ?_, ?_, ?_⟩
                  · rw [hlen]; go_num
                  · rw [Hn.out, Hd.out]; exact Hgn.out
                  · exact Hgk.out.setCell (by have := HB.out; dsimp only; omega) _
                  · simp; omega
                  · rw [hmap]; exact h1
                case measure => simp [intOf]; omega
            · have hke : k = (rowOf A v).length := by omega
              have Hp : Hid (preK A v k = pre A (v + 1)) := Lib.hid (by rw [hke, preK_all])
              go_wp2
              go_roundw
              case rel => exact ⟨v + 1, by omega, by go_num, by rw [← Hp.out], by rw [← Hp.out]; exact Hgood2.out, Hgk.out, by omega, by rw [← Hp.out]; exact HOk.out⟩
              case measure => simp [intOf]; omega
        · have hve : v = A.length := by omega
          subst hve
          have Hfin : Hid (((((pre A A.length).length : Nat) : Int) == ((2 * E.length : Nat) : Int)) = vRotB A.length E A) := Lib.hid (by
            rw [Bool.eq_iff_iff, beq_iff_eq, vRotB_iff]
            exact ⟨fun h => ⟨hN1, hN2, by omega, rfl, HokA.out, Hgood.out.1, Hgood.out.2, by omega⟩, fun h => by have := h.ln; omega⟩)
          go_wp2
          go_ret
          exact ⟨by rw [← Hfin.out]; simp, Hwq.out.trans (by (repeat (first | exact Grew.refl _ | refine Grew.over ?_ _ | refine Grew.alloc ?_ _ | refine Grew.drew ?_ | refine Grew.drewN ?_ _)))⟩

theorem valid_r (N : Int) (pE pA : Option Addr) (nE nA cE cA : Nat) (E : List (Int × Int)) (A : List (List Int)) (w : World) (hR : RotAt w pE pA E A) (hnE : E.length = nE) (hnA : A.length = nA) :
    Calls Tryd.prog 46 #[.agg #[.int .i64 N, .slice pE nE cE, .slice pA nA cA]] w fun e w' => e = .returned (.bool (vRotB N E A)) ∧ Grew w w' := valid_rw N pE pA nE nA cE cA E A w hR.aw hnE hnA

end Go.Proofs.YtdacnkjmimhcaaaDoor
