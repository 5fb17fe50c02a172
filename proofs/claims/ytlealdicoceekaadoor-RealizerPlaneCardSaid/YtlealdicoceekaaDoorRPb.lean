/- Joined by a program from the texts RotD RotE RotF RotG RotH RotI RotJ RotK RotO RotP Que. -/
import Derived.Test.YtlealdicoceekaaDoorRPa
/- Valid of the reference. -/
set_option linter.unusedSimpArgs false
set_option linter.unusedVariables false
namespace Go.Proofs.YtlealdicoceekaaDoor
open Go.RowKit
attribute [local go_sem ↓] Go.wp_at_zero Go.wp_at_succ

set_option maxRecDepth 8000 in
set_option maxHeartbeats 16000000 in
theorem valid_rw (N : Int) (pE pA : Option Addr) (nE nA cE cA : Nat) (E : List (Int × Int)) (A : List (List Int)) (w : World) (hR : RotAw w pE pA E A) (hnE : E.length = nE) (hnA : A.length = nA) :
    Calls Tryd.prog 26 #[.agg #[.int .i64 N, .slice pE nE cE, .slice pA nA cA]] w fun e w' => e = .returned (.bool (vRotB N E A)) ∧ Grew w w' := by
  subst hnE hnA
  have he1 := hR.e1
  have ha1 := hR.a1
  by_cases hN : 0 ≤ N ∧ N ≤ 16384 ∧ (A.length : Int) = N
  case neg =>
    have Hf : Hid (vRotB N E A = false) := Lib.hid (vRotB_no fun h => hN ⟨h.n0, h.n1, h.al⟩)
    by_cases h1 : N < 0
    · clear hN hR
      go_enter Tryd.func26, Tryd.ntmps26
      go_wp2
      go_ret
      exact ⟨by rw [Hf.out]; rfl, by (repeat (first | exact gR _ | refine gO ?_ _ | refine gA ?_ _ | refine gD ?_ | refine gN ?_ _))⟩
    · have h1' : 0 ≤ N := by omega
      by_cases h2 : 16384 < N
      · clear hN hR h1
        go_enter Tryd.func26, Tryd.ntmps26
        go_wp2
        go_ret
        exact ⟨by rw [Hf.out]; rfl, by (repeat (first | exact gR _ | refine gO ?_ _ | refine gA ?_ _ | refine gD ?_ | refine gN ?_ _))⟩
      · have h2' : N ≤ 16384 := by omega
        have h3 : ((A.length : Int) != N) = true := by rw [bne_iff_ne]; omega
        have h4 : (E.length : Int) ≤ 32768 := by omega
        clear hN hR h1 h2
        go_enter Tryd.func26, Tryd.ntmps26
        go_wp2
        go_ret
        exact ⟨by rw [Hf.out]; rfl, by (repeat (first | exact gR _ | refine gO ?_ _ | refine gA ?_ _ | refine gD ?_ | refine gN ?_ _))⟩
  case pos =>
  obtain ⟨hN1, hN2, rfl⟩ := hN
  have h4 : (E.length : Int) ≤ 32768 := by omega
  have hne : ((A.length : Int) != (A.length : Int)) = false := by simp
  have HR := Lib.hid hR
  clear hR
  go_enter Tryd.func26, Tryd.ntmps26
  go_wp2
  go_loopw [3] (fun i wr => ∃ j : Nat, j ≤ E.length ∧ i = .int .i64 j ∧ (∀ t, t < j → okEdge A.length (pr E t)) ∧ Grew (w.alloc (.cells #[.int .i64 A.length, .slice pE E.length cE, .slice pA A.length cA] 25)) wr) (fun i _ => E.length - (intOf i).toNat)
  case atStart => exact ⟨0, Nat.zero_le _, rfl, fun t ht => absurd ht (Nat.not_lt_zero _), Grew.refl _⟩
  case round =>
    obtain ⟨j, hj, rfl, hok, hg⟩ := hrel
    have Hok := Lib.hid hok
    have Hg := Lib.hid hg
    have hszr := hg.below.size
    simp at hszr
    have Hgw : Hid (Grew w wr) := Lib.hid (((Grew.refl w).alloc _).trans hg)
    have b0 : wr.cell? ⟨w.heap.size, 0, none⟩ = some (.int .i64 A.length) := hg.cellEq (by first | (go_simp; done) | (simp [go_sem, ↓IntWalk.iteOmega, *]; done))
    have b1 : wr.cell? ⟨w.heap.size, 1, none⟩ = some (.slice pE E.length cE) := hg.cellEq (by first | (go_simp; done) | (simp [go_sem, ↓IntWalk.iteOmega, *]; done))
    have b2 : wr.cell? ⟨w.heap.size, 2, none⟩ = some (.slice pA A.length cA) := hg.cellEq (by first | (go_simp; done) | (simp [go_sem, ↓IntWalk.iteOmega, *]; done))
    clear hok hg
    by_cases hlt : j < E.length
    · obtain ⟨bE, oE, rfl, lE, cE'⟩ := HR.out.hE.cells (by omega)
      obtain ⟨c1, c2⟩ := cE' wr Hgw.out j hlt
      clear cE'
      by_cases h1 : (pr E j).1 < 0
      · have Hf : Hid (vRotB A.length E A = false) := Lib.hid (vRotB_no fun h => by have := h.ed j hlt; unfold okEdge at this; omega)
        go_wp2
        go_ret
        exact ⟨by rw [Hf.out]; rfl, Hgw.out.trans (by (repeat (first | exact gR _ | refine gO ?_ _ | refine gA ?_ _ | refine gD ?_ | refine gN ?_ _)))⟩
      have h1' : 0 ≤ (pr E j).1 := by omega
      clear h1
      by_cases h2 : (A.length : Int) ≤ (pr E j).1
      · have Hf : Hid (vRotB A.length E A = false) := Lib.hid (vRotB_no fun h => by have := h.ed j hlt; unfold okEdge at this; omega)
        go_wp2
        go_ret
        exact ⟨by rw [Hf.out]; rfl, Hgw.out.trans (by (repeat (first | exact gR _ | refine gO ?_ _ | refine gA ?_ _ | refine gD ?_ | refine gN ?_ _)))⟩
      have h2' : (pr E j).1 < (A.length : Int) := by omega
      clear h2
      by_cases h3 : (pr E j).2 < 0
      · have Hf : Hid (vRotB A.length E A = false) := Lib.hid (vRotB_no fun h => by have := h.ed j hlt; unfold okEdge at this; omega)
        go_wp2
        go_ret
        exact ⟨by rw [Hf.out]; rfl, Hgw.out.trans (by (repeat (first | exact gR _ | refine gO ?_ _ | refine gA ?_ _ | refine gD ?_ | refine gN ?_ _)))⟩
      have h3' : 0 ≤ (pr E j).2 := by omega
      clear h3
      by_cases h4 : (A.length : Int) ≤ (pr E j).2
      · have Hf : Hid (vRotB A.length E A = false) := Lib.hid (vRotB_no fun h => by have := h.ed j hlt; unfold okEdge at this; omega)
        go_wp2
        go_ret
        exact ⟨by rw [Hf.out]; rfl, Hgw.out.trans (by (repeat (first | exact gR _ | refine gO ?_ _ | refine gA ?_ _ | refine gD ?_ | refine gN ?_ _)))⟩
      have h4' : (pr E j).2 < (A.length : Int) := by omega
      clear h4
      by_cases h5 : (pr E j).1 = (pr E j).2
      · have Hf : Hid (vRotB A.length E A = false) := Lib.hid (vRotB_no fun h => by have := h.ed j hlt; unfold okEdge at this; omega)
        have h5' : ((pr E j).1 == (pr E j).2) = true := beq_iff_eq.2 h5
        clear h5
        go_wp2
        go_ret
        exact ⟨by rw [Hf.out]; rfl, Hgw.out.trans (by (repeat (first | exact gR _ | refine gO ?_ _ | refine gA ?_ _ | refine gD ?_ | refine gN ?_ _)))⟩
      have Hnx : Hid (∀ t, t < j + 1 → okEdge A.length (pr E t)) := Lib.hid (fun t ht => by
        by_cases e : t = j
        · subst e; exact ⟨h1', h2', h3', h4', h5⟩
        · exact Hok.out t (by omega))
      have h5' : ((pr E j).1 == (pr E j).2) = false := beq_eq_false_iff_ne.2 h5
      clear h5
      go_wp2
      go_roundw
      case rel => exact ⟨j + 1, by omega, by go_num, Hnx.out, Hg.out.trans (by (repeat (first | exact gR _ | refine gO ?_ _ | refine gA ?_ _ | refine gD ?_ | refine gN ?_ _)))⟩
      case measure => simp [intOf]; omega
    · have HokA : Hid (∀ t, t < E.length → okEdge A.length (pr E t)) := Lib.hid (fun t ht => Hok.out t (by omega))
      have hwE : ∀ a ∈ E, (0 ≤ a.1 ∧ a.1 ≤ 1000000) ∧ 0 ≤ a.2 ∧ a.2 ≤ 1000000 := fun a ha => by
        obtain ⟨t, ht, rfl⟩ := List.getElem_of_mem ha
        have := HokA.out t ht
        unfold okEdge at this
        rw [pr_eq E ht] at this
        omega
      have HTl := Lib.hid (fun W1 (hg1 : Grew w W1) => tails_r A.length pE pA E.length A.length cE cA E W1 (HR.out.hE.grew hg1) he1 rfl hwE)
      clear hwE
      go_upto_region 10 with (go_at_call 41; apply Calls.mono; (with_reducible exact HTl.out _ (Hgw.out.trans (by (repeat (first | exact gR _ | refine gO ?_ _ | refine gA ?_ _ | refine gD ?_ | refine gN ?_ _))))); rintro e w3 ⟨hg3, pT, cT, rfl, hT⟩; have HT := Lib.hid hT; have Hg3 := Lib.hid hg3; have b0 := hg3.cellEq b0; have b1 := hg3.cellEq b1; have b2 := hg3.cellEq b2; clear hT hg3)
      have Hgw3 : Hid (Grew w w3) := Lib.hid (Hgw.out.trans Hg3.out)
      have Hc0 := Lib.hid b0
      have Hc1 := Lib.hid b1
      have Hc2 := Lib.hid b2
      have hsz3 := Hg3.out.below.size
      go_wp2_with (refine wp_make_owns rfl _ _ 75 rfl 4 1 (.bool false) Tryd.underlying75 Tryd.infoBool rfl .i64 .i64 _ _ (2 * E.length) rfl rfl (by push_cast; rfl) (by push_cast; rfl) (by omega) (by simp only [maxLen]; omega) w3.heap.size [] (Owns.nil _ _) (Nat.le_refl _) ?_; intro w4 hO hg4 hs4; have HO4 := Lib.hid hO; have Hg4 := Lib.hid hg4; have b0 := hg4.cellEq b0; have b1 := hg4.cellEq b1; have b2 := hg4.cellEq b2; clear hO hg4)
      obtain ⟨B, hB⟩ : ∃ B, w3.heap.size = B := ⟨_, rfl⟩
      have HB := Lib.hid hB
      rw [hB] at HO4 hs4 ⊢
      have hBw : w.heap.size < B := by omega
      have hsz4 := Hg4.out.below.size
      obtain ⟨wB, hwB⟩ : ∃ wB, w3 = wB := ⟨_, rfl⟩
      rw [hwB] at Hg4 Hgw3 HB Hc0 Hc1 Hc2 HT
      clear hwB b0 b1 b2
      go_loopw [7, 8] (fun n i wq => ∃ v : Nat, v ≤ A.length ∧ i = .int .i64 v ∧ n = .int .i64 ((pre A v).length : Nat) ∧ Good E (pre A v) ∧ Grew wB wq ∧ w4.heap.size ≤ wq.heap.size ∧ Owns wq B [⟨.slice (some ⟨B, 0, none⟩) (2 * E.length) (2 * E.length), 4, 1, 2 * E.length, bls (2 * E.length) ((pre A v).map (·.2))⟩]) (fun _ i _ => A.length - (intOf i).toNat)
      case atStart => exact ⟨0, Nat.zero_le _, rfl, rfl, Good.nil E, Hg4.out, Nat.le_refl _, by have := HO4.out; rw [← bls_nil] at this; exact this⟩
      case round =>
        obtain ⟨v, hv, rfl, rfl, hgood, hgq, hsq, hOq⟩ := hrel
        have Hgood := Lib.hid hgood
        have Hgq := Lib.hid hgq
        have q0 := hgq.cellEq Hc0.out
        have q1 := hgq.cellEq Hc1.out
        have q2 := hgq.cellEq Hc2.out
        have HOq := Lib.hid hOq
        have Hwq : Hid (Grew w wr) := Lib.hid (Hgw3.out.trans hgq)
        have hpl := hgood.len
        clear hgood hgq hOq
        by_cases hlv : v < A.length
        · obtain ⟨bA, oA, rp, rc, rfl, lA, cA'⟩ := HR.out.hA.rows (by omega)
          have CA := Lib.hid (fun (W1 : World) (hg : Grew w W1) => (cA' W1 hg v hlv).1)
          obtain ⟨a1, _⟩ := cA' wr Hwq.out v hlv
          obtain ⟨_, a2⟩ := cA' w (Grew.refl _) v hlv
          obtain ⟨rv, hrv⟩ : ∃ rv, rp v = rv := ⟨_, rfl⟩
          rw [hrv] at a1 a2 CA
          clear hrv
          have Ha2 := Lib.hid a2
          have hrl := a2.1
          clear cA' a2
          go_wp2
          clear q0 q1 q2
          go_loopw [7, 9] (fun n i wk => ∃ k : Nat, k ≤ (rowOf A v).length ∧ i = .int .i64 k ∧ n = .int .i64 ((preK A v k).length : Nat) ∧ Good E (preK A v k) ∧ Grew wB wk ∧ wr.heap.size ≤ wk.heap.size ∧ Owns wk B [⟨.slice (some ⟨B, 0, none⟩) (2 * E.length) (2 * E.length), 4, 1, 2 * E.length, bls (2 * E.length) ((preK A v k).map (·.2))⟩]) (fun _ i _ => (rowOf A v).length - (intOf i).toNat)
          case atStart => exact ⟨0, Nat.zero_le _, rfl, by rw [preK_zero], by rw [preK_zero]; exact Hgood.out, Hgq.out, Nat.le_refl _, by rw [preK_zero]; exact HOq.out⟩
          case round =>
            obtain ⟨k, hk, rfl, rfl, hgood, hgk, hgr, hOk⟩ := hrel
            have Hgood2 := Lib.hid hgood
            have Hgk := Lib.hid hgk
            have HOk := Lib.hid hOk
            have q0 := hgk.cellEq Hc0.out
            have q1 := hgk.cellEq Hc1.out
            have q2 := hgk.cellEq Hc2.out
            have Hwk : Hid (Grew w wr) := Lib.hid (Hgw3.out.trans hgk)
            have hBk : B < wr.heap.size := by omega
            have a1 := CA.out wr Hwk.out
            clear hgood hgk hOk
            by_cases hlk : k < (rowOf A v).length
            · obtain ⟨bR, oR, rfl, lR, cR⟩ := Ha2.out.cells (by omega)
              have e1 := cR wr Hwk.out k hlk
              obtain ⟨d, hd⟩ : ∃ d, ge (rowOf A v) k = d := ⟨_, rfl⟩
              rw [hd] at e1
              have Hd := Lib.hid hd
              clear cR
              by_cases h1 : d < 0
              · have Hf : Hid (vRotB A.length E A = false) := Lib.hid (bad_dart hlv hlk (fun h => by have := h.1; dsimp only at this; omega))
                clear hd
                go_wp2_with fail
                go_ret
                exact ⟨by rw [Hf.out]; rfl, Hwk.out.trans (by (repeat (first | exact gR _ | refine gO ?_ _ | refine gA ?_ _ | refine gD ?_ | refine gN ?_ _)))⟩
              obtain ⟨m, rfl⟩ := Int.eq_ofNat_of_zero_le (by omega : 0 ≤ d)
              clear h1
              by_cases h2 : 2 * E.length ≤ m
              · have Hf : Hid (vRotB A.length E A = false) := Lib.hid (bad_dart hlv hlk (fun h => by have := h.2.1; dsimp only at this; omega))
                clear hd
                go_wp2_with fail
                go_ret
                exact ⟨by rw [Hf.out]; rfl, Hwk.out.trans (by (repeat (first | exact gR _ | refine gO ?_ _ | refine gA ?_ _ | refine gD ?_ | refine gN ?_ _)))⟩
              have hm : m < 2 * E.length := by omega
              clear h2
              obtain ⟨gM, cM, eM, _, kM, _, _, nM, mM⟩ := HOk.out.some (k := 0) rfl (by omega)
              cases eM
              have x1 := mM m _ (bls_get _ hm)
              have x2 := nM m
              clear nM mM
              by_cases h3 : (m : Int) ∈ (preK A v k).map (·.2)
              · have Hf : Hid (vRotB A.length E A = false) := Lib.hid (bad_twice hlv hlk (by rw [hd]; exact h3))
                rw [decide_eq_true h3] at x1
                clear hd h3
                go_wp2_with fail
                go_ret
                exact ⟨by rw [Hf.out]; rfl, Hwk.out.trans (by (repeat (first | exact gR _ | refine gO ?_ _ | refine gA ?_ _ | refine gD ?_ | refine gN ?_ _)))⟩
              rw [decide_eq_false h3] at x1
              obtain ⟨bT, oT, rfl, lT, cT'⟩ := HT.out.cells (by rw [tailsL_length]; omega)
              have c1 := cT' wr Hgk.out m (by rw [tailsL_length]; exact hm)
              rw [tailsL_get E m hm] at c1
              clear cT'
              obtain ⟨tl, htl⟩ : ∃ tl, tailE E m = tl := ⟨_, rfl⟩
              rw [htl] at c1
              by_cases h4 : tl = (v : Int)
              case neg =>
                have Hf : Hid (vRotB A.length E A = false) := Lib.hid (bad_dart hlv hlk (fun h => h4 (by have := h.2.2; dsimp only at this; rw [hd, htl] at this; exact this)))
                have h4' : (tl != (v : Int)) = true := by rw [bne_iff_ne]; exact h4
                clear hd h3 h4 htl
                go_wp2_with fail
                go_ret
                exact ⟨by rw [Hf.out]; rfl, Hwk.out.trans (by (repeat (first | exact gR _ | refine gO ?_ _ | refine gA ?_ _ | refine gD ?_ | refine gN ?_ _)))⟩
              case pos =>
                have h4' : (tl != (v : Int)) = false := by rw [h4]; simp
                have Hn := Lib.hid (preK_succ A v hlk)
                have Hgn := Lib.hid (Hgood2.out.snoc (v := v) (d := (m : Int)) (by omega) (by omega) (by rw [htl]; exact h4) h3)
                have hpk : (preK A v k).length ≤ 20000 := by
                  have := Hgood2.out.len
                  omega
                clear h3 h4 htl
                go_wp2_with fail
                go_roundw
                case rel =>
                  have hlen : (preK A v (k + 1)).length = (preK A v k).length + 1 := by rw [Hn.out, List.length_append]; rfl
                  have hmap : (preK A v (k + 1)).map (·.2) = (preK A v k).map (·.2) ++ [(m : Int)] := by rw [Hn.out, List.map_append, Hd.out]; rfl
                  have h1 := HOk.out.set (k := 0) rfl m (.bool true)
                  rw [bls_set _ hm] at h1
                  refine ⟨k + 1, by omega, by go_num, ?_, ?_, ?_, ?_, ?_⟩
                  · rw [hlen]; go_num
                  · rw [Hn.out, Hd.out]; exact Hgn.out
                  · exact Hgk.out.setCell (by have := HB.out; dsimp only; omega) _
                  · simp; omega
                  · rw [hmap]; exact h1
                case measure => simp [intOf]; omega
            · have hke : k = (rowOf A v).length := by omega
              have Hp : Hid (preK A v k = pre A (v + 1)) := Lib.hid (by rw [hke, preK_all])
              go_wp2
              go_roundw
              case rel => exact ⟨v + 1, by omega, by go_num, by rw [← Hp.out], by rw [← Hp.out]; exact Hgood2.out, Hgk.out, by omega, by rw [← Hp.out]; exact HOk.out⟩
              case measure => simp [intOf]; omega
        · have hve : v = A.length := by omega
          subst hve
          have Hfin : Hid (((((pre A A.length).length : Nat) : Int) == ((2 * E.length : Nat) : Int)) = vRotB A.length E A) := Lib.hid (by
            rw [Bool.eq_iff_iff, beq_iff_eq, vRotB_iff]
            exact ⟨fun h => ⟨hN1, hN2, by omega, rfl, HokA.out, Hgood.out.1, Hgood.out.2, by omega⟩, fun h => by have := h.ln; omega⟩)
          go_wp2
          go_ret
          exact ⟨by rw [← Hfin.out]; simp, Hwq.out.trans (by (repeat (first | exact gR _ | refine gO ?_ _ | refine gA ?_ _ | refine gD ?_ | refine gN ?_ _)))⟩

theorem valid_r (N : Int) (pE pA : Option Addr) (nE nA cE cA : Nat) (E : List (Int × Int)) (A : List (List Int)) (w : World) (hR : RotAt w pE pA E A) (hnE : E.length = nE) (hnA : A.length = nA) :
    Calls Tryd.prog 26 #[.agg #[.int .i64 N, .slice pE nE cE, .slice pA nA cA]] w fun e w' => e = .returned (.bool (vRotB N E A)) ∧ Grew w w' := valid_rw N pE pA nE nA cE cA E A w hR.aw hnE hnA

end Go.Proofs.YtlealdicoceekaaDoor

/- Few, Tail. -/
namespace Go.Proofs.YtlealdicoceekaaDoor
open Go.RowKit
attribute [local go_sem ↓] Go.wp_at_zero Go.wp_at_succ

def fewB (E : List (Int × Int)) (A : List (List Int)) : Bool := decide (E.length ≤ 100 ∧ A.length ≤ 100 ∧ ∀ v, v < A.length → (rowOf A v).length ≤ 100)
theorem few_at {w : World} {pE pA : Option Addr} {E : List (Int × Int)} {A : List (List Int)} (h : fewB E A = true) (hE : Prs w pE E) (hA : Mat w pA A) : RotAt w pE pA E A := by
  unfold fewB at h
  have := of_decide_eq_true h
  exact ⟨hE, hA, this.1, this.2.1, this.2.2⟩

set_option maxHeartbeats 2000000 in
theorem few_l (N : Int) (pE pA : Option Addr) (nE nA cE cA : Nat) (E : List (Int × Int)) (A : List (List Int)) (w : World) (hE : Prs w pE E) (hA : Mat w pA A) (hnE : E.length = nE) (hnA : A.length = nA) :
    Calls Tryd.prog 20 #[.agg #[.int .i64 N, .slice pE nE cE, .slice pA nA cA]] w fun e w' => e = .returned (.bool (fewB E A)) ∧ Grew w w' := by
  subst hnE hnA
  have hm1 := hE.1
  have hm2 := hA.1
  by_cases h1 : 100 < E.length
  · have Hf : Hid (fewB E A = false) := Lib.hid (by unfold fewB; simp; omega)
    go_enter Tryd.func20, Tryd.ntmps20
    go_wp2
    go_ret
    exact ⟨by rw [Hf.out]; rfl, by (repeat (first | exact gR _ | refine gO ?_ _ | refine gA ?_ _ | refine gD ?_ | refine gN ?_ _))⟩
  · have h1' : E.length ≤ 100 := by omega
    by_cases h2 : 100 < A.length
    · have Hf : Hid (fewB E A = false) := Lib.hid (by unfold fewB; simp; omega)
      clear h1
      go_enter Tryd.func20, Tryd.ntmps20
      go_wp2
      go_ret
      exact ⟨by rw [Hf.out]; rfl, by (repeat (first | exact gR _ | refine gO ?_ _ | refine gA ?_ _ | refine gD ?_ | refine gN ?_ _))⟩
    · have h2' : A.length ≤ 100 := by omega
      have HA := Lib.hid hA
      clear h1 h2 hA
      go_enter Tryd.func20, Tryd.ntmps20
      go_wp2
      go_loop [3] (fun i => ∃ v : Nat, v ≤ A.length ∧ i = .int .i64 v ∧ ∀ u, u < v → (rowOf A u).length ≤ 100) (fun i => A.length - (intOf i).toNat)
      case atStart => exact ⟨0, Nat.zero_le _, rfl, fun u hu => absurd hu (Nat.not_lt_zero _)⟩
      case round =>
        obtain ⟨v, hv, rfl, hok⟩ := hrel
        have Hok := Lib.hid hok
        clear hok
        by_cases hlt : v < A.length
        · obtain ⟨bA, oA, rp, rc, rfl, lA, cA'⟩ := HA.out.rows (by omega)
          obtain ⟨a1, a2⟩ := cA' w (Grew.refl _) v hlt
          have hrl := a2.1
          clear cA' a2
          by_cases h3 : 100 < (rowOf A v).length
          · have Hf : Hid (fewB E A = false) := Lib.hid (by
              unfold fewB
              refine decide_eq_false fun h => ?_
              have := h.2.2 v hlt
              omega)
            go_wp2
            go_ret
            exact ⟨by rw [Hf.out]; rfl, by (repeat (first | exact gR _ | refine gO ?_ _ | refine gA ?_ _ | refine gD ?_ | refine gN ?_ _))⟩
          · have h3' : (rowOf A v).length ≤ 100 := by omega
            clear h3
            go_wp2
            go_round
            case rel =>
              refine ⟨v + 1, by omega, by go_num, fun u hu => ?_⟩
              by_cases e : u = v
              · subst e; exact h3'
              · exact Hok.out u (by omega)
            case measure => simp [intOf]; omega
        · have Hf : Hid (fewB E A = true) := Lib.hid (by
            unfold fewB
            exact decide_eq_true ⟨h1', h2', fun u hu => Hok.out u (by omega)⟩)
          go_wp2
          go_ret
          exact ⟨by rw [Hf.out]; rfl, by (repeat (first | exact gR _ | refine gO ?_ _ | refine gA ?_ _ | refine gD ?_ | refine gN ?_ _))⟩

noncomputable def tailF (N : Int) (E : List (Int × Int)) (A : List (List Int)) (d : Int) : Int := if vRotB N E A = true ∧ 0 ≤ d ∧ d < 2 * E.length then tailE E d else -1

theorem valid_pe {N : Int} {pE pA : Option Addr} {nE nA cE cA : Nat} {E : List (Int × Int)} {A : List (List Int)} {w : World} {b : Bool} (h : vRotB N E A = b) (hR : RotAt w pE pA E A) (hL : Lim w) (hnE : E.length = nE) (hnA : A.length = nA) :
    Calls Tryd.prog 76 #[.agg #[.int .i64 N, .slice pE nE cE, .slice pA nA cA]] w fun e w' => e = .returned (.bool b) ∧ Grew w w' := h ▸ valid_p N pE pA nE nA cE cA E A w hR hL hnE hnA
theorem valid_re {N : Int} {pE pA : Option Addr} {nE nA cE cA : Nat} {E : List (Int × Int)} {A : List (List Int)} {w : World} {b : Bool} (h : vRotB N E A = b) (hR : RotAt w pE pA E A) (hnE : E.length = nE) (hnA : A.length = nA) :
    Calls Tryd.prog 26 #[.agg #[.int .i64 N, .slice pE nE cE, .slice pA nA cA]] w fun e w' => e = .returned (.bool b) ∧ Grew w w' := h ▸ valid_r N pE pA nE nA cE cA E A w hR hnE hnA

set_option maxHeartbeats 2000000 in
theorem tailp_l (N : Int) (pE pA : Option Addr) (nE nA cE cA : Nat) (E : List (Int × Int)) (A : List (List Int)) (d : Int) (w : World) (hR : RotAt w pE pA E A) (hL : Lim w) (hnE : E.length = nE) (hnA : A.length = nA) :
    Calls Tryd.prog 79 #[.agg #[.int .i64 N, .slice pE nE cE, .slice pA nA cA], .int .i64 d] w fun e w' => e = .returned (.int .i64 (tailF N E A d)) ∧ Grew w w' := by
  subst hnE hnA
  have he1 := hR.e1
  have HR := Lib.hid hR
  have HL := Lib.hid hL
  cases hv : vRotB N E A
  case false =>
    have Hf : Hid (tailF N E A d = -1) := Lib.hid (by unfold tailF; simp [hv])
    have Hv := Lib.hid hv
    clear hv hR hL
    go_enter Tryd.func79, Tryd.ntmps79
    go_wp2_with (go_at_call 76; apply Calls.mono; (with_reducible exact valid_pe Hv.out (HR.out.grew (by (repeat (first | exact gR _ | refine gO ?_ _ | refine gA ?_ _ | refine gD ?_ | refine gN ?_ _)))) (HL.out.grew (by (repeat (first | exact gR _ | refine gO ?_ _ | refine gA ?_ _ | refine gD ?_ | refine gN ?_ _)))) rfl rfl); rintro e w' ⟨rfl, x, rfl⟩)
    go_ret
    exact ⟨by rw [Hf.out]; rfl, by (repeat (first | exact gR _ | refine gO ?_ _ | refine gA ?_ _ | refine gD ?_ | refine gN ?_ _))⟩
  case true =>
    have Hv := Lib.hid hv
    by_cases h1 : d < 0
    · have Hf : Hid (tailF N E A d = -1) := Lib.hid (by unfold tailF; rw [if_neg (by omega)])
      clear hv hR hL
      go_enter Tryd.func79, Tryd.ntmps79
      go_wp2_with (go_at_call 76; apply Calls.mono; (with_reducible exact valid_pe Hv.out (HR.out.grew (by (repeat (first | exact gR _ | refine gO ?_ _ | refine gA ?_ _ | refine gD ?_ | refine gN ?_ _)))) (HL.out.grew (by (repeat (first | exact gR _ | refine gO ?_ _ | refine gA ?_ _ | refine gD ?_ | refine gN ?_ _)))) rfl rfl); rintro e w' ⟨rfl, x, rfl⟩)
      go_ret
      exact ⟨by rw [Hf.out]; rfl, by (repeat (first | exact gR _ | refine gO ?_ _ | refine gA ?_ _ | refine gD ?_ | refine gN ?_ _))⟩
    obtain ⟨m, rfl⟩ := Int.eq_ofNat_of_zero_le (by omega : 0 ≤ d)
    clear h1
    by_cases h2 : 2 * E.length ≤ m
    · have Hf : Hid (tailF N E A m = -1) := Lib.hid (by unfold tailF; rw [if_neg (by omega)])
      clear hv hR hL
      go_enter Tryd.func79, Tryd.ntmps79
      go_wp2_with (go_at_call 76; apply Calls.mono; (with_reducible exact valid_pe Hv.out (HR.out.grew (by (repeat (first | exact gR _ | refine gO ?_ _ | refine gA ?_ _ | refine gD ?_ | refine gN ?_ _)))) (HL.out.grew (by (repeat (first | exact gR _ | refine gO ?_ _ | refine gA ?_ _ | refine gD ?_ | refine gN ?_ _)))) rfl rfl); rintro e w' ⟨rfl, x, rfl⟩)
      go_ret
      exact ⟨by rw [Hf.out]; rfl, by (repeat (first | exact gR _ | refine gO ?_ _ | refine gA ?_ _ | refine gD ?_ | refine gN ?_ _))⟩
    have hm : m < 2 * E.length := by omega
    have Hf : Hid (tailF N E A m = tailE E m) := Lib.hid (by unfold tailF; rw [if_pos ⟨hv, by omega, by omega⟩])
    clear h2 hv
    obtain ⟨bE, oE, rfl, lE, cE'⟩ := hR.hE.cells (by omega)
    obtain ⟨c1, c2⟩ := cE' w (Grew.refl _) (m / 2) (by omega)
    have hm2 : m / 2 < E.length := by omega
    clear cE' hR hL
    go_enter Tryd.func79, Tryd.ntmps79
    go_wp2_with (first
      | (go_at_call 76; apply Calls.mono; (with_reducible exact valid_pe Hv.out (HR.out.grew (by (repeat (first | exact gR _ | refine gO ?_ _ | refine gA ?_ _ | refine gD ?_ | refine gN ?_ _)))) (HL.out.grew (by (repeat (first | exact gR _ | refine gO ?_ _ | refine gA ?_ _ | refine gD ?_ | refine gN ?_ _)))) rfl rfl); rintro e w' ⟨rfl, x, rfl⟩)
      | (go_at_call 78; apply Calls.mono; (with_reducible exact tail_e E m _); rintro e w' ⟨rfl, x2, rfl⟩))
    go_ret
    exact ⟨by rw [Hf.out]; rfl, by (repeat (first | exact gR _ | refine gO ?_ _ | refine gA ?_ _ | refine gD ?_ | refine gN ?_ _))⟩

set_option maxHeartbeats 2000000 in
theorem tailr_l (N : Int) (pE pA : Option Addr) (nE nA cE cA : Nat) (E : List (Int × Int)) (A : List (List Int)) (d : Int) (w : World) (hR : RotAt w pE pA E A) (hnE : E.length = nE) (hnA : A.length = nA) :
    Calls Tryd.prog 73 #[.agg #[.int .i64 N, .slice pE nE cE, .slice pA nA cA], .int .i64 d] w fun e w' => e = .returned (.int .i64 (tailF N E A d)) ∧ Grew w w' := by
  subst hnE hnA
  have he1 := hR.e1
  have ha1 := hR.a1
  have HR := Lib.hid hR
  cases hv : vRotB N E A
  case false =>
    have Hf : Hid (tailF N E A d = -1) := Lib.hid (by unfold tailF; simp [hv])
    have Hv := Lib.hid hv
    clear hv hR
    go_enter Tryd.func73, Tryd.ntmps73
    go_wp2_with (go_at_call 26; apply Calls.mono; (with_reducible exact valid_re Hv.out (HR.out.grew (by (repeat (first | exact gR _ | refine gO ?_ _ | refine gA ?_ _ | refine gD ?_ | refine gN ?_ _)))) rfl rfl); rintro e w' ⟨rfl, x, rfl⟩)
    go_ret
    exact ⟨by rw [Hf.out]; rfl, by (repeat (first | exact gR _ | refine gO ?_ _ | refine gA ?_ _ | refine gD ?_ | refine gN ?_ _))⟩
  case true =>
    have Hv := Lib.hid hv
    by_cases h1 : d < 0
    · have Hf : Hid (tailF N E A d = -1) := Lib.hid (by unfold tailF; rw [if_neg (by omega)])
      clear hv hR
      go_enter Tryd.func73, Tryd.ntmps73
      go_wp2_with (go_at_call 26; apply Calls.mono; (with_reducible exact valid_re Hv.out (HR.out.grew (by (repeat (first | exact gR _ | refine gO ?_ _ | refine gA ?_ _ | refine gD ?_ | refine gN ?_ _)))) rfl rfl); rintro e w' ⟨rfl, x, rfl⟩)
      go_ret
      exact ⟨by rw [Hf.out]; rfl, by (repeat (first | exact gR _ | refine gO ?_ _ | refine gA ?_ _ | refine gD ?_ | refine gN ?_ _))⟩
    obtain ⟨m, rfl⟩ := Int.eq_ofNat_of_zero_le (by omega : 0 ≤ d)
    clear h1
    by_cases h2 : 2 * E.length ≤ m
    · have Hf : Hid (tailF N E A m = -1) := Lib.hid (by unfold tailF; rw [if_neg (by omega)])
      clear hv hR
      go_enter Tryd.func73, Tryd.ntmps73
      go_wp2_with (go_at_call 26; apply Calls.mono; (with_reducible exact valid_re Hv.out (HR.out.grew (by (repeat (first | exact gR _ | refine gO ?_ _ | refine gA ?_ _ | refine gD ?_ | refine gN ?_ _)))) rfl rfl); rintro e w' ⟨rfl, x, rfl⟩)
      go_ret
      exact ⟨by rw [Hf.out]; rfl, by (repeat (first | exact gR _ | refine gO ?_ _ | refine gA ?_ _ | refine gD ?_ | refine gN ?_ _))⟩
    have hm : m < 2 * E.length := by omega
    have Hf : Hid (tailF N E A m = tailE E m) := Lib.hid (by unfold tailF; rw [if_pos ⟨hv, by omega, by omega⟩])
    have HTl := Lib.hid (fun W1 (hg1 : Grew w W1) => tails_r N pE pA E.length A.length cE cA E W1 (hR.hE.grew hg1) he1 rfl (fun a ha => by
      have hV := vRotB_iff.1 hv
      obtain ⟨t, ht, rfl⟩ := List.getElem_of_mem ha
      have := hV.ed t ht
      have := hV.al
      unfold okEdge at *
      rw [pr_eq E ht] at *
      omega))
    clear h2 hv hR
    go_enter Tryd.func73, Tryd.ntmps73
    go_wp2_with (first
      | (go_at_call 26; apply Calls.mono; (with_reducible exact valid_re Hv.out (HR.out.grew (by (repeat (first | exact gR _ | refine gO ?_ _ | refine gA ?_ _ | refine gD ?_ | refine gN ?_ _)))) rfl rfl); rintro e w' ⟨rfl, x, rfl⟩)
      | (go_at_call 41; apply Calls.mono; (with_reducible exact HTl.out _ (by (repeat (first | exact gR _ | refine gO ?_ _ | refine gA ?_ _ | refine gD ?_ | refine gN ?_ _)))); rintro e w3 ⟨hg3, pT, cT, rfl, hT⟩; obtain ⟨bT, oT, rfl, lT, cT'⟩ := hT.cells (by rw [tailsL_length]; omega); have c1 := cT' w3 (Grew.refl _) m (by rw [tailsL_length]; exact hm); rw [tailsL_get E m hm] at c1; have Hg3 : Hid (Grew w w3) := Lib.hid (Grew.trans (by (repeat (first | exact gR _ | refine gO ?_ _ | refine gA ?_ _ | refine gD ?_ | refine gN ?_ _))) hg3); clear hT hg3 cT'))
    go_ret
    exact ⟨by rw [Hf.out]; rfl, Hg3.out⟩

end Go.Proofs.YtlealdicoceekaaDoor

/- The next dart: what it is; slices.Index; Other. -/
namespace Go.Proofs.YtlealdicoceekaaDoor
open Go.RowKit
attribute [local go_sem ↓] Go.wp_at_zero Go.wp_at_succ

def sucP (A : List (List Int)) : List (Int × Int) := (List.range A.length).flatMap fun v => (List.range (rowOf A v).length).map fun k => (ge (rowOf A v) k, ge (rowOf A v) ((k + 1) % (rowOf A v).length))
/-- The dart behind e in the list that has it. -/
def sucF (A : List (List Int)) (e : Int) : Int := match (sucP A).find? (fun q => q.1 == e) with | some q => q.2 | none => 0
/-- The other dart of the edge. -/
def oth (d : Int) : Int := if d % 2 = 0 then d + 1 else d - 1
theorem oth_oth (d : Int) : oth (oth d) = d := by unfold oth; split <;> split <;> omega
theorem oth_in {d : Int} {M : Nat} (h0 : 0 ≤ d) (h1 : d < 2 * M) : 0 ≤ oth d ∧ oth d < 2 * M := by unfold oth; split <;> omega

theorem range_ge (xs : List Int) : (List.range xs.length).map (fun k => ge xs k) = xs := by
  refine List.ext_getElem (by simp) fun i h1 h2 => ?_
  simp [ge, h2]
theorem sucP_keys (A : List (List Int)) : (sucP A).map (·.1) = (pre A A.length).map (·.2) := by
  unfold sucP pre
  rw [List.map_flatMap, List.map_flatMap]
  congr 1
  funext v
  rw [List.map_map, List.map_map]
  show (List.range (rowOf A v).length).map (fun k => ge (rowOf A v) k) = (rowOf A v).map (fun d => d)
  rw [range_ge, List.map_id']
theorem find_key : ∀ {L : List (Int × Int)} {a b : Int}, (L.map (·.1)).Nodup → (a, b) ∈ L → L.find? (fun q => q.1 == a) = some (a, b)
  | [], _, _, _, h => by cases h
  | q :: L, a, b, hn, h => by
    rw [List.map_cons, List.nodup_cons] at hn
    rcases List.mem_cons.1 h with h | h
    · subst h; simp
    · have hne : q.1 ≠ a := fun e => hn.1 (by rw [e]; exact List.mem_map.2 ⟨_, h, rfl⟩)
      rw [List.find?_cons_of_neg (by simpa using hne)]
      exact find_key hn.2 h
theorem suc_of {N : Int} {E : List (Int × Int)} {A : List (List Int)} (hV : vRot N E A) {v k : Nat} (hv : v < A.length) (hk : k < (rowOf A v).length) : sucF A (ge (rowOf A v) k) = ge (rowOf A v) ((k + 1) % (rowOf A v).length) := by
  have h := find_key (L := sucP A) (a := ge (rowOf A v) k) (b := ge (rowOf A v) ((k + 1) % (rowOf A v).length)) (by rw [sucP_keys]; exact hV.nd)
    (List.mem_flatMap.2 ⟨v, List.mem_range.2 hv, List.mem_map.2 ⟨k, List.mem_range.2 hk, rfl⟩⟩)
  unfold sucF
  rw [h]

theorem mem_pre {A : List (List Int)} {q : Nat × Int} : q ∈ pre A A.length ↔ ∃ k, q.1 < A.length ∧ k < (rowOf A q.1).length ∧ ge (rowOf A q.1) k = q.2 := by
  unfold pre
  rw [List.mem_flatMap]
  constructor
  · rintro ⟨v, hv, hq⟩
    obtain ⟨d, hd, rfl⟩ := List.mem_map.1 hq
    obtain ⟨k, hk, rfl⟩ := List.getElem_of_mem hd
    exact ⟨k, List.mem_range.1 hv, hk, ge_eq _ hk⟩
  · rintro ⟨k, h1, h2, h3⟩
    exact ⟨q.1, List.mem_range.2 h1, List.mem_map.2 ⟨q.2, by rw [← h3]; exact ge_mem h2, rfl⟩⟩
theorem perm_of_nodup {L : List Nat} (hL : L.Nodup) : ∀ {l : List Nat}, l.Nodup → (∀ x ∈ l, x ∈ L) → l.length = L.length → ∀ y ∈ L, y ∈ l := by
  intro l hl hs he y hy
  refine Classical.byContradiction fun hn => ?_
  have h1 : (y :: l).Nodup := List.nodup_cons.2 ⟨hn, hl⟩
  have h2 : ∀ x ∈ y :: l, x ∈ L := fun x hx => (List.mem_cons.1 hx).elim (fun e => e ▸ hy) (hs x)
  have h3 := List.Nodup.length_le_of_subset h1 h2
  rw [List.length_cons] at h3
  omega
/-- Every dart lies in exactly the list of its tail. -/
theorem dart_pos {N : Int} {E : List (Int × Int)} {A : List (List Int)} (hV : vRot N E A) {e : Int} (h0 : 0 ≤ e) (h1 : e < 2 * E.length) : ∃ v k, v < A.length ∧ k < (rowOf A v).length ∧ ge (rowOf A v) k = e ∧ tailE E e = v := by
  have key : ∀ y ∈ List.range (2 * E.length), y ∈ ((pre A A.length).map (·.2)).map Int.toNat := by
    refine perm_of_nodup List.nodup_range ?_ (fun x hx => ?_) (by simp [hV.ln])
    · unfold List.Nodup
      rw [List.pairwise_map]
      refine List.Pairwise.imp_of_mem ?_ hV.nd
      intro a b ha hb hne e
      obtain ⟨q, hq, rfl⟩ := List.mem_map.1 ha
      obtain ⟨r, hr, rfl⟩ := List.mem_map.1 hb
      have := (hV.dr q hq).1
      have := (hV.dr r hr).1
      exact hne (by omega)
    · obtain ⟨a, ha, rfl⟩ := List.mem_map.1 hx
      obtain ⟨q, hq, rfl⟩ := List.mem_map.1 ha
      have h := hV.dr q hq
      have := h.1
      have := h.2.1
      rw [List.mem_range]
      omega
  obtain ⟨a, ha, hae⟩ := List.mem_map.1 (key e.toNat (by rw [List.mem_range]; omega))
  obtain ⟨q, hq, rfl⟩ := List.mem_map.1 ha
  have hd := hV.dr q hq
  have hqe : q.2 = e := by have := hd.1; omega
  obtain ⟨k, hk1, hk2, hk3⟩ := mem_pre.1 hq
  exact ⟨q.1, k, hk1, hk2, by rw [hk3, hqe], by rw [← hqe]; exact hd.2.2⟩
/-- A list of a valid system has no element twice. -/
theorem row_inj {N : Int} {E : List (Int × Int)} {A : List (List Int)} (hV : vRot N E A) {v : Nat} (hv : v < A.length) {i j : Nat} (hij : i < j) (hj : j < (rowOf A v).length) : ge (rowOf A v) i ≠ ge (rowOf A v) j := by
  obtain ⟨r, hr⟩ := preK_split A hv hj
  intro e
  have := hV.nd
  rw [hr, List.map_append, List.nodup_append] at this
  refine this.2.2 (ge (rowOf A v) i) ?_ _ (by simp) e
  unfold preK
  rw [List.map_append, List.map_map]
  refine List.mem_append_right _ (List.mem_map.2 ⟨ge (rowOf A v) i, ?_, rfl⟩)
  rw [List.mem_take_iff_getElem]
  exact ⟨i, by omega, (ge_eq _ (by omega)).symm⟩

set_option maxHeartbeats 1000000 in
theorem index_p (p : Option Addr) (n cap : Nat) (xs : List Int) (v : Int) (w : World) (hI : Ints w p xs) (hn : xs.length = n) :
    Calls Tryd.prog 62 #[.slice p n cap, .int .i64 v] w fun e w' => e = .returned (.int .i64 (idx v xs)) ∧ w = w' := by
  subst hn
  obtain ⟨hm, _, b, o, h3, h4⟩ := hI
  go_enter Tryd.func62, Tryd.ntmps62
  go_wp2
  go_loop [5, 8] (fun _ i => ∃ k : Nat, k ≤ xs.length ∧ i = .int .i64 k ∧ ∀ j, j < k → v ≠ ge xs j) (fun _ i => xs.length - (intOf i).toNat)
  case atStart => exact ⟨0, Nat.zero_le _, rfl, fun j hj => by omega⟩
  case round =>
    obtain ⟨k, hk, rfl, hall⟩ := hrel
    have Hall := Lib.hid hall
    clear hall
    by_cases hlt : k < xs.length
    · obtain ⟨rfl, hb⟩ := h3 (by omega)
      have hc := h4 k hlt
      clear h3 h4
      by_cases he : v = ge xs k
      · have Hf := Lib.hid (idx_first k hlt Hall.out he)
        have he' : (v == ge xs k) = true := beq_iff_eq.2 he
        clear he
        go_wp2
        go_ret
        exact ⟨ret_int Hf.out.symm, rfl⟩
      · have he' : (v == ge xs k) = false := beq_eq_false_iff_ne.2 he
        have He := Lib.hid he
        clear he
        go_wp2
        go_round
        case rel => exact ⟨k + 1, by omega, by go_num, fun j hj => by
          by_cases h : j = k
          · rw [h]; exact He.out
          · exact Hall.out j (by omega)⟩
        case measure => simp [intOf]; omega
    · have Hf := Lib.hid (idx_take_none (v := v) (xs := xs) (fun i hi => Hall.out i (by omega)))
      go_wp2
      go_ret
      exact ⟨ret_int Hf.out.symm, rfl⟩

theorem other_r (m : Nat) (w : World) (hm : m ≤ 1000000) : Calls Tryd.prog 65 #[.int .i64 m] w fun e w' => e = .returned (.int .i64 (oth m)) ∧ w = w' := by
  by_cases h : (m : Int) % 2 = 0
  · have Hf : Hid (oth m = m + 1) := Lib.hid (by unfold oth; rw [if_pos h])
    have h' : ((m : Int) % 2 == 0) = true := beq_iff_eq.2 h
    clear h
    go_enter Tryd.func65, Tryd.ntmps65
    go_wp2
    go_ret
    exact ⟨by rw [Hf.out]; rfl, rfl⟩
  · have Hf : Hid (oth m = m - 1) := Lib.hid (by unfold oth; rw [if_neg h])
    have h' : ((m : Int) % 2 == 0) = false := beq_eq_false_iff_ne.2 h
    have h1 : 1 ≤ m := by omega
    clear h
    go_enter Tryd.func65, Tryd.ntmps65
    go_wp2
    go_ret
    exact ⟨by rw [Hf.out]; rfl, rfl⟩

end Go.Proofs.YtlealdicoceekaaDoor

/- Follow, and Next of the reference. -/
namespace Go.Proofs.YtlealdicoceekaaDoor
open Go.RowKit
attribute [local go_sem ↓] Go.wp_at_zero Go.wp_at_succ

/-- What is written when the darts of S have been met: at place g e the dart behind e. -/
def folL (A : List (List Int)) (M : Nat) (S : List Int) : List Int := tab M fun e : Nat => if (e : Int) ∈ S then sucF A e else 0
theorem folL_length (A : List (List Int)) (M : Nat) (S : List Int) : (folL A M S).length = M := tab_length _ _
theorem folL_set {A : List (List Int)} {M d : Nat} {S : List Int} (hd : d < M) : (folL A M S).set d (sucF A d) = folL A M (S ++ [(d : Int)]) := by
  unfold folL
  rw [tab_set M _ hd]
  refine tab_congr fun u hu => ?_
  by_cases e : u = d
  · subst e; rw [if_pos rfl, if_pos (List.mem_append_right _ (List.mem_singleton.2 rfl))]
  · rw [if_neg e]
    have : ((u : Int) ∈ S ++ [(d : Int)]) ↔ (u : Int) ∈ S := by
      rw [List.mem_append, List.mem_singleton]
      exact ⟨fun h => h.resolve_right (by omega), Or.inl⟩
    simp only [this]
/-- The list of the darts that come next around a vertex. -/
def folA (A : List (List Int)) (M : Nat) : List Int := tab M fun e : Nat => sucF A e
theorem folL_all {N : Int} {E : List (Int × Int)} {A : List (List Int)} (hV : vRot N E A) : folL A (2 * E.length) ((pre A A.length).map (·.2)) = folA A (2 * E.length) := by
  unfold folL folA
  refine tab_congr fun u hu => if_pos ?_
  obtain ⟨v, k, h1, h2, h3, _⟩ := dart_pos hV (e := (u : Int)) (by omega) (by omega)
  exact List.mem_map.2 ⟨(v, (u : Int)), mem_pre.2 ⟨k, h1, h2, h3⟩, rfl⟩
theorem sucF_in {N : Int} {E : List (Int × Int)} {A : List (List Int)} (hV : vRot N E A) {e : Int} (h0 : 0 ≤ e) (h1 : e < 2 * E.length) : 0 ≤ sucF A e ∧ sucF A e < 2 * E.length := by
  obtain ⟨v, k, hv, hk, he, _⟩ := dart_pos hV h0 h1
  rw [← he, suc_of hV hv hk]
  have hm : (k + 1) % (rowOf A v).length < (rowOf A v).length := Nat.mod_lt _ (by omega)
  have := hV.dr (v, ge (rowOf A v) ((k + 1) % (rowOf A v).length)) (mem_pre.2 ⟨_, hv, hm, rfl⟩)
  exact ⟨this.1, this.2.1⟩

set_option maxRecDepth 8000 in
set_option maxHeartbeats 8000000 in
theorem follow_r (N : Int) (pE pA : Option Addr) (nE nA cE cA : Nat) (E : List (Int × Int)) (A : List (List Int)) (w : World) (hR : RotAt w pE pA E A) (hV : vRot N E A) (hnE : E.length = nE) (hnA : A.length = nA) :
    Calls Tryd.prog 72 #[.agg #[.int .i64 N, .slice pE nE cE, .slice pA nA cA]] w fun e w' => Grew w w' ∧ ∃ q cap, e = .returned (.slice q (2 * E.length) cap) ∧ Ints w' q (folA A (2 * E.length)) ∧ Owns w' w.heap.size [⟨.slice q (2 * E.length) cap, 3, 1, 2 * E.length, intVs (folA A (2 * E.length))⟩] := by
  subst hnE hnA
  have he1 := hR.e1
  have ha1 := hR.a1
  have hN : N = A.length := hV.al.symm
  subst hN
  have HR := Lib.hid hR
  have HL := Lib.hid hR.r1
  have HV := Lib.hid hV
  clear hR hV
  go_enter Tryd.func72, Tryd.ntmps72
  go_wp2_with (refine wp_make_owns rfl _ _ 26 rfl 3 8 (.int .i64 0) Tryd.underlying26 Tryd.infoInt rfl .i64 .i64 _ _ (2 * E.length) rfl rfl (by push_cast; rfl) (by push_cast; rfl) (by omega) (by simp only [maxLen]; omega) (w.heap.size + 1) [] (Owns.nil _ _) (by simp) ?_; intro w4 hO hg4 hs4; have HO4 := Lib.hid hO; have Hg4 := Lib.hid hg4; have hsz4 := hg4.below.size; clear hO hg4)
  simp at hs4 hsz4
  have HwB : Hid (Grew w (w.alloc (.cells #[.int .i64 A.length, .slice pE E.length cE, .slice pA A.length cA] 25))) := Lib.hid ((Grew.refl w).alloc _)
  have Hc0 : Hid ((w.alloc (.cells #[.int .i64 A.length, .slice pE E.length cE, .slice pA A.length cA] 25)).cell? ⟨w.heap.size, 0, none⟩ = some (.int .i64 A.length)) := Lib.hid (by simp [go_sem])
  have Hc2 : Hid ((w.alloc (.cells #[.int .i64 A.length, .slice pE E.length cE, .slice pA A.length cA] 25)).cell? ⟨w.heap.size, 2, none⟩ = some (.slice pA A.length cA)) := Lib.hid (by simp [go_sem])
  have hsB : (w.alloc (.cells #[.int .i64 A.length, .slice pE E.length cE, .slice pA A.length cA] 25)).heap.size = w.heap.size + 1 := by simp
  obtain ⟨wB, hwB⟩ : ∃ wB, w.alloc (.cells #[.int .i64 A.length, .slice pE E.length cE, .slice pA A.length cA] 25) = wB := ⟨_, rfl⟩
  rw [hwB] at Hg4 HwB Hc0 Hc2 hsB HO4
  clear hwB
  have HO5 : Hid (Owns w4 (w.heap.size + 1) [⟨.slice (some ⟨w.heap.size + 1, 0, none⟩) (2 * E.length) (2 * E.length), 3, 1, 2 * E.length, intVs (folL A (2 * E.length) [])⟩]) := Lib.hid (by
    have := HO4.out
    rw [hsB] at this
    have e : folL A (2 * E.length) [] = tab (2 * E.length) (fun _ => 0) := tab_congr fun u hu => if_neg (by simp)
    rw [e, ← intVs_rep]
    exact this)
  clear HO4
  go_loopw [4] (fun i wq => ∃ v : Nat, v ≤ A.length ∧ i = .int .i64 v ∧ Grew wB wq ∧ w4.heap.size ≤ wq.heap.size ∧ Owns wq (w.heap.size + 1) [⟨.slice (some ⟨w.heap.size + 1, 0, none⟩) (2 * E.length) (2 * E.length), 3, 1, 2 * E.length, intVs (folL A (2 * E.length) ((pre A v).map (·.2)))⟩]) (fun i _ => A.length - (intOf i).toNat)
  case atStart => exact ⟨0, Nat.zero_le _, rfl, Hg4.out, Nat.le_refl _, HO5.out⟩
  case round =>
    obtain ⟨v, hv, rfl, hgq, hsq, hOq⟩ := hrel
    have Hgq := Lib.hid hgq
    have HOq := Lib.hid hOq
    have q0 := hgq.cellEq Hc0.out
    have q2 := hgq.cellEq Hc2.out
    have Hwq : Hid (Grew w wr) := Lib.hid (HwB.out.trans hgq)
    clear hgq hOq
    by_cases hlv : v < A.length
    · obtain ⟨bA, oA, rp, rc, rfl, lA, cA'⟩ := HR.out.hA.rows (by omega)
      obtain ⟨a1, _⟩ := cA' wr Hwq.out v hlv
      obtain ⟨_, a2⟩ := cA' w (Grew.refl _) v hlv
      obtain ⟨rv, hrv⟩ : ∃ rv, rp v = rv := ⟨_, rfl⟩
      rw [hrv] at a1 a2
      have Ha2 := Lib.hid a2
      have hrl := HL.out v hlv
      clear cA' a2 hrv
      go_wp2
      clear q0 q2
      go_loopw [6] (fun i wk => ∃ k : Nat, k ≤ (rowOf A v).length ∧ i = .int .i64 k ∧ Grew wB wk ∧ wr.heap.size ≤ wk.heap.size ∧ Owns wk (w.heap.size + 1) [⟨.slice (some ⟨w.heap.size + 1, 0, none⟩) (2 * E.length) (2 * E.length), 3, 1, 2 * E.length, intVs (folL A (2 * E.length) ((preK A v k).map (·.2)))⟩]) (fun i _ => (rowOf A v).length - (intOf i).toNat)
      case atStart => exact ⟨0, Nat.zero_le _, rfl, Hgq.out, Nat.le_refl _, by rw [preK_zero]; exact HOq.out⟩
      case round =>
        obtain ⟨k, hk, rfl, hgk, hgr, hOk⟩ := hrel
        have Hgk := Lib.hid hgk
        have HOk := Lib.hid hOk
        have Hwk : Hid (Grew w wr) := Lib.hid (HwB.out.trans hgk)
        clear hgk hOk
        by_cases hlk : k < (rowOf A v).length
        · obtain ⟨bR, oR, rfl, lR, cR⟩ := Ha2.out.cells (by omega)
          obtain ⟨j2, hj2⟩ : ∃ j2, (k + 1) % (rowOf A v).length = j2 := ⟨_, rfl⟩
          have hj2l : j2 < (rowOf A v).length := by rw [← hj2]; exact Nat.mod_lt _ (by omega)
          have e1 := cR wr Hwk.out k hlk
          have e2 := cR wr Hwk.out j2 hj2l
          have hem : ((k : Int) + 1) % ((rowOf A v).length : Int) = (j2 : Int) := by rw [← hj2]; push_cast; rfl
          have het : ((k : Int) + 1).tmod ((rowOf A v).length : Int) = (j2 : Int) := by rw [Int.tmod_eq_emod_of_nonneg (by omega)]; exact hem
          have hln0 : ¬ rowOf A v = [] := fun e => by rw [e] at hlk; simp at hlk
          have hwk1 : IntKind.i64.wrap ((k : Int) + 1) = (k : Int) + 1 := IntWalk.i64_in _ ⟨by omega, by omega⟩
          have hok := HV.out.dr (v, ge (rowOf A v) k) (mem_pre.2 ⟨k, hlv, hlk, rfl⟩)
          obtain ⟨m, hm0⟩ : ∃ m : Nat, ge (rowOf A v) k = (m : Int) := ⟨(ge (rowOf A v) k).toNat, by have := hok.1; dsimp only at this; omega⟩
          have hm : m < 2 * E.length := by have := hok.2.1; dsimp only at this; omega
          have hmi : (m : Int) < 2 * (E.length : Int) := by omega
          have hsuc := suc_of HV.out hlv hlk
          rw [hm0, hj2] at hsuc
          rw [hm0] at e1
          rw [← hsuc] at e2
          obtain ⟨gM, cM, eM, _, kM, _, _, nM, mM⟩ := HOk.out.some (k := 0) rfl (by omega)
          cases eM
          have x1 := mM m _ (intVs_get _ (by rw [folL_length]; exact hm))
          have x2 := nM m
          have Hn := Lib.hid (preK_succ A v hlk)
          have Hm0 := Lib.hid hm0
          clear cR hok hm0 hsuc nM mM hj2
          go_upto_region 9 with fail
          refine wp_region_T (s := 14) (S := fun w' => w'.cell? ⟨bR, oR + k, none⟩ = some (.int .i64 m) ∧ w'.cell? ⟨bR, oR + j2, none⟩ = some (.int .i64 (sucF A m))) (by kernel_rfl) ⟨e1, e2⟩ (fun hH => ?_)
          refine wpAnyT_takeL (i := 0) (v := ?_) rfl (by kernel_rfl) (by kernel_rfl) (by kernel_rfl) (by kernel_rfl) (fun _ _ _ h => h) (Or.inl ⟨by rfl, ?_⟩) (by assumption) ?_
          rotate_left
          · (intro w hSw; (try dsimp only at hSw); go_simp; (try with_reducible rfl))
          (try simp only [Act.put, List.setIfInBounds_toArray, List.set_cons_zero, List.set_cons_succ])
          refine wpAnyT_takeL (i := 1) (v := ?_) rfl (by kernel_rfl) (by kernel_rfl) (by kernel_rfl) (by kernel_rfl) (fun _ _ _ h => h) (Or.inl ⟨by rfl, ?_⟩) (by assumption) ?_
          rotate_left
          · (intro w hSw; (try dsimp only at hSw); go_simp; (try with_reducible rfl))
          (try simp only [Act.put, List.setIfInBounds_toArray, List.set_cons_zero, List.set_cons_succ])
          refine wpAnyT_takeL (i := 2) (v := ?_) rfl (by kernel_rfl) (by kernel_rfl) (by kernel_rfl) (by kernel_rfl) (fun _ _ _ h => h) (Or.inl ⟨by rfl, ?_⟩) (by assumption) ?_
          rotate_left
          · (intro w hSw; (try dsimp only at hSw); go_simp; (try with_reducible rfl))
          (try simp only [Act.put, List.setIfInBounds_toArray, List.set_cons_zero, List.set_cons_succ])
          refine wpAnyT_takeL (i := 3) (v := ?_) rfl (by kernel_rfl) (by kernel_rfl) (by kernel_rfl) (by kernel_rfl) (fun _ _ _ h => h) (Or.inl ⟨by rfl, ?_⟩) (by assumption) ?_
          rotate_left
          · (intro w hSw; (try dsimp only at hSw); go_simp; (try with_reducible rfl))
          (try simp only [Act.put, List.setIfInBounds_toArray, List.set_cons_zero, List.set_cons_succ])
          refine wpAnyT_takeL (i := 4) (v := ?_) rfl (by kernel_rfl) (by kernel_rfl) (by kernel_rfl) (by kernel_rfl) (fun _ _ _ h => h) (Or.inl ⟨by rfl, ?_⟩) (by assumption) ?_
          rotate_left
          · (intro w hSw; (try dsimp only at hSw); go_simp; (try with_reducible rfl))
          (try simp only [Act.put, List.setIfInBounds_toArray, List.set_cons_zero, List.set_cons_succ])
          refine wpAnyT_takeL (i := 5) (v := ?_) rfl (by kernel_rfl) (by kernel_rfl) (by kernel_rfl) (by kernel_rfl) (fun _ _ _ h => h) (Or.inl ⟨by rfl, ?_⟩) (by assumption) ?_
          rotate_left
          · (intro w hSw; (try dsimp only at hSw); go_simp; (try with_reducible rfl))
          (try simp only [Act.put, List.setIfInBounds_toArray, List.set_cons_zero, List.set_cons_succ])
          refine wpAnyT_takeL (i := 6) (v := ?_) rfl (by kernel_rfl) (by kernel_rfl) (by kernel_rfl) (by kernel_rfl) (fun _ _ _ h => h) (Or.inl ⟨by rfl, ?_⟩) (by assumption) ?_
          rotate_left
          · (intro w hSw; (try dsimp only at hSw); go_simp; (try with_reducible rfl))
          (try simp only [Act.put, List.setIfInBounds_toArray, List.set_cons_zero, List.set_cons_succ])
          refine wpAnyT_takeL (i := 7) (v := ?_) rfl (by kernel_rfl) (by kernel_rfl) (by kernel_rfl) (by kernel_rfl) (fun _ _ _ h => h) (Or.inl ⟨by rfl, ?_⟩) (by assumption) ?_
          rotate_left
          · (intro w hSw; (try dsimp only at hSw); go_simp; (try with_reducible rfl))
          (try simp only [Act.put, List.setIfInBounds_toArray, List.set_cons_zero, List.set_cons_succ])
          refine wpAnyT_takeL (i := 8) (v := ?_) rfl (by kernel_rfl) (by kernel_rfl) (by kernel_rfl) (by kernel_rfl) (fun _ _ _ h => h) (Or.inl ⟨by rfl, ?_⟩) (by assumption) ?_
          rotate_left
          · (intro w hSw; (try dsimp only at hSw); go_simp; (try with_reducible rfl))
          (try simp only [Act.put, List.setIfInBounds_toArray, List.set_cons_zero, List.set_cons_succ])
          refine wpAnyT_takeL (i := 9) (v := ?_) rfl (by kernel_rfl) (by kernel_rfl) (by kernel_rfl) (by kernel_rfl) (fun _ _ _ h => h) (Or.inl ⟨by rfl, ?_⟩) (by assumption) ?_
          rotate_left
          · (intro w hSw; (try dsimp only at hSw); go_simp; (try with_reducible rfl))
          (try simp only [Act.put, List.setIfInBounds_toArray, List.set_cons_zero, List.set_cons_succ])
          refine wpAnyT_takeL (i := 10) (v := ?_) rfl (by kernel_rfl) (by kernel_rfl) (by kernel_rfl) (by kernel_rfl) (fun _ _ _ h => h) (Or.inl ⟨by rfl, ?_⟩) (by assumption) ?_
          rotate_left
          · (intro w hSw; (try dsimp only at hSw); go_simp; (try with_reducible rfl))
          (try simp only [Act.put, List.setIfInBounds_toArray, List.set_cons_zero, List.set_cons_succ])
          refine wpAnyT_takeL (i := 11) (v := ?_) rfl (by kernel_rfl) (by kernel_rfl) (by kernel_rfl) (by kernel_rfl) (fun _ _ _ h => h) (Or.inl ⟨by rfl, ?_⟩) (by assumption) ?_
          rotate_left
          · (intro w hSw; (try dsimp only at hSw); go_simp; (try with_reducible rfl))
          (try simp only [Act.put, List.setIfInBounds_toArray, List.set_cons_zero, List.set_cons_succ])
          refine wpAnyT_takeL (i := 12) (v := ?_) rfl (by kernel_rfl) (by kernel_rfl) (by kernel_rfl) (by kernel_rfl) (fun _ _ _ h => h) (Or.inl ⟨by rfl, ?_⟩) (by assumption) ?_
          rotate_left
          · (intro w hSw; (try dsimp only at hSw); go_simp; (try with_reducible rfl))
          (try simp only [Act.put, List.setIfInBounds_toArray, List.set_cons_zero, List.set_cons_succ])
          refine wpAnyT_takeL (i := 13) (v := ?_) rfl (by kernel_rfl) (by kernel_rfl) (by kernel_rfl) (by kernel_rfl) (fun _ _ _ h => h) (Or.inl ⟨by rfl, ?_⟩) (by assumption) ?_
          rotate_left
          · (intro w hSw; (try dsimp only at hSw); go_simp; (try with_reducible rfl))
          (try simp only [Act.put, List.setIfInBounds_toArray, List.set_cons_zero, List.set_cons_succ])
          refine wpAnyT_all (rs := [14]) (by kernel_rfl) (by simp) (AllT.lastL rfl (fun K hK => ?_))
          go_simp
          refine hK.out _ _ ?_
          clear hK K
          (try simp only [Act.put, List.setIfInBounds_toArray, List.set_cons_zero, List.set_cons_succ])
          refine wpAnyT_done (by kernel_rfl) ?_ _
          go_wp2
          go_roundw
          case rel =>
            have hmap : (preK A v (k + 1)).map (·.2) = (preK A v k).map (·.2) ++ [(m : Int)] := by rw [Hn.out, List.map_append, Hm0.out]; rfl
            have h1 := (HOk.out.grew (Grew.drew (Grew.refl wr))).set (k := 0) rfl m (.int .i64 (sucF A m))
            rw [intVs_set, folL_set hm] at h1
            refine ⟨k + 1, by omega, by go_num, (Hgk.out.trans (Grew.drew (Grew.refl wr))).setCell (show wB.heap.size ≤ w.heap.size + 1 by omega) _, by simp; omega, ?_⟩
            rw [hmap]
            exact h1
          case measure => simp [intOf]; omega
        · have hke : k = (rowOf A v).length := by omega
          have Hp : Hid (preK A v k = pre A (v + 1)) := Lib.hid (by rw [hke, preK_all])
          go_wp2
          go_roundw
          case rel => exact ⟨v + 1, by omega, by go_num, Hgk.out, by omega, by rw [← Hp.out]; exact HOk.out⟩
          case measure => simp [intOf]; omega
    · have hve : v = A.length := by omega
      subst hve
      go_wp2
      go_ret
      have h := HOq.out
      rw [folL_all HV.out] at h
      obtain ⟨p', cap', e, h2, _⟩ := h.ints (k := 0) rfl (tab_length _ _) (fun x hx => by
        obtain ⟨u, hu, rfl⟩ := List.mem_map.1 hx
        have := sucF_in HV.out (e := (u : Int)) (by omega) (by have := List.mem_range.1 hu; omega)
        omega)
      cases e
      exact ⟨Hwq.out, _, _, rfl, h2, h.base (by omega)⟩

end Go.Proofs.YtlealdicoceekaaDoor

/- Next. -/
namespace Go.Proofs.YtlealdicoceekaaDoor
open Go.RowKit
attribute [local go_sem ↓] Go.wp_at_zero Go.wp_at_succ

theorem xor_small : ∀ m : Nat, m < 200 → bits BinOp.xor IntKind.i64 (m : Int) 1 = oth m := by decide +kernel
theorem xor_two : ∀ m : Nat, m < 200 → bits BinOp.xor IntKind.i64 ((m : Int) % 2) 1 = oth m % 2 := by decide +kernel
noncomputable def nextF (N : Int) (E : List (Int × Int)) (A : List (List Int)) (d : Int) : Int := if vRotB N E A = true ∧ 0 ≤ d ∧ d < 2 * E.length then sucF A (oth d) else -1

set_option maxHeartbeats 2000000 in
theorem nextr_l (N : Int) (pE pA : Option Addr) (nE nA cE cA : Nat) (E : List (Int × Int)) (A : List (List Int)) (d : Int) (w : World) (hR : RotAt w pE pA E A) (hnE : E.length = nE) (hnA : A.length = nA) :
    Calls Tryd.prog 51 #[.agg #[.int .i64 N, .slice pE nE cE, .slice pA nA cA], .int .i64 d] w fun e w' => e = .returned (.int .i64 (nextF N E A d)) ∧ Grew w w' := by
  subst hnE hnA
  have he1 := hR.e1
  have ha1 := hR.a1
  have HR := Lib.hid hR
  cases hv : vRotB N E A
  case false =>
    have Hf : Hid (nextF N E A d = -1) := Lib.hid (by unfold nextF; simp [hv])
    have Hv := Lib.hid hv
    clear hv hR
    go_enter Tryd.func51, Tryd.ntmps51
    go_wp2_with (go_at_call 26; apply Calls.mono; (with_reducible exact valid_re Hv.out (HR.out.grew (by (repeat (first | exact gR _ | refine gO ?_ _ | refine gA ?_ _ | refine gD ?_ | refine gN ?_ _)))) rfl rfl); rintro e w' ⟨rfl, x, rfl⟩)
    go_ret
    exact ⟨by rw [Hf.out]; rfl, by (repeat (first | exact gR _ | refine gO ?_ _ | refine gA ?_ _ | refine gD ?_ | refine gN ?_ _))⟩
  case true =>
    have Hv := Lib.hid hv
    by_cases h1 : d < 0
    · have Hf : Hid (nextF N E A d = -1) := Lib.hid (by unfold nextF; rw [if_neg (by omega)])
      clear hv hR
      go_enter Tryd.func51, Tryd.ntmps51
      go_wp2_with (go_at_call 26; apply Calls.mono; (with_reducible exact valid_re Hv.out (HR.out.grew (by (repeat (first | exact gR _ | refine gO ?_ _ | refine gA ?_ _ | refine gD ?_ | refine gN ?_ _)))) rfl rfl); rintro e w' ⟨rfl, x, rfl⟩)
      go_ret
      exact ⟨by rw [Hf.out]; rfl, by (repeat (first | exact gR _ | refine gO ?_ _ | refine gA ?_ _ | refine gD ?_ | refine gN ?_ _))⟩
    obtain ⟨m, rfl⟩ := Int.eq_ofNat_of_zero_le (by omega : 0 ≤ d)
    clear h1
    by_cases h2 : 2 * E.length ≤ m
    · have Hf : Hid (nextF N E A m = -1) := Lib.hid (by unfold nextF; rw [if_neg (by omega)])
      clear hv hR
      go_enter Tryd.func51, Tryd.ntmps51
      go_wp2_with (go_at_call 26; apply Calls.mono; (with_reducible exact valid_re Hv.out (HR.out.grew (by (repeat (first | exact gR _ | refine gO ?_ _ | refine gA ?_ _ | refine gD ?_ | refine gN ?_ _)))) rfl rfl); rintro e w' ⟨rfl, x, rfl⟩)
      go_ret
      exact ⟨by rw [Hf.out]; rfl, by (repeat (first | exact gR _ | refine gO ?_ _ | refine gA ?_ _ | refine gD ?_ | refine gN ?_ _))⟩
    have hm : m < 2 * E.length := by omega
    have Hf : Hid (nextF N E A m = sucF A (oth m)) := Lib.hid (by unfold nextF; rw [if_pos ⟨hv, by omega, by omega⟩])
    have hV := vRotB_iff.1 hv
    have HFl := Lib.hid (fun W1 (hg1 : Grew w W1) => follow_r N pE pA E.length A.length cE cA E A W1 (hR.grew hg1) hV rfl rfl)
    obtain ⟨ho1, ho2⟩ := oth_in (d := (m : Int)) (M := E.length) (by omega) (by omega)
    obtain ⟨o, hoe⟩ : ∃ o : Nat, oth m = (o : Int) := ⟨(oth m).toNat, by omega⟩
    have hol : o < 2 * E.length := by omega
    have Ho := Lib.hid (fun W1 : World => (hoe ▸ other_r m W1 (by omega) : Calls Tryd.prog 65 #[.int .i64 m] W1 fun e w' => e = .returned (.int .i64 (o : Int)) ∧ W1 = w'))
    rw [hoe] at Hf
    clear hV hoe ho1 ho2
    clear h2 hv hR
    go_enter Tryd.func51, Tryd.ntmps51
    go_wp2_with (first
      | (go_at_call 26; apply Calls.mono; (with_reducible exact valid_re Hv.out (HR.out.grew (by (repeat (first | exact gR _ | refine gO ?_ _ | refine gA ?_ _ | refine gD ?_ | refine gN ?_ _)))) rfl rfl); rintro e w' ⟨rfl, x, rfl⟩)
      | (go_at_call 72; apply Calls.mono; (with_reducible exact HFl.out _ (by (repeat (first | exact gR _ | refine gO ?_ _ | refine gA ?_ _ | refine gD ?_ | refine gN ?_ _)))); rintro e w3 ⟨hg3, pT, cT, rfl, hT, _⟩; obtain ⟨bT, oT, rfl, lT, cT'⟩ := hT.cells (by rw [folA, tab_length]; omega); have c1 := cT' w3 (Grew.refl _) o (by rw [folA, tab_length]; exact hol); rw [folA, ge_tab _ hol] at c1; have Hg3 : Hid (Grew w w3) := Lib.hid (Grew.trans (by (repeat (first | exact gR _ | refine gO ?_ _ | refine gA ?_ _ | refine gD ?_ | refine gN ?_ _))) hg3); clear hT hg3 cT')
      | (go_at_call 65; apply Calls.mono; (with_reducible exact Ho.out _); rintro e w' ⟨rfl, rfl⟩))
    go_ret
    exact ⟨by rw [Hf.out]; rfl, Hg3.out⟩

set_option maxHeartbeats 2000000 in
theorem nextp_l (N : Int) (pE pA : Option Addr) (nE nA cE cA : Nat) (E : List (Int × Int)) (A : List (List Int)) (d : Int) (w : World) (hR : RotAt w pE pA E A) (hL : Lim w) (hnE : E.length = nE) (hnA : A.length = nA) :
    Calls Tryd.prog 55 #[.agg #[.int .i64 N, .slice pE nE cE, .slice pA nA cA], .int .i64 d] w fun e w' => e = .returned (.int .i64 (nextF N E A d)) ∧ Grew w w' := by
  subst hnE hnA
  have he1 := hR.e1
  have HR := Lib.hid hR
  have HL := Lib.hid hL
  cases hv : vRotB N E A
  case false =>
    have Hf : Hid (nextF N E A d = -1) := Lib.hid (by unfold nextF; simp [hv])
    have Hv := Lib.hid hv
    clear hv hR hL
    go_enter Tryd.func55, Tryd.ntmps55
    go_wp2_with (go_at_call 76; apply Calls.mono; (with_reducible exact valid_pe Hv.out (HR.out.grew (by (repeat (first | exact gR _ | refine gO ?_ _ | refine gA ?_ _ | refine gD ?_ | refine gN ?_ _)))) (HL.out.grew (by (repeat (first | exact gR _ | refine gO ?_ _ | refine gA ?_ _ | refine gD ?_ | refine gN ?_ _)))) rfl rfl); rintro e w' ⟨rfl, x, rfl⟩)
    go_ret
    exact ⟨by rw [Hf.out]; rfl, by (repeat (first | exact gR _ | refine gO ?_ _ | refine gA ?_ _ | refine gD ?_ | refine gN ?_ _))⟩
  case true =>
    have Hv := Lib.hid hv
    by_cases h1 : d < 0
    · have Hf : Hid (nextF N E A d = -1) := Lib.hid (by unfold nextF; rw [if_neg (by omega)])
      clear hv hR hL
      go_enter Tryd.func55, Tryd.ntmps55
      go_wp2_with (go_at_call 76; apply Calls.mono; (with_reducible exact valid_pe Hv.out (HR.out.grew (by (repeat (first | exact gR _ | refine gO ?_ _ | refine gA ?_ _ | refine gD ?_ | refine gN ?_ _)))) (HL.out.grew (by (repeat (first | exact gR _ | refine gO ?_ _ | refine gA ?_ _ | refine gD ?_ | refine gN ?_ _)))) rfl rfl); rintro e w' ⟨rfl, x, rfl⟩)
      go_ret
      exact ⟨by rw [Hf.out]; rfl, by (repeat (first | exact gR _ | refine gO ?_ _ | refine gA ?_ _ | refine gD ?_ | refine gN ?_ _))⟩
    obtain ⟨m, rfl⟩ := Int.eq_ofNat_of_zero_le (by omega : 0 ≤ d)
    clear h1
    by_cases h2 : 2 * E.length ≤ m
    · have Hf : Hid (nextF N E A m = -1) := Lib.hid (by unfold nextF; rw [if_neg (by omega)])
      clear hv hR hL
      go_enter Tryd.func55, Tryd.ntmps55
      go_wp2_with (go_at_call 76; apply Calls.mono; (with_reducible exact valid_pe Hv.out (HR.out.grew (by (repeat (first | exact gR _ | refine gO ?_ _ | refine gA ?_ _ | refine gD ?_ | refine gN ?_ _)))) (HL.out.grew (by (repeat (first | exact gR _ | refine gO ?_ _ | refine gA ?_ _ | refine gD ?_ | refine gN ?_ _)))) rfl rfl); rintro e w' ⟨rfl, x, rfl⟩)
      go_ret
      exact ⟨by rw [Hf.out]; rfl, by (repeat (first | exact gR _ | refine gO ?_ _ | refine gA ?_ _ | refine gD ?_ | refine gN ?_ _))⟩
    have hm : m < 2 * E.length := by omega
    have Hf : Hid (nextF N E A m = sucF A (oth m)) := Lib.hid (by unfold nextF; rw [if_pos ⟨hv, by omega, by omega⟩])
    have hV := vRotB_iff.1 hv
    obtain ⟨ho1, hoq⟩ := oth_in (d := (m : Int)) (M := E.length) (by omega) (by omega)
    obtain ⟨o, hoe⟩ : ∃ o : Nat, oth m = (o : Int) := ⟨(oth m).toNat, by omega⟩
    have hol : o < 2 * E.length := by omega
    clear hoq
    obtain ⟨v, k, hvl, hkl, hge, htl⟩ := dart_pos hV (e := (o : Int)) (by omega) (by omega)
    obtain ⟨j2, hj2⟩ : ∃ j2, (k + 1) % (rowOf A v).length = j2 := ⟨_, rfl⟩
    have hj2l : j2 < (rowOf A v).length := by rw [← hj2]; exact Nat.mod_lt _ (by omega)
    have hsuc := suc_of hV hvl hkl
    rw [hge, hj2] at hsuc
    rw [hoe, hsuc] at Hf
    have hidx := idx_first (v := (o : Int)) k hkl (fun i hi => by rw [← hge]; exact Ne.symm (row_inj hV hvl hi hkl)) hge.symm
    obtain ⟨bA, oA, rp, rc, rfl, lA, cA'⟩ := hR.hA.rows (by omega)
    obtain ⟨a1, a2⟩ := cA' w (Grew.refl _) v hvl
    obtain ⟨rv, hrv⟩ : ∃ rv, rp v = rv := ⟨_, rfl⟩
    rw [hrv] at a1 a2
    have hrl := hR.r1 v hvl
    have HIx := Lib.hid (fun (W1 : World) (hg : Grew w W1) => hidx ▸ index_p rv (rowOf A v).length (rc v) (rowOf A v) (o : Int) W1 (a2.grew hg) rfl)
    obtain ⟨bR, oR, rfl, lR, cR⟩ := a2.cells (by omega)
    have e2 := cR w (Grew.refl _) j2 hj2l
    obtain ⟨bE, oE, rfl, lE, cE'⟩ := hR.hE.cells (by omega)
    obtain ⟨c1, c2⟩ := cE' w (Grew.refl _) (m / 2) (by omega)
    have hm2 : m / 2 < E.length := by omega
    have hem : ((k : Int) + 1) % ((rowOf A v).length : Int) = (j2 : Int) := by rw [← hj2]; push_cast; rfl
    have het : ((k : Int) + 1).tmod ((rowOf A v).length : Int) = (j2 : Int) := by rw [Int.tmod_eq_emod_of_nonneg (by omega)]; exact hem
    have hln0 : ¬ rowOf A v = [] := fun e => by rw [e] at hkl; simp at hkl
    have hwk1 : IntKind.i64.wrap ((k : Int) + 1) = (k : Int) + 1 := IntWalk.i64_in _ ⟨by omega, by omega⟩
    have ho2 : o / 2 = m / 2 := by unfold oth at hoe; split at hoe <;> omega
    have Htx := Lib.hid (fun W1 : World => (by have h := tail_e E o W1; rw [ho2, htl] at h; exact h : Calls Tryd.prog 78 #[.agg #[.int .i64 (pr E (m / 2)).1, .int .i64 (pr E (m / 2)).2], .int .i64 ((o : Int) % 2)] W1 fun e w' => e = .returned (.int .i64 (v : Int)) ∧ Grew W1 w'))
    have hx1 : bits BinOp.xor IntKind.i64 ((m : Int) % 2) 1 = (o : Int) % 2 := by rw [← hoe]; exact xor_two m (by omega)
    have hx2 : bits BinOp.xor IntKind.i64 (m : Int) 1 = (o : Int) := by rw [← hoe]; exact xor_small m (by omega)
    clear ho2 hoe htl ho1
    clear h2 hv cE' hR hL cA' a2 hrv hsuc hidx hge hj2 cR hV
    go_enter Tryd.func55, Tryd.ntmps55
    go_upto_region 3 with (go_at_call 76; apply Calls.mono; (with_reducible exact valid_pe Hv.out (HR.out.grew (by (repeat (first | exact gR _ | refine gO ?_ _ | refine gA ?_ _ | refine gD ?_ | refine gN ?_ _)))) (HL.out.grew (by (repeat (first | exact gR _ | refine gO ?_ _ | refine gA ?_ _ | refine gD ?_ | refine gN ?_ _)))) rfl rfl); rintro e w' ⟨rfl, x, rfl⟩)
    refine wp_region_over (by kernel_rfl) (by kernel_rfl) ?_; (repeat (go_big_quiet_step ((go_at_call 78; apply over_call; with_reducible exact Htx.out _)))); refine wpQuiet_nil ?_; rintro _ ⟨x, rfl⟩
    go_wp2_with (go_at_call 62; apply Calls.mono; (with_reducible exact HIx.out _ (by (repeat (first | exact gR _ | refine gO ?_ _ | refine gA ?_ _ | refine gD ?_ | refine gN ?_ _)))); rintro e w' ⟨rfl, rfl⟩)
    go_ret
    exact ⟨by rw [Hf.out]; rfl, by (repeat (first | exact gR _ | refine gO ?_ _ | refine gA ?_ _ | refine gD ?_ | refine gN ?_ _))⟩

end Go.Proofs.YtlealdicoceekaaDoor

/- follow of the program. -/
namespace Go.Proofs.YtlealdicoceekaaDoor
open Go.RowKit
attribute [local go_sem ↓] Go.wp_at_zero Go.wp_at_succ

/-- The dart that comes next on the face. -/
def nxF (A : List (List Int)) (x : Int) : Int := sucF A (oth x)
def fopL (A : List (List Int)) (M : Nat) (S : List Int) : List Int := tab M fun e : Nat => if oth e ∈ S then nxF A e else 0
theorem fopL_length (A : List (List Int)) (M : Nat) (S : List Int) : (fopL A M S).length = M := tab_length _ _
theorem fopL_set {A : List (List Int)} {M o : Nat} {d : Int} {S : List Int} (ho : o < M) (hd : oth d = (o : Int)) : (fopL A M S).set o (sucF A d) = fopL A M (S ++ [d]) := by
  have hd2 : oth (o : Int) = d := by rw [← hd, oth_oth]
  unfold fopL
  rw [tab_set M _ ho]
  refine tab_congr fun u hu => ?_
  by_cases e : u = o
  · subst e
    rw [if_pos rfl, hd2, if_pos (List.mem_append_right _ (List.mem_singleton.2 rfl)), nxF, hd2]
  · rw [if_neg e]
    have : (oth (u : Int) ∈ S ++ [d]) ↔ oth (u : Int) ∈ S := by
      rw [List.mem_append, List.mem_singleton]
      refine ⟨fun h => h.resolve_right (fun h => e ?_), Or.inl⟩
      have := congrArg oth h
      rw [oth_oth, hd] at this
      omega
    simp only [this]
/-- The list of the darts that come next on the faces. -/
def nxL (A : List (List Int)) (M : Nat) : List Int := tab M fun e : Nat => nxF A e
theorem fopL_all {N : Int} {E : List (Int × Int)} {A : List (List Int)} (hV : vRot N E A) : fopL A (2 * E.length) ((pre A A.length).map (·.2)) = nxL A (2 * E.length) := by
  unfold fopL nxL
  refine tab_congr fun u hu => if_pos ?_
  obtain ⟨h0, h1⟩ := oth_in (d := (u : Int)) (M := E.length) (by omega) (by omega)
  obtain ⟨v, k, h1, h2, h3, _⟩ := dart_pos hV h0 h1
  exact List.mem_map.2 ⟨(v, oth u), mem_pre.2 ⟨k, h1, h2, h3⟩, rfl⟩
theorem nxF_in {N : Int} {E : List (Int × Int)} {A : List (List Int)} (hV : vRot N E A) {e : Int} (h0 : 0 ≤ e) (h1 : e < 2 * E.length) : 0 ≤ nxF A e ∧ nxF A e < 2 * E.length := by
  obtain ⟨h2, h3⟩ := oth_in (d := e) (M := E.length) h0 h1
  exact sucF_in hV h2 h3

set_option maxRecDepth 8000 in
set_option maxHeartbeats 8000000 in
theorem follow_p (N : Int) (pE pA : Option Addr) (nE nA cE cA : Nat) (E : List (Int × Int)) (A : List (List Int)) (w : World) (hR : RotAt w pE pA E A) (hV : vRot N E A) (hnE : E.length = nE) (hnA : A.length = nA) :
    Calls Tryd.prog 77 #[.agg #[.int .i64 N, .slice pE nE cE, .slice pA nA cA]] w fun e w' => Grew w w' ∧ ∃ q cap, e = .returned (.slice q (2 * E.length) cap) ∧ Ints w' q (nxL A (2 * E.length)) := by
  subst hnE hnA
  have he1 := hR.e1
  have ha1 := hR.a1
  have hN : N = A.length := hV.al.symm
  subst hN
  have HR := Lib.hid hR
  have HL := Lib.hid hR.r1
  have HV := Lib.hid hV
  clear hR hV
  go_enter Tryd.func77, Tryd.ntmps77
  go_wp2_with (refine wp_make_owns rfl _ _ 26 rfl 3 8 (.int .i64 0) Tryd.underlying26 Tryd.infoInt rfl .i64 .i64 _ _ (2 * E.length) rfl rfl (by push_cast; rfl) (by push_cast; rfl) (by omega) (by simp only [maxLen]; omega) (w.heap.size + 1) [] (Owns.nil _ _) (by simp) ?_; intro w4 hO hg4 hs4; have HO4 := Lib.hid hO; have Hg4 := Lib.hid hg4; have hsz4 := hg4.below.size; have b2 := hg4.cellEq (b := w.heap.size) (i := 2) (v := .slice pA A.length cA) (by first | (go_simp; done) | (simp [go_sem, ↓IntWalk.iteOmega, *]; done)); clear hO hg4)
  simp at hs4 hsz4
  have HwB : Hid (Grew w (w.alloc (.cells #[.int .i64 A.length, .slice pE E.length cE, .slice pA A.length cA] 25))) := Lib.hid ((Grew.refl w).alloc _)
  have Hc0 : Hid ((w.alloc (.cells #[.int .i64 A.length, .slice pE E.length cE, .slice pA A.length cA] 25)).cell? ⟨w.heap.size, 0, none⟩ = some (.int .i64 A.length)) := Lib.hid (by simp [go_sem])
  have Hc2 : Hid ((w.alloc (.cells #[.int .i64 A.length, .slice pE E.length cE, .slice pA A.length cA] 25)).cell? ⟨w.heap.size, 2, none⟩ = some (.slice pA A.length cA)) := Lib.hid (by simp [go_sem])
  have hsB : (w.alloc (.cells #[.int .i64 A.length, .slice pE E.length cE, .slice pA A.length cA] 25)).heap.size = w.heap.size + 1 := by simp
  obtain ⟨wB, hwB⟩ : ∃ wB, w.alloc (.cells #[.int .i64 A.length, .slice pE E.length cE, .slice pA A.length cA] 25) = wB := ⟨_, rfl⟩
  rw [hwB] at Hg4 HwB Hc0 Hc2 hsB HO4
  clear hwB
  have HO5 : Hid (Owns w4 (w.heap.size + 1) [⟨.slice (some ⟨w.heap.size + 1, 0, none⟩) (2 * E.length) (2 * E.length), 3, 1, 2 * E.length, intVs (fopL A (2 * E.length) [])⟩]) := Lib.hid (by
    have := HO4.out
    rw [hsB] at this
    have e : fopL A (2 * E.length) [] = tab (2 * E.length) (fun _ => 0) := tab_congr fun u hu => if_neg (by simp)
    rw [e, ← intVs_rep]
    exact this)
  clear HO4
  go_loopw [16] (fun i wq => ∃ v : Nat, v ≤ A.length ∧ i = .int .i64 v ∧ Grew wB wq ∧ w4.heap.size ≤ wq.heap.size ∧ Owns wq (w.heap.size + 1) [⟨.slice (some ⟨w.heap.size + 1, 0, none⟩) (2 * E.length) (2 * E.length), 3, 1, 2 * E.length, intVs (fopL A (2 * E.length) ((pre A v).map (·.2)))⟩]) (fun i _ => A.length - (intOf i).toNat)
  case atStart => exact ⟨0, Nat.zero_le _, rfl, Hg4.out, Nat.le_refl _, HO5.out⟩
  case round =>
    obtain ⟨v, hv, rfl, hgq, hsq, hOq⟩ := hrel
    have Hgq := Lib.hid hgq
    have HOq := Lib.hid hOq
    have q0 := hgq.cellEq Hc0.out
    have q2 := hgq.cellEq Hc2.out
    have Hwq : Hid (Grew w wr) := Lib.hid (HwB.out.trans hgq)
    clear hgq hOq
    by_cases hlv : v < A.length
    · obtain ⟨bA, oA, rp, rc, rfl, lA, cA'⟩ := HR.out.hA.rows (by omega)
      obtain ⟨a1, _⟩ := cA' wr Hwq.out v hlv
      obtain ⟨_, a2⟩ := cA' w (Grew.refl _) v hlv
      obtain ⟨rv, hrv⟩ : ∃ rv, rp v = rv := ⟨_, rfl⟩
      rw [hrv] at a1 a2
      have Ha2 := Lib.hid a2
      have hrl := HL.out v hlv
      clear cA' a2 hrv
      go_wp2
      clear q0 q2
      go_loopw [22] (fun i wk => ∃ k : Nat, k ≤ (rowOf A v).length ∧ i = .int .i64 k ∧ Grew wB wk ∧ wr.heap.size ≤ wk.heap.size ∧ Owns wk (w.heap.size + 1) [⟨.slice (some ⟨w.heap.size + 1, 0, none⟩) (2 * E.length) (2 * E.length), 3, 1, 2 * E.length, intVs (fopL A (2 * E.length) ((preK A v k).map (·.2)))⟩]) (fun i _ => (rowOf A v).length - (intOf i).toNat)
      case atStart => exact ⟨0, Nat.zero_le _, rfl, Hgq.out, Nat.le_refl _, by rw [preK_zero]; exact HOq.out⟩
      case round =>
        obtain ⟨k, hk, rfl, hgk, hgr, hOk⟩ := hrel
        have Hgk := Lib.hid hgk
        have HOk := Lib.hid hOk
        have Hwk : Hid (Grew w wr) := Lib.hid (HwB.out.trans hgk)
        clear hgk hOk
        by_cases hlk : k < (rowOf A v).length
        · obtain ⟨bR, oR, rfl, lR, cR⟩ := Ha2.out.cells (by omega)
          obtain ⟨j2, hj2⟩ : ∃ j2, (k + 1) % (rowOf A v).length = j2 := ⟨_, rfl⟩
          have hj2l : j2 < (rowOf A v).length := by rw [← hj2]; exact Nat.mod_lt _ (by omega)
          have e1 := cR wr Hwk.out k hlk
          have e2 := cR wr Hwk.out j2 hj2l
          have hem : ((k : Int) + 1) % ((rowOf A v).length : Int) = (j2 : Int) := by rw [← hj2]; push_cast; rfl
          have het : ((k : Int) + 1).tmod ((rowOf A v).length : Int) = (j2 : Int) := by rw [Int.tmod_eq_emod_of_nonneg (by omega)]; exact hem
          have hln0 : ¬ rowOf A v = [] := fun e => by rw [e] at hlk; simp at hlk
          have hwk1 : IntKind.i64.wrap ((k : Int) + 1) = (k : Int) + 1 := IntWalk.i64_in _ ⟨by omega, by omega⟩
          have hok := HV.out.dr (v, ge (rowOf A v) k) (mem_pre.2 ⟨k, hlv, hlk, rfl⟩)
          obtain ⟨m, hm0⟩ : ∃ m : Nat, ge (rowOf A v) k = (m : Int) := ⟨(ge (rowOf A v) k).toNat, by have := hok.1; dsimp only at this; omega⟩
          have hm : m < 2 * E.length := by have := hok.2.1; dsimp only at this; omega
          have hmi : (m : Int) < 2 * (E.length : Int) := by omega
          have hsuc := suc_of HV.out hlv hlk
          rw [hm0, hj2] at hsuc
          rw [hm0] at e1
          rw [← hsuc] at e2
          obtain ⟨gM, cM, eM, _, kM, _, _, nM, mM⟩ := HOk.out.some (k := 0) rfl (by omega)
          cases eM
          obtain ⟨ho1, ho2⟩ := oth_in (d := (m : Int)) (M := E.length) (by omega) (by omega)
          obtain ⟨o, hoe⟩ : ∃ o : Nat, oth m = (o : Int) := ⟨(oth m).toNat, by omega⟩
          have hol : o < 2 * E.length := by omega
          have hoi : (o : Int) < 2 * (E.length : Int) := by omega
          have hx2 : bits BinOp.xor IntKind.i64 (m : Int) 1 = (o : Int) := by rw [← hoe]; exact xor_small m (by omega)
          have x1 := mM o _ (intVs_get _ (by rw [fopL_length]; exact hol))
          have x2 := nM o
          have Hoe := Lib.hid hoe
          clear ho1 ho2 hoe
          have Hn := Lib.hid (preK_succ A v hlk)
          have Hm0 := Lib.hid hm0
          clear cR hok hm0 hsuc nM mM hj2
          go_wp2
          go_roundw
          case rel =>
            have hmap : (preK A v (k + 1)).map (·.2) = (preK A v k).map (·.2) ++ [(m : Int)] := by rw [Hn.out, List.map_append, Hm0.out]; rfl
            have h1 := HOk.out.set (k := 0) rfl o (.int .i64 (sucF A m))
            rw [intVs_set, fopL_set hol Hoe.out] at h1
            refine ⟨k + 1, by omega, by go_num, Hgk.out.setCell (show wB.heap.size ≤ w.heap.size + 1 by omega) _, by simp; omega, ?_⟩
            rw [hmap]
            exact h1
          case measure => simp [intOf]; omega
        · have hke : k = (rowOf A v).length := by omega
          have Hp : Hid (preK A v k = pre A (v + 1)) := Lib.hid (by rw [hke, preK_all])
          go_wp2
          go_roundw
          case rel => exact ⟨v + 1, by omega, by go_num, Hgk.out, by omega, by rw [← Hp.out]; exact HOk.out⟩
          case measure => simp [intOf]; omega
    · have hve : v = A.length := by omega
      subst hve
      go_wp2
      go_ret
      have h := HOq.out
      rw [fopL_all HV.out] at h
      obtain ⟨p', cap', e, h2, _⟩ := h.ints (k := 0) rfl (tab_length _ _) (fun x hx => by
        obtain ⟨u, hu, rfl⟩ := List.mem_map.1 hx
        have := nxF_in HV.out (e := (u : Int)) (by omega) (by have := List.mem_range.1 hu; omega)
        omega)
      cases e
      exact ⟨Hwq.out, _, _, rfl, h2⟩

end Go.Proofs.YtlealdicoceekaaDoor

/- Faces of the program. -/
namespace Go.Proofs.YtlealdicoceekaaDoor
open Go.RowKit
attribute [local go_sem ↓] Go.wp_at_zero Go.wp_at_succ

/-- The face that begins at x, S having been met: at most n darts. -/
def faceN (f : Int → Int) : Nat → List Int → Int → List Int
  | 0, _, _ => []
  | n + 1, S, x => if x ∈ S then [] else x :: faceN f n (S ++ [x]) (f x)
/-- What has been met, and the faces, when the first d darts have been asked. -/
def facesN (f : Int → Int) (M : Nat) : Nat → List Int × List (List Int)
  | 0 => ([], [])
  | d + 1 => ((facesN f M d).1 ++ faceN f M (facesN f M d).1 d, if faceN f M (facesN f M d).1 d = [] then (facesN f M d).2 else (facesN f M d).2 ++ [faceN f M (facesN f M d).1 d])
def facesF (A : List (List Int)) (M : Nat) : List (List Int) := (facesN (nxF A) M M).2

/-- The darts met are darts, none twice. -/
def Met (M : Nat) (S : List Int) : Prop := S.Nodup ∧ ∀ x ∈ S, 0 ≤ x ∧ x < M
theorem Met.snoc {M : Nat} {S : List Int} {x : Int} (h : Met M S) (h0 : 0 ≤ x) (h1 : x < M) (hn : x ∉ S) : Met M (S ++ [x]) := by
  refine ⟨?_, fun y hy => ?_⟩
  · rw [List.nodup_append]
    refine ⟨h.1, by simp, fun a ha b hb => ?_⟩
    rw [List.mem_singleton.1 hb]
    exact fun e => hn (e ▸ ha)
  · rcases List.mem_append.1 hy with hy | hy
    · exact h.2 y hy
    · rw [List.mem_singleton.1 hy]; exact ⟨h0, h1⟩
theorem Met.len {M : Nat} {S : List Int} (h : Met M S) : S.length ≤ M := by
  have h2 : ∀ x ∈ S, x ∈ (List.range M).map Int.ofNat := fun x hx => by
    have := h.2 x hx
    exact List.mem_map.2 ⟨x.toNat, List.mem_range.2 (by omega), by simp; omega⟩
  have := List.Nodup.length_le_of_subset h.1 h2
  simpa using this
/-- The darts of a face are darts, and none of them has been met before. -/
theorem faceN_met {M : Nat} {f : Int → Int} (hf : ∀ x : Int, 0 ≤ x → x < M → 0 ≤ f x ∧ f x < M) : ∀ (n : Nat) (S : List Int) (x : Int), Met M S → 0 ≤ x → x < M → Met M (S ++ faceN f n S x)
  | 0, S, x, h, _, _ => by simpa [faceN] using h
  | n + 1, S, x, h, h0, h1 => by
    rw [faceN]
    by_cases hx : x ∈ S
    · rw [if_pos hx]; simpa using h
    · rw [if_neg hx]
      have := faceN_met hf n (S ++ [x]) (f x) (h.snoc h0 h1 hx) (hf x h0 h1).1 (hf x h0 h1).2
      rw [List.append_assoc] at this
      exact this
theorem facesN_met {M : Nat} {f : Int → Int} (hf : ∀ x : Int, 0 ≤ x → x < M → 0 ≤ f x ∧ f x < M) : ∀ d, d ≤ M → Met M (facesN f M d).1
  | 0, _ => ⟨List.nodup_nil, fun _ h => by cases h⟩
  | d + 1, h => faceN_met hf M _ _ (facesN_met hf d (by omega)) (by omega) (by omega)
theorem facesN_in {M : Nat} {f : Int → Int} : ∀ d, ∀ l ∈ (facesN f M d).2, ∀ x ∈ l, x ∈ (facesN f M d).1
  | 0, l, h => by cases h
  | d + 1, l, h => fun x hx => by
    have ih := facesN_in (M := M) (f := f) d
    simp only [facesN] at h ⊢
    split at h
    · exact List.mem_append_left _ (ih l h x hx)
    · rcases List.mem_append.1 h with h | h
      · exact List.mem_append_left _ (ih l h x hx)
      · rw [List.mem_singleton.1 h] at hx
        exact List.mem_append_right _ hx
theorem facesN_len {M : Nat} {f : Int → Int} : ∀ d, (facesN f M d).2.length ≤ d
  | 0 => Nat.le_refl _
  | d + 1 => by
    have := facesN_len (M := M) (f := f) d
    simp only [facesN]
    split
    · omega
    · rw [List.length_append]; simp; omega

def matRow (v : Value) (xs : List Int) : Row := ⟨v, 3, 1, xs.length, intVs xs⟩
def matRows (vals : List Value) (m : List (List Int)) : List Row := List.zipWith matRow vals m
theorem matRows_snoc {vals : List Value} {m : List (List Int)} (hl : vals.length = m.length) (v : Value) (xs : List Int) : matRows (vals ++ [v]) (m ++ [xs]) = matRows vals m ++ [matRow v xs] := by
  unfold matRows
  rw [List.zipWith_append hl]
  rfl
theorem matRows_get {vals : List Value} {m : List (List Int)} (hl : vals.length = m.length) {u : Nat} (hu : u < m.length) : (matRows vals m)[u]? = some (matRow (vals[u]'(by omega)) (rowOf m u)) := by
  unfold matRows
  rw [List.getElem?_zipWith, List.getElem?_eq_getElem (by omega), List.getElem?_eq_getElem hu, rowOf_eq m hu]
/-- A matrix of the call's own, read. -/
theorem mat_of_owns {w : World} {B : Nat} {v : Value} {vals : List Value} {m : List (List Int)} {rs : List Row} (hl : vals.length = m.length) (hb : ∀ l ∈ m, ∀ x ∈ l, -9223372036854775808 ≤ x ∧ x ≤ 9223372036854775807)
    (hO : Owns w B (⟨v, 26, 1, m.length, vals⟩ :: (matRows vals m ++ rs))) : ∃ q cap, v = .slice q m.length cap ∧ Mat w q m := by
  have hm : m.length ≤ 9223372036854775807 := by
    obtain ⟨_, _, _, _, h1, h2, _⟩ := hO.form (k := 0) rfl
    simp only [maxLen] at h2
    omega
  rcases (hO.get (k := 0) rfl).2 with ⟨rfl, h0⟩ | ⟨g, cap, rfl, hB, hg, hle, hmx, _, hc⟩
  · have : m = [] := List.length_eq_zero_iff.1 h0
    subst this
    exact ⟨none, 0, rfl, by simp, 0, 0, fun _ => none, fun _ => 0, fun h => by simp at h, fun u hu => by simp at hu⟩
  · refine ⟨some ⟨g, 0, none⟩, cap, rfl, hm, ?_⟩
    have key : ∀ u, ∃ pc : Option Addr × Nat, u < m.length → w.cell? ⟨g, 0 + u, none⟩ = some (.slice pc.1 (rowOf m u).length pc.2) ∧ Ints w pc.1 (rowOf m u) := by
      intro u
      by_cases hu : u < m.length
      · have hr : (⟨.slice (some ⟨g, 0, none⟩) m.length cap, 26, 1, m.length, vals⟩ :: (matRows vals m ++ rs) : List Row)[u + 1]? = some ⟨vals[u]'(by omega), 3, 1, (rowOf m u).length, intVs (rowOf m u)⟩ := by
          rw [List.getElem?_cons_succ, List.getElem?_append_left (by unfold matRows; rw [List.length_zipWith]; omega), matRows_get hl hu]
          rfl
        obtain ⟨p', c', e, h2, _⟩ := hO.ints hr rfl (fun x hx => hb (rowOf m u) (by rw [rowOf_eq m hu]; exact List.getElem_mem hu) x hx)
        refine ⟨(p', c'), fun _ => ⟨?_, h2⟩⟩
        have := hc u (vals[u]'(by omega)) (List.getElem?_eq_getElem (by omega))
        rw [Nat.zero_add, this, e]
      · exact ⟨(none, 0), fun h => absurd h hu⟩
    exact ⟨g, 0, fun u => (Classical.choose (key u)).1, fun u => (Classical.choose (key u)).2, fun _ => ⟨rfl, hg⟩, fun u hu => Classical.choose_spec (key u) hu⟩

theorem Tryd.infoInts : (Tryd.prog.info? 26).map (fun i => (i.zero, i.size, i.bytes)) = some (some (.slice none 0 0), 1, 24) := by kernel_rfl
def lenOf : Value → Nat
  | .slice _ n _ => n
  | _ => 0

end Go.Proofs.YtlealdicoceekaaDoor

/- Faces of the program: the walk. -/
namespace Go.Proofs.YtlealdicoceekaaDoor
open Go.RowKit
attribute [local go_sem ↓] Go.wp_at_zero Go.wp_at_succ

/-- What Faces returns. -/
noncomputable def facesO (N : Int) (E : List (Int × Int)) (A : List (List Int)) : List (List Int) := if vRotB N E A = true then facesF A (2 * E.length) else []
def FacesPost (fs : List (List Int)) (w : World) (e : Ending) (w' : World) : Prop := Grew w w' ∧ ∃ q cap, e = .returned (.slice q fs.length cap) ∧ Mat w' q fs
theorem Mat.nil (w : World) (p : Option Addr) : Mat w p [] := ⟨by simp, 0, 0, fun _ => none, fun _ => 0, fun h => by simp at h, fun u hu => by simp at hu⟩
def faRows (B M : Nat) (S : List Int) (vO : Value) (vals : List Value) (fs : List (List Int)) (rs : List Row) : List Row :=
  ⟨.slice (some ⟨B, 0, none⟩) M M, 4, 1, M, bls M S⟩ :: ⟨vO, 26, 1, fs.length, vals⟩ :: rs

set_option maxRecDepth 8000 in
set_option maxHeartbeats 16000000 in
theorem faces_p (N : Int) (pE pA : Option Addr) (nE nA cE cA : Nat) (E : List (Int × Int)) (A : List (List Int)) (w : World) (hR : RotAt w pE pA E A) (hL : Lim w) (hnE : E.length = nE) (hnA : A.length = nA) :
    Calls Tryd.prog 54 #[.agg #[.int .i64 N, .slice pE nE cE, .slice pA nA cA]] w (FacesPost (facesO N E A) w) := by
  subst hnE hnA
  have he1 := hR.e1
  have HR := Lib.hid hR
  have HL := Lib.hid hL
  cases hv : vRotB N E A
  case false =>
    have Hf : Hid (facesO N E A = []) := Lib.hid (by unfold facesO; simp [hv])
    have Hv := Lib.hid hv
    clear hv hR hL
    go_enter Tryd.func54, Tryd.ntmps54
    go_wp2_with (go_at_call 76; apply Calls.mono; (with_reducible exact valid_pe Hv.out (HR.out.grew (by (repeat (first | exact gR _ | refine gO ?_ _ | refine gA ?_ _ | refine gD ?_ | refine gN ?_ _)))) (HL.out.grew (by (repeat (first | exact gR _ | refine gO ?_ _ | refine gA ?_ _ | refine gD ?_ | refine gN ?_ _)))) rfl rfl); rintro e w' ⟨rfl, x, rfl⟩)
    go_ret
    rw [Hf.out]
    exact ⟨by (repeat (first | exact gR _ | refine gO ?_ _ | refine gA ?_ _ | refine gD ?_ | refine gN ?_ _)), none, 0, rfl, Mat.nil _ _⟩
  case true =>
  have Hv := Lib.hid hv
  have hV := vRotB_iff.1 hv
  have HV := Lib.hid hV
  have Hf : Hid (facesO N E A = facesF A (2 * E.length)) := Lib.hid (by unfold facesO; rw [if_pos hv])
  have HFl := Lib.hid (fun W1 (hg1 : Grew w W1) => follow_p N pE pA E.length A.length cE cA E A W1 (hR.grew hg1) hV rfl rfl)
  obtain ⟨M, hM⟩ : ∃ M, 2 * E.length = M := ⟨_, rfl⟩
  have hM2 : M ≤ 200 := by omega
  have Hnx := Lib.hid (fun x (h0 : 0 ≤ x) (h1 : x < (M : Int)) => nxF_in hV (e := x) h0 (by omega))
  rw [hM] at HFl Hf
  have Hnx2 : Hid (∀ x : Int, 0 ≤ x → x < M → 0 ≤ nxF A x ∧ nxF A x < M) := Lib.hid (fun x h0 h1 => by have := Hnx.out x h0 h1; omega)
  clear hv hV hR hL hM Hnx
  go_enter Tryd.func54, Tryd.ntmps54
  go_wp2_with (first
    | (go_at_call 76; apply Calls.mono; (with_reducible exact valid_pe Hv.out (HR.out.grew (by (repeat (first | exact gR _ | refine gO ?_ _ | refine gA ?_ _ | refine gD ?_ | refine gN ?_ _)))) (HL.out.grew (by (repeat (first | exact gR _ | refine gO ?_ _ | refine gA ?_ _ | refine gD ?_ | refine gN ?_ _)))) rfl rfl); rintro e w' ⟨rfl, x, rfl⟩)
    | (go_at_call 77; apply Calls.mono; (with_reducible exact HFl.out _ (by (repeat (first | exact gR _ | refine gO ?_ _ | refine gA ?_ _ | refine gD ?_ | refine gN ?_ _)))); rintro e w3 ⟨hg3, pT, cT, rfl, hT⟩; have HT := Lib.hid hT; have Hg3 : Hid (Grew w w3) := Lib.hid (Grew.trans (by (repeat (first | exact gR _ | refine gO ?_ _ | refine gA ?_ _ | refine gD ?_ | refine gN ?_ _))) hg3); clear hT hg3)
    | (refine wp_make_owns rfl _ _ 75 rfl 4 1 (.bool false) Tryd.underlying75 Tryd.infoBool rfl .i64 .i64 _ _ M rfl rfl rfl rfl (by omega) (by simp only [maxLen]; omega) w3.heap.size [] (Owns.nil _ _) (Nat.le_refl _) ?_; intro w4 hO hg4 hs4; have HO4 := Lib.hid hO; have Hg4 := Lib.hid hg4; clear hO hg4))
  obtain ⟨B, hB⟩ : ∃ B, w3.heap.size = B := ⟨_, rfl⟩
  have HB := Lib.hid hB
  rw [hB] at HO4 hs4 ⊢
  clear hB
  go_loopw [5, 19] (fun vO i wq => ∃ d : Nat, d ≤ M ∧ i = .int .i64 d ∧ Grew w3 wq ∧ B < wq.heap.size ∧ ∃ vals : List Value, vals.length = (facesN (nxF A) M d).2.length ∧
    Owns wq B (faRows B M (facesN (nxF A) M d).1 vO vals (facesN (nxF A) M d).2 (matRows vals (facesN (nxF A) M d).2))) (fun _ i _ => M - (intOf i).toNat)
  case atStart =>
    refine ⟨0, Nat.zero_le _, rfl, Hg4.out, hs4, [], rfl, ?_⟩
    have h := HO4.out
    rw [← bls_nil] at h
    exact (h.none 26 1).perm (List.Perm.swap _ _ _)
  case round =>
    obtain ⟨d, hd, rfl, hgq, hsq, vals, hvl, hOq⟩ := hrel
    have hfl := facesN_len (M := M) (f := nxF A) d
    have hmet := facesN_met Hnx2.out d hd
    obtain ⟨pO, cO, rfl, _, _, _, _, _⟩ := hOq.form (k := 1) rfl
    by_cases hld : d < M
    · obtain ⟨S, hS⟩ : ∃ S, (facesN (nxF A) M d).1 = S := ⟨_, rfl⟩
      obtain ⟨fs, hfs⟩ : ∃ fs, (facesN (nxF A) M d).2 = fs := ⟨_, rfl⟩
      rw [hS, hfs] at hOq
      rw [hfs] at hvl hfl
      rw [hS] at hmet
      have Hgq := Lib.hid hgq
      have HOq := Lib.hid hOq
      have Hvl := Lib.hid hvl
      have Hmet := Lib.hid hmet
      have HS := Lib.hid hS
      have Hfs := Lib.hid hfs
      clear hgq hOq hvl hmet hS hfs
      rw [Hfs.out]
      go_wp2
      go_loopw [7, 8] (fun v7 v8 wk => ∃ (n : Nat) (x : Int) (fc : List Int), v8 = .int .i64 x ∧ (0 ≤ x ∧ x < M) ∧ n + fc.length = M ∧ faceN (nxF A) M S d = fc ++ faceN (nxF A) n (S ++ fc) x ∧ Met M (S ++ fc) ∧ Grew w3 wk ∧ wr.heap.size ≤ wk.heap.size ∧ lenOf v7 = fc.length ∧
        Owns wk B (faRows B M (S ++ fc) (.slice pO fs.length cO) vals fs (⟨v7, 3, 1, fc.length, intVs fc⟩ :: matRows vals fs))) (fun v7 _ _ => M - lenOf v7)
      case atStart =>
        refine ⟨M, d, [], rfl, ⟨by omega, by omega⟩, by simp, by simp, by rw [List.append_nil]; exact Hmet.out, Hgq.out, Nat.le_refl _, rfl, ?_⟩
        rw [List.append_nil]
        exact (HOq.out.none 3 1).perm ((List.Perm.swap _ _ _).trans (List.Perm.cons _ (List.Perm.swap _ _ _)))
      case round =>
        obtain ⟨n, x, fc, rfl, ⟨hx0, hx1⟩, hn, hface, hmt, hgk, hsk, hlen, hOk⟩ := hrel
        obtain ⟨p7, c7, rfl, _, _, _, _, _⟩ := hOk.form (k := 2) rfl
        obtain ⟨m, rfl⟩ := Int.eq_ofNat_of_zero_le hx0
        have hm : m < M := by omega
        obtain ⟨gM, cM, eM, _, kM, _, _, nM, mM⟩ := hOk.some (k := 0) rfl (by omega)
        cases eM
        have x1 := mM m _ (bls_get _ hm)
        have x2 := nM m
        have Hface := Lib.hid hface
        have Hmt := Lib.hid hmt
        have Hgk := Lib.hid hgk
        have HOk := Lib.hid hOk
        have hfcl : fc.length ≤ 200 := by omega
        clear hface hmt hgk hOk nM mM hlen
        by_cases hin : (m : Int) ∈ S ++ fc
        · rw [decide_eq_true hin] at x1
          have Hfc : Hid (faceN (nxF A) M S d = fc) := Lib.hid (by
            rw [Hface.out]
            cases n with
            | zero => simp [faceN]
            | succ n => rw [faceN, if_pos hin, List.append_nil])
          clear hin
          by_cases h0 : fc = []
          · subst h0
            have Hst : Hid (facesN (nxF A) M (d + 1) = (S, fs)) := Lib.hid (by simp only [facesN]; rw [HS.out, Hfs.out, Hfc.out, if_pos rfl, List.append_nil])
            go_wp2
            go_roundw
            case rel =>
              refine ⟨d + 1, by omega, by go_num, Hgk.out, by omega, vals, by rw [Hst.out]; exact Hvl.out, ?_⟩
              rw [Hst.out]
              have h := HOk.out
              rw [List.append_nil] at h
              have h2 := h.perm ((List.Perm.cons _ (List.Perm.swap _ _ _)).trans (List.Perm.swap _ _ _))
              exact h2.tail
            case measure => simp [intOf]; omega
          · have h1 : 0 < fc.length := List.length_pos_iff.2 h0
            have Hst : Hid (facesN (nxF A) M (d + 1) = (S ++ fc, fs ++ [fc])) := Lib.hid (by simp only [facesN]; rw [HS.out, Hfs.out, Hfc.out, if_neg h0])
            clear h0
            go_wp2_with (at_builtin; refine wp_append_owns rfl _ _ 23 rfl 26 1 24 (.slice none 0 0) Tryd.underlying23 Tryd.infoInts rfl (by decide) B _ 1 _ _ _ (HOk.out.grew (by (repeat (first | exact gR _ | refine gO ?_ _ | refine gA ?_ _ | refine gD ?_ | refine gN ?_ _)))) rfl rfl _ 1 1 rfl [.slice p7 fc.length c7] rfl (fun h => by cases h) (one_news _ (by (simp [go_sem, ↓IntWalk.iteOmega]))) (by simp [Value.oneCell']) (by simp only [maxLen]; omega) (by omega) (by first | rfl | omega | (simp <;> omega)) ?_; intro v1 w1 hO1 hg1 hb1 _; have Hg1 := Lib.hid (Grew.grownBy (w0 := w3) (Hgk.out.trans (by (repeat (first | exact gR _ | refine gO ?_ _ | refine gA ?_ _ | refine gD ?_ | refine gN ?_ _)))) hg1 (fun g h => by have := hb1 g h; have := HB.out; omega)); have HO1 := Lib.hid hO1; have hs1 := hg1.size; simp at hs1; clear hO1 hg1 hb1)
            go_roundw
            case rel =>
              refine ⟨d + 1, by omega, by go_num, Hg1.out, by omega, vals ++ [.slice p7 fc.length c7], by rw [Hst.out, List.length_append, List.length_append, Hvl.out]; rfl, ?_⟩
              rw [Hst.out]
              have h := HO1.out
              simp only [faRows, List.set_cons_succ, List.set_cons_zero] at h
              unfold faRows
              rw [List.length_append, matRows_snoc Hvl.out]
              refine h.perm ?_
              exact List.Perm.cons _ (List.Perm.cons _ (List.perm_append_singleton _ _).symm)
            case measure => simp [intOf]; omega
        · have hmt2 := Hmt.out.snoc (x := (m : Int)) (by omega) (by omega) hin
          have hlen2 := hmt2.len
          simp only [List.length_append, List.length_cons, List.length_nil] at hlen2
          obtain ⟨n', rfl⟩ : ∃ n', n = n' + 1 := ⟨n - 1, by omega⟩
          have Hface2 : Hid (faceN (nxF A) M S d = (fc ++ [(m : Int)]) ++ faceN (nxF A) n' (S ++ (fc ++ [(m : Int)])) (nxF A m)) := Lib.hid (by
            rw [Hface.out, faceN, if_neg hin, List.append_assoc, List.append_assoc]
            rfl)
          rw [decide_eq_false hin] at x1
          have Hmt2 := Lib.hid hmt2
          have hxn := Hnx2.out m (by omega) (by omega)
          obtain ⟨bT, oT, rfl, lT, cT'⟩ := HT.out.cells (by rw [nxL, tab_length]; omega)
          have CT : Hid (∀ W1 : World, Grew w3 W1 → W1.cell? ⟨bT, oT + m, none⟩ = some (.int .i64 (nxF A m))) := Lib.hid (fun W1 hg => by
            have := cT' W1 hg m (by rw [nxL, tab_length]; exact hm)
            rw [nxL, ge_tab _ hm] at this
            exact this)
          have HOs := Lib.hid (HOk.out.set (k := 0) rfl m (.bool true))
          have Hgs := Lib.hid (Hgk.out.setCell (show w3.heap.size ≤ (⟨B, m, none⟩ : Addr).block by have := HB.out; dsimp only; omega) (.bool true))
          clear hmt2 hin cT'
          go_wp2_with (at_builtin; refine wp_append_owns rfl _ _ 26 rfl 3 1 8 (.int .i64 0) Tryd.underlying26 Tryd.infoInt rfl (by decide) B _ 2 _ _ _ (HOs.out.grew (by (repeat (first | exact gR _ | refine gO ?_ _ | refine gA ?_ _ | refine gD ?_ | refine gN ?_ _)))) rfl rfl _ 1 1 rfl [.int .i64 (m : Int)] rfl (fun h => by cases h) (one_news _ (by (simp [go_sem, ↓IntWalk.iteOmega]))) (by simp [Value.oneCell']) (by simp only [maxLen]; omega) (by omega) (by first | rfl | omega | (simp <;> omega)) ?_; intro v1 w1 hO1 hg1 hb1 _; obtain ⟨p1, c1, rfl, _, _, _, _, _⟩ := hO1.form (k := 2) rfl; have Hg1 := Lib.hid (Grew.grownBy (w0 := w3) (Hgs.out.trans (by (repeat (first | exact gR _ | refine gO ?_ _ | refine gA ?_ _ | refine gD ?_ | refine gN ?_ _)))) hg1 (fun g h => by have := hb1 g h; have := HB.out; omega)); have e1 := CT.out w1 Hg1.out; have HO1 := Lib.hid hO1; have hs1 := hg1.size; simp at hs1; clear hO1 hg1 hb1)
          go_roundw
          case rel =>
            refine ⟨n', nxF A m, fc ++ [(m : Int)], rfl, hxn, by rw [List.length_append]; simp; omega, Hface2.out, by rw [← List.append_assoc]; exact Hmt2.out, Hg1.out, by omega, by rw [List.length_append]; rfl, ?_⟩
            have h := HO1.out
            rw [bls_set _ hm, List.append_assoc] at h
            simp only [faRows, List.set_cons_succ, List.set_cons_zero] at h
            unfold faRows
            rw [List.length_append, intVs_app']
            exact h
          case measure => simp [lenOf]; omega
    · have hde : d = M := by omega
      subst hde
      have Hb : Hid (∀ l ∈ (facesN (nxF A) d d).2, ∀ x ∈ l, -9223372036854775808 ≤ x ∧ x ≤ 9223372036854775807) := Lib.hid (fun l hl x hx => by
        have := hmet.2 x (facesN_in d l hl x hx)
        omega)
      have HOq := Lib.hid hOq
      have Hvl := Lib.hid hvl
      have Hgq := Lib.hid hgq
      clear hOq hvl hmet hgq
      go_wp2
      go_ret
      rw [Hf.out]
      obtain ⟨q, cap, e, h⟩ := mat_of_owns (rs := [⟨.slice (some ⟨B, 0, none⟩) d d, 4, 1, d, bls d (facesN (nxF A) d d).1⟩]) Hvl.out Hb.out (HOq.out.perm (List.perm_append_singleton _ (_ :: _)).symm)
      cases e
      exact ⟨Hg3.out.trans Hgq.out, _, _, rfl, h⟩

end Go.Proofs.YtlealdicoceekaaDoor

/- Faces of the reference. -/
namespace Go.Proofs.YtlealdicoceekaaDoor
open Go.RowKit
attribute [local go_sem ↓] Go.wp_at_zero Go.wp_at_succ

theorem Owns.join {w w' : World} {B : Nat} {xs ys : List Row} (h : Owns w B xs) (h2 : Owns w' w.heap.size ys) (hg : Grew w w') (hB : B ≤ w.heap.size) : Owns w' B (xs ++ ys) := by
  have h' := h.grew hg
  rw [owns_iff] at h' ⊢
  have h3 := (h2.base hB)
  rw [owns_iff] at h3
  refine ⟨fun r hr => (List.mem_append.1 hr).elim (h'.1 r) (h3.1 r), List.pairwise_append.2 ⟨h'.2, h3.2, fun a ha b hb g e1 e2 => ?_⟩⟩
  obtain ⟨i, hi, rfl⟩ := List.getElem_of_mem ha
  obtain ⟨j, hj, rfl⟩ := List.getElem_of_mem hb
  have f1 := ((h.1 i _ (List.getElem?_eq_getElem hi)).lt g e1).2
  have f2 := ((h2.1 j _ (List.getElem?_eq_getElem hj)).lt g e2).1
  omega

theorem faceN_in {f : Int → Int} {n : Nat} {S : List Int} {x : Int} (h : x ∈ S) : faceN f n S x = [] := by
  cases n with
  | zero => rfl
  | succ n => rw [faceN, if_pos h]
def frRows (B M : Nat) (F : List Int) (qF : Option Addr) (cF : Nat) (S : List Int) (vO : Value) (vals : List Value) (fs : List (List Int)) (rs : List Row) : List Row :=
  ⟨.slice (some ⟨B, 0, none⟩) M M, 4, 1, M, bls M S⟩ :: ⟨vO, 26, 1, fs.length, vals⟩ :: ⟨.slice qF M cF, 3, 1, M, intVs F⟩ :: rs

set_option maxRecDepth 8000 in
set_option maxHeartbeats 16000000 in
theorem faces_r (N : Int) (pE pA : Option Addr) (nE nA cE cA : Nat) (E : List (Int × Int)) (A : List (List Int)) (w : World) (hR : RotAt w pE pA E A) (hnE : E.length = nE) (hnA : A.length = nA) :
    Calls Tryd.prog 47 #[.agg #[.int .i64 N, .slice pE nE cE, .slice pA nA cA]] w (FacesPost (facesO N E A) w) := by
  subst hnE hnA
  have he1 := hR.e1
  have HR := Lib.hid hR
  cases hv : vRotB N E A
  case false =>
    have Hf : Hid (facesO N E A = []) := Lib.hid (by unfold facesO; simp [hv])
    have Hv := Lib.hid hv
    clear hv hR
    go_enter Tryd.func47, Tryd.ntmps47
    go_wp2_with (go_at_call 26; apply Calls.mono; (with_reducible exact valid_re Hv.out (HR.out.grew (by (repeat (first | exact gR _ | refine gO ?_ _ | refine gA ?_ _ | refine gD ?_ | refine gN ?_ _)))) rfl rfl); rintro e w' ⟨rfl, x, rfl⟩)
    go_ret
    rw [Hf.out]
    exact ⟨by (repeat (first | exact gR _ | refine gO ?_ _ | refine gA ?_ _ | refine gD ?_ | refine gN ?_ _)), some ⟨w.heap.size + 1, 0, none⟩, 0, rfl, by simp, w.heap.size + 1, 0, fun _ => none, fun _ => 0, fun h => by simp at h, fun u hu => by simp at hu⟩
  case true =>
  have Hv := Lib.hid hv
  have hV := vRotB_iff.1 hv
  have HV := Lib.hid hV
  have Hf : Hid (facesO N E A = facesF A (2 * E.length)) := Lib.hid (by unfold facesO; rw [if_pos hv])
  have HFl := Lib.hid (fun W1 (hg1 : Grew w W1) => follow_r N pE pA E.length A.length cE cA E A W1 (hR.grew hg1) hV rfl rfl)
  obtain ⟨M, hM⟩ : ∃ M, 2 * E.length = M := ⟨_, rfl⟩
  have hM2 : M ≤ 200 := by omega
  have hMe : M % 2 = 0 := by omega
  have Hnx := Lib.hid (fun x (h0 : 0 ≤ x) (h1 : x < (M : Int)) => nxF_in hV (e := x) h0 (by omega))
  rw [hM] at HFl Hf
  have Hnx2 : Hid (∀ x : Int, 0 ≤ x → x < M → 0 ≤ nxF A x ∧ nxF A x < M) := Lib.hid (fun x h0 h1 => by have := Hnx.out x h0 h1; omega)
  have HME := Lib.hid hM.symm
  clear hv hV hR hM Hnx
  go_enter Tryd.func47, Tryd.ntmps47
  go_wp2_with (first
    | (go_at_call 26; apply Calls.mono; (with_reducible exact valid_re Hv.out (HR.out.grew (by (repeat (first | exact gR _ | refine gO ?_ _ | refine gA ?_ _ | refine gD ?_ | refine gN ?_ _)))) rfl rfl); rintro e w' ⟨rfl, x, rfl⟩)
    | (go_at_call 72; apply Calls.mono; (with_reducible exact HFl.out _ (by (repeat (first | exact gR _ | refine gO ?_ _ | refine gA ?_ _ | refine gD ?_ | refine gN ?_ _)))); rintro e w3 ⟨hg3, qF, cF, rfl, _, hT⟩; have hT2 := Owns.join (B := w.heap.size + 1) (((Owns.nil (w.alloc (.cells #[.int .i64 N, .slice pE E.length cE, .slice pA A.length cA] 25)) (w.heap.size + 1)).made (by simp) #[] 26 1 0 (w.heap.size + 1) rfl (by decide) (by simp)).grew (by (repeat (first | exact gR _ | refine gO ?_ _ | refine gA ?_ _ | refine gD ?_ | refine gN ?_ _)))) hT hg3 (by first | rfl | omega | (simp <;> omega)); have HT := Lib.hid hT2; have Hg3 : Hid (Grew w w3) := Lib.hid (Grew.trans (by (repeat (first | exact gR _ | refine gO ?_ _ | refine gA ?_ _ | refine gD ?_ | refine gN ?_ _))) hg3); have hs3 := hg3.below.size; simp at hs3; clear hT hT2 hg3)
    | (refine wp_make_owns rfl _ _ 75 rfl 4 1 (.bool false) Tryd.underlying75 Tryd.infoBool rfl .i64 .i64 _ _ M rfl rfl rfl rfl (by omega) (by simp only [maxLen]; omega) (w.heap.size + 1) _ HT.out (by first | rfl | omega | (simp <;> omega)) ?_; intro w4 hO hg4 hs4; have HO4 := Lib.hid hO; have Hg4 : Hid (Grew w w4) := Lib.hid (Hg3.out.trans hg4); clear hO hg4))
  obtain ⟨B, hB⟩ : ∃ B, w3.heap.size = B := ⟨_, rfl⟩
  have HB := Lib.hid hB
  rw [hB] at HO4 hs4 ⊢
  clear hB HT
  go_loopw [3, 6] (fun vO i wq => ∃ d : Nat, d ≤ M ∧ i = .int .i64 d ∧ Grew w wq ∧ B < wq.heap.size ∧ ∃ vals : List Value, vals.length = (facesN (nxF A) M d).2.length ∧
    Owns wq (w.heap.size + 1) (frRows B M (folA A M) qF cF (facesN (nxF A) M d).1 vO vals (facesN (nxF A) M d).2 (matRows vals (facesN (nxF A) M d).2))) (fun _ i _ => M - (intOf i).toNat)
  case atStart =>
    refine ⟨0, Nat.zero_le _, rfl, Hg4.out, hs4, [], rfl, ?_⟩
    have h := HO4.out
    rw [← bls_nil] at h
    exact h
  case round =>
    obtain ⟨d, hd, rfl, hgq, hsq, vals, hvl, hOq⟩ := hrel
    have hfl := facesN_len (M := M) (f := nxF A) d
    have hmet := facesN_met Hnx2.out d hd
    obtain ⟨pO, cO, rfl, _, _, _, _, _⟩ := hOq.form (k := 1) rfl
    by_cases hld : d < M
    · obtain ⟨S, hS⟩ : ∃ S, (facesN (nxF A) M d).1 = S := ⟨_, rfl⟩
      obtain ⟨fs, hfs⟩ : ∃ fs, (facesN (nxF A) M d).2 = fs := ⟨_, rfl⟩
      rw [hS, hfs] at hOq
      rw [hfs] at hvl hfl
      rw [hS] at hmet
      obtain ⟨gM, cM, eM, _, kM, _, _, nM, mM⟩ := hOq.some (k := 0) rfl (by omega)
      cases eM
      have x1 := mM d _ (bls_get _ hld)
      have Hgq := Lib.hid hgq
      have HOq := Lib.hid hOq
      have Hvl := Lib.hid hvl
      have Hmet := Lib.hid hmet
      have HS := Lib.hid hS
      have Hfs := Lib.hid hfs
      clear hgq hOq hvl hmet hS hfs nM mM
      rw [Hfs.out]
      by_cases hin : (d : Int) ∈ S
      · rw [decide_eq_true hin] at x1
        have Hst : Hid (facesN (nxF A) M (d + 1) = (S, fs)) := Lib.hid (by simp only [facesN]; rw [HS.out, Hfs.out, faceN_in hin, if_pos rfl, List.append_nil])
        clear hin
        go_wp2
        go_roundw
        case rel => exact ⟨d + 1, by omega, by go_num, Hgq.out.trans (by (repeat (first | exact gR _ | refine gO ?_ _ | refine gA ?_ _ | refine gD ?_ | refine gN ?_ _))), by omega, vals, by rw [Hst.out]; exact Hvl.out, by rw [Hst.out]; exact HOq.out.grew (by (repeat (first | exact gR _ | refine gO ?_ _ | refine gA ?_ _ | refine gD ?_ | refine gN ?_ _)))⟩
        case measure => simp [intOf]; omega
      rw [decide_eq_false hin] at x1
      have hd0 : ¬ faceN (nxF A) M S d = [] := by
        obtain ⟨M', rfl⟩ : ∃ M', M = M' + 1 := ⟨M - 1, by omega⟩
        rw [faceN, if_neg hin]
        simp
      have Hd0 := Lib.hid hd0
      clear hin hd0
      obtain ⟨gF, cF', eF, _, kF, _, _, nF, mF⟩ := HOq.out.some (k := 2) rfl (by omega)
      cases eF
      clear nF mF
      go_wp2
      go_loopw [7, 8] (fun v7 v8 wk => ∃ (n : Nat) (x : Int) (fc : List Int), v8 = .int .i64 x ∧ (0 ≤ x ∧ x < M) ∧ n + fc.length = M ∧ faceN (nxF A) M S d = fc ++ faceN (nxF A) n (S ++ fc) x ∧ Met M (S ++ fc) ∧ Grew w wk ∧ wr.heap.size ≤ wk.heap.size ∧ lenOf v7 = fc.length ∧
        Owns wk (w.heap.size + 1) (frRows B M (folA A M) (some ⟨gF, 0, none⟩) cF (S ++ fc) (.slice pO fs.length cO) vals fs (⟨v7, 3, 1, fc.length, intVs fc⟩ :: matRows vals fs))) (fun v7 _ _ => M - lenOf v7)
      case atStart =>
        refine ⟨M, d, [], rfl, ⟨by omega, by omega⟩, by simp, by simp, by rw [List.append_nil]; exact Hmet.out, Hgq.out.trans (by (repeat (first | exact gR _ | refine gO ?_ _ | refine gA ?_ _ | refine gD ?_ | refine gN ?_ _))), (by first | rfl | omega | (simp <;> omega)), rfl, ?_⟩
        rw [List.append_nil]
        exact (HOq.out.made (by omega) #[] 3 1 0 wr.heap.size rfl (by decide) rfl).perm (List.perm_middle (l₁ := [_, _, _])).symm
      case round =>
        obtain ⟨n, x, fc, rfl, ⟨hx0, hx1⟩, hn, hface, hmt, hgk, hsk, hlen, hOk⟩ := hrel
        obtain ⟨p7, c7, rfl, _, _, _, _, _⟩ := hOk.form (k := 3) rfl
        obtain ⟨m, rfl⟩ := Int.eq_ofNat_of_zero_le hx0
        have hm : m < M := by omega
        obtain ⟨gM, cM, eM, _, kM, _, _, nM, mM⟩ := hOk.some (k := 0) rfl (by omega)
        cases eM
        have x1 := mM m _ (bls_get _ hm)
        have x2 := nM m
        have Hface := Lib.hid hface
        have Hmt := Lib.hid hmt
        have Hgk := Lib.hid hgk
        have HOk := Lib.hid hOk
        have hfcl : fc.length ≤ 200 := by omega
        clear hface hmt hgk hOk nM mM hlen
        by_cases hin : (m : Int) ∈ S ++ fc
        · rw [decide_eq_true hin] at x1
          have Hfc : Hid (faceN (nxF A) M S d = fc) := Lib.hid (by rw [Hface.out, faceN_in hin, List.append_nil])
          clear hin
          have h0 : ¬ fc = [] := by rw [← Hfc.out]; exact Hd0.out
          have Hst : Hid (facesN (nxF A) M (d + 1) = (S ++ fc, fs ++ [fc])) := Lib.hid (by simp only [facesN]; rw [HS.out, Hfs.out, Hfc.out, if_neg h0])
          clear h0
          go_wp2_with (at_builtin; refine wp_append_owns rfl _ _ 23 rfl 26 1 24 (.slice none 0 0) Tryd.underlying23 Tryd.infoInts rfl (by decide) (w.heap.size + 1) _ 1 _ _ _ (HOk.out.grew (by (repeat (first | exact gR _ | refine gO ?_ _ | refine gA ?_ _ | refine gD ?_ | refine gN ?_ _)))) rfl rfl _ 1 1 rfl [.slice p7 fc.length c7] rfl (fun h => by cases h) (one_news _ (by (simp [go_sem, ↓IntWalk.iteOmega]))) (by simp [Value.oneCell']) (by simp only [maxLen]; omega) (by omega) (by first | rfl | omega | (simp <;> omega)) ?_; intro v1 w1 hO1 hg1 hb1 _; have Hg1 := Lib.hid (Grew.grownBy (w0 := w) (Hgk.out.trans (by (repeat (first | exact gR _ | refine gO ?_ _ | refine gA ?_ _ | refine gD ?_ | refine gN ?_ _)))) hg1 (fun g h => by have := hb1 g h; omega)); have HO1 := Lib.hid hO1; have hs1 := hg1.size; simp at hs1; clear hO1 hg1 hb1)
          go_roundw
          case rel =>
            refine ⟨d + 1, by omega, by go_num, Hg1.out, by omega, vals ++ [.slice p7 fc.length c7], by rw [Hst.out, List.length_append, List.length_append, Hvl.out]; rfl, ?_⟩
            rw [Hst.out]
            have h := HO1.out
            simp only [frRows, List.set_cons_succ, List.set_cons_zero] at h
            unfold frRows
            rw [List.length_append, matRows_snoc Hvl.out]
            refine h.perm ?_
            exact List.Perm.cons _ (List.Perm.cons _ (List.Perm.cons _ (List.perm_append_singleton _ _).symm))
          case measure => simp [intOf]; omega
        · have hmt2 := Hmt.out.snoc (x := (m : Int)) (by omega) (by omega) hin
          have hlen2 := hmt2.len
          simp only [List.length_append, List.length_cons, List.length_nil] at hlen2
          obtain ⟨n', rfl⟩ : ∃ n', n = n' + 1 := ⟨n - 1, by omega⟩
          have Hface2 : Hid (faceN (nxF A) M S d = (fc ++ [(m : Int)]) ++ faceN (nxF A) n' (S ++ (fc ++ [(m : Int)])) (nxF A m)) := Lib.hid (by
            rw [Hface.out, faceN, if_neg hin, List.append_assoc, List.append_assoc]
            rfl)
          rw [decide_eq_false hin] at x1
          have Hmt2 := Lib.hid hmt2
          have hxn := Hnx2.out m (by omega) (by omega)
          have hME := HME.out
          obtain ⟨ho1, ho2⟩ := oth_in (d := (m : Int)) (M := E.length) (by omega) (by omega)
          obtain ⟨o, hoe⟩ : ∃ o : Nat, oth m = (o : Int) := ⟨(oth m).toNat, by omega⟩
          have hol : o < M := by omega
          have Ho := Lib.hid (fun W1 : World => (hoe ▸ other_r m W1 (by omega) : Calls Tryd.prog 65 #[.int .i64 m] W1 fun e w' => e = .returned (.int .i64 (o : Int)) ∧ W1 = w'))
          have hnx : nxF A m = sucF A o := by unfold nxF; rw [hoe]
          rw [hnx] at hxn Hface2
          have HOs := Lib.hid (HOk.out.set (k := 0) rfl m (.bool true))
          have Hgs := Lib.hid (Hgk.out.setCell (show w.heap.size ≤ (⟨B, m, none⟩ : Addr).block by have := HB.out; dsimp only; omega) (.bool true))
          clear hmt2 hin hoe ho1 ho2 hnx hME
          go_wp2_with (first
            | (at_builtin; refine wp_append_owns rfl _ _ 26 rfl 3 1 8 (.int .i64 0) Tryd.underlying26 Tryd.infoInt rfl (by decide) (w.heap.size + 1) _ 3 _ _ _ (HOs.out.grew (by (repeat (first | exact gR _ | refine gO ?_ _ | refine gA ?_ _ | refine gD ?_ | refine gN ?_ _)))) rfl rfl _ 1 1 rfl [.int .i64 (m : Int)] rfl (fun h => by cases h) (one_news _ (by (simp [go_sem, ↓IntWalk.iteOmega]))) (by simp [Value.oneCell']) (by simp only [maxLen]; omega) (by omega) (by first | rfl | omega | (simp <;> omega)) ?_; intro v1 w1 hO1 hg1 hb1 _; obtain ⟨p1, c1, rfl, _, _, _, _, _⟩ := hO1.form (k := 3) rfl; obtain ⟨gF2, cF2, eF2, _, _, _, _, _, mF2⟩ := hO1.some (k := 2) rfl (by omega); cases eF2; have e1 := mF2 o _ (intVs_get _ (by rw [folA, tab_length]; exact hol)); rw [folA, ge_tab _ hol] at e1; have Hg1 := Lib.hid (Grew.grownBy (w0 := w) (Hgs.out.trans (by (repeat (first | exact gR _ | refine gO ?_ _ | refine gA ?_ _ | refine gD ?_ | refine gN ?_ _)))) hg1 (fun g h => by have := hb1 g h; omega)); have HO1 := Lib.hid hO1; have hs1 := hg1.size; simp at hs1; clear hO1 hg1 hb1 mF2)
            | (go_at_call 65; apply Calls.mono; (with_reducible exact Ho.out _); rintro e w' ⟨rfl, rfl⟩))
          go_roundw
          case rel =>
            refine ⟨n', sucF A o, fc ++ [(m : Int)], rfl, hxn, by rw [List.length_append]; simp; omega, Hface2.out, by rw [← List.append_assoc]; exact Hmt2.out, Hg1.out, by omega, by rw [List.length_append]; rfl, ?_⟩
            have h := HO1.out
            rw [bls_set _ hm, List.append_assoc] at h
            simp only [frRows, List.set_cons_succ, List.set_cons_zero] at h
            unfold frRows
            rw [List.length_append, intVs_app']
            exact h
          case measure => simp [lenOf]; omega
    · have hde : d = M := by omega
      subst hde
      have Hb : Hid (∀ l ∈ (facesN (nxF A) d d).2, ∀ x ∈ l, -9223372036854775808 ≤ x ∧ x ≤ 9223372036854775807) := Lib.hid (fun l hl x hx => by
        have := hmet.2 x (facesN_in d l hl x hx)
        omega)
      have HOq := Lib.hid hOq
      have Hvl := Lib.hid hvl
      have Hgq := Lib.hid hgq
      clear hOq hvl hmet hgq
      go_wp2
      go_ret
      rw [Hf.out]
      obtain ⟨q, cap, e, h⟩ := mat_of_owns (rs := [⟨.slice (some ⟨B, 0, none⟩) d d, 4, 1, d, bls d (facesN (nxF A) d d).1⟩, ⟨.slice qF d cF, 3, 1, d, intVs (folA A d)⟩]) Hvl.out Hb.out (HOq.out.perm ((List.Perm.swap _ _ _).trans (List.Perm.cons _ (List.perm_append_comm (l₁ := [_, _])))))
      cases e
      exact ⟨Hgq.out, _, _, rfl, h⟩

end Go.Proofs.YtlealdicoceekaaDoor

/- Components: plain part. -/
namespace Go.Proofs.YtlealdicoceekaaDoor
open Go.RowKit

/-- An edge among the first j has the ends u and v. -/
def nbrJ (E : List (Int × Int)) (j : Nat) (u v : Int) : Prop := ∃ i, i < j ∧ (((pr E i).1 = u ∧ (pr E i).2 = v) ∨ ((pr E i).2 = u ∧ (pr E i).1 = v))
theorem nbrJ.symm {E : List (Int × Int)} {j : Nat} {u v : Int} (h : nbrJ E j u v) : nbrJ E j v u := by
  obtain ⟨i, hi, h | h⟩ := h
  · exact ⟨i, hi, Or.inr ⟨h.2, h.1⟩⟩
  · exact ⟨i, hi, Or.inl ⟨h.2, h.1⟩⟩
inductive Cn (E : List (Int × Int)) (j : Nat) : Int → Int → Prop
  | refl (u : Int) : Cn E j u u
  | step {u v w : Int} : Cn E j u v → nbrJ E j v w → Cn E j u w
theorem Cn.trans {E : List (Int × Int)} {j : Nat} {u v w : Int} (h : Cn E j u v) (k : Cn E j v w) : Cn E j u w := by
  induction k with
  | refl => exact h
  | step _ hn ih => exact ih.step hn
theorem Cn.symm {E : List (Int × Int)} {j : Nat} {u v : Int} (h : Cn E j u v) : Cn E j v u := by
  induction h with
  | refl => exact Cn.refl _
  | step _ hn ih => exact ((Cn.refl _).step hn.symm).trans ih
theorem Cn.mono {E : List (Int × Int)} {i j : Nat} (hij : i ≤ j) {u v : Int} (h : Cn E i u v) : Cn E j u v := by
  induction h with
  | refl => exact Cn.refl _
  | step _ hn ih =>
    obtain ⟨k, hk, hn⟩ := hn
    exact ih.step ⟨k, by omega, hn⟩
theorem Cn.edge (E : List (Int × Int)) (j : Nat) : Cn E (j + 1) (pr E j).1 (pr E j).2 := (Cn.refl _).step ⟨j, by omega, Or.inl ⟨rfl, rfl⟩⟩
/-- What one edge more joins. -/
theorem Cn.split {E : List (Int × Int)} {j : Nat} {u v : Int} (h : Cn E (j + 1) u v) :
    Cn E j u v ∨ (Cn E j u (pr E j).1 ∧ Cn E j (pr E j).2 v) ∨ (Cn E j u (pr E j).2 ∧ Cn E j (pr E j).1 v) := by
  induction h with
  | refl => exact Or.inl (Cn.refl _)
  | step _ hn ih =>
    obtain ⟨i, hi, hn⟩ := hn
    by_cases e : i = j
    · subst e
      rcases hn with ⟨rfl, rfl⟩ | ⟨rfl, rfl⟩
      · rcases ih with h | ⟨h, _⟩ | ⟨h, _⟩
        · exact Or.inr (Or.inl ⟨h, Cn.refl _⟩)
        · exact Or.inr (Or.inl ⟨h, Cn.refl _⟩)
        · exact Or.inl h
      · rcases ih with h | ⟨h, _⟩ | ⟨h, _⟩
        · exact Or.inr (Or.inr ⟨h, Cn.refl _⟩)
        · exact Or.inl h
        · exact Or.inr (Or.inr ⟨h, Cn.refl _⟩)
    · have hn' : nbrJ E j _ _ := ⟨i, by omega, hn⟩
      rcases ih with h | ⟨h, h2⟩ | ⟨h, h2⟩
      · exact Or.inl (h.step hn')
      · exact Or.inr (Or.inl ⟨h, h2.step hn'⟩)
      · exact Or.inr (Or.inr ⟨h, h2.step hn'⟩)

/-- The least of its component. -/
def isL (E : List (Int × Int)) (j : Nat) (v : Int) : Prop := ∀ u, 0 ≤ u → u < v → ¬ Cn E j u v
open Classical in
noncomputable def cntP (p : Nat → Prop) : Nat → Nat
  | 0 => 0
  | n + 1 => cntP p n + if p n then 1 else 0
theorem cntP_congr {p q : Nat → Prop} : ∀ {n : Nat}, (∀ v, v < n → (p v ↔ q v)) → cntP p n = cntP q n
  | 0, _ => rfl
  | n + 1, h => by
    have h1 := cntP_congr (n := n) (fun v hv => h v (by omega))
    have h2 := h n (by omega)
    simp only [cntP, h1]
    by_cases hq : q n
    · rw [if_pos hq, if_pos (h2.2 hq)]
    · rw [if_neg hq, if_neg (fun hp => hq (h2.1 hp))]
theorem cntP_le (p : Nat → Prop) : ∀ n, cntP p n ≤ n
  | 0 => Nat.le_refl _
  | n + 1 => by have := cntP_le p n; simp only [cntP]; split <;> omega
theorem cntP_all {p : Nat → Prop} : ∀ {n : Nat}, (∀ v, v < n → p v) → cntP p n = n
  | 0, _ => rfl
  | n + 1, h => by simp only [cntP]; rw [cntP_all (fun v hv => h v (by omega)), if_pos (h n (by omega))]
/-- One less. -/
theorem cntP_drop {p q : Nat → Prop} {x : Nat} (hp : p x) (hq : ¬ q x) : ∀ {n : Nat}, x < n → (∀ v, v < n → v ≠ x → (p v ↔ q v)) → cntP p n = cntP q n + 1
  | 0, h, _ => by omega
  | n + 1, h, hv => by
    simp only [cntP]
    by_cases e : x = n
    · subst e
      rw [cntP_congr (p := p) (q := q) (n := x) (fun v hvx => hv v (by omega) (by omega)), if_pos hp, if_neg hq]
    · have := cntP_drop hp hq (n := n) (by omega) (fun v h1 h2 => hv v (by omega) h2)
      have h2 := hv n (by omega) (Ne.symm e)
      rw [this]
      by_cases hq : q n
      · rw [if_pos hq, if_pos (h2.2 hq)]
      · rw [if_neg hq, if_neg (fun hp => hq (h2.1 hp))]

/-- The number of components, of the first v vertices only those that are the least of theirs. -/
noncomputable def cntL (E : List (Int × Int)) (v : Nat) : Nat := cntP (fun v : Nat => isL E E.length v) v

/-! ### The reference's forest -/
structure UpOK (E : List (Int × Int)) (j N : Nat) (up : List Int) : Prop where
  len : up.length = N
  le : ∀ v, v < N → 0 ≤ ge up v ∧ ge up v ≤ v
  cn : ∀ v, v < N → Cn E j (ge up v) v
  ls : ∀ v : Nat, v < N → ge up v = v → isL E j v
noncomputable def cntR (up : List Int) (N : Nat) : Nat := cntP (fun v : Nat => ge up v = v) N
theorem UpOK.root_eq {E : List (Int × Int)} {j N : Nat} {up : List Int} (h : UpOK E j N up) {r s : Nat} (hr : r < N) (hs : s < N) (er : ge up r = r) (es : ge up s = s) (hc : Cn E j r s) : r = s := by
  rcases Nat.lt_trichotomy r s with hl | hl | hl
  · exact absurd hc (h.ls s hs es r (by omega) (by omega))
  · exact hl
  · exact absurd hc.symm (h.ls r hr er s (by omega) (by omega))
theorem UpOK.keep {E : List (Int × Int)} {j N : Nat} {up : List Int} (h : UpOK E j N up) {r : Nat} (hr : Cn E j r (pr E j).1) (hs : Cn E j r (pr E j).2) : UpOK E (j + 1) N up := by
  refine ⟨h.len, h.le, fun v hv => (h.cn v hv).mono (by omega), fun v hv e u hu huv hc => ?_⟩
  rcases hc.split with hc | ⟨h1, h2⟩ | ⟨h1, h2⟩
  · exact h.ls v hv e u hu huv hc
  · exact h.ls v hv e u hu huv ((h1.trans hr.symm).trans (hs.trans h2))
  · exact h.ls v hv e u hu huv ((h1.trans hs.symm).trans (hr.trans h2))
theorem ge_set_same (l : List Int) {i : Nat} (h : i < l.length) (x : Int) : ge (l.set i x) i = x := by simp [ge, h]
theorem ge_set_other (l : List Int) {i j : Nat} (h : i ≠ j) (x : Int) : ge (l.set i x) j = ge l j := by simp [ge, List.getElem?_set, h]
/-- Two trees are joined: hi's root gets the parent lo. -/
theorem UpOK.join {E : List (Int × Int)} {j N : Nat} {up : List Int} (h : UpOK E j N up) {lo hi : Nat} (hl : lo < hi) (hN : hi < N) (el : ge up lo = lo) (eh : ge up hi = hi)
    (hc : (Cn E j lo (pr E j).1 ∧ Cn E j hi (pr E j).2) ∨ (Cn E j hi (pr E j).1 ∧ Cn E j lo (pr E j).2)) : UpOK E (j + 1) N (up.set hi lo) ∧ cntR up N = cntR (up.set hi lo) N + 1 := by
  have hle := h.len
  have hj : Cn E (j + 1) lo hi := by
    rcases hc with ⟨h1, h2⟩ | ⟨h1, h2⟩
    · exact ((h1.mono (by omega)).trans (Cn.edge E j)).trans (h2.symm.mono (by omega))
    · exact ((h2.mono (by omega)).trans (Cn.edge E j).symm).trans (h1.symm.mono (by omega))
  refine ⟨⟨by simpa using h.len, fun v hv => ?_, fun v hv => ?_, fun v hv e => ?_⟩, ?_⟩
  · by_cases e : hi = v
    · subst e; rw [ge_set_same _ (by omega)]; omega
    · rw [ge_set_other _ e]; exact h.le v hv
  · by_cases e : hi = v
    · subst e; rw [ge_set_same _ (by omega)]; exact hj
    · rw [ge_set_other _ e]; exact (h.cn v hv).mono (by omega)
  · by_cases eh2 : hi = v
    · subst eh2; rw [ge_set_same _ (by omega)] at e; omega
    rw [ge_set_other _ eh2] at e
    intro u hu huv hcn
    have key : ∀ {s : Nat}, s < N → ge up s = s → s ≠ hi → (s = lo ∨ s = hi) → ∀ {u : Int}, 0 ≤ u → Cn E j u hi → ¬ u < s := by
      intro s _ _ hs hlh u hu hc hlt
      have : s = lo := hlh.resolve_right hs
      exact h.ls hi hN eh u hu (by omega) hc
    rcases hcn.split with h0 | ⟨h1, h2⟩ | ⟨h1, h2⟩
    · exact h.ls v hv e u hu huv h0
    · rcases hc with ⟨c1, c2⟩ | ⟨c1, c2⟩
      · exact eh2 (h.root_eq hN hv eh e (c2.trans h2))
      · have : lo = v := h.root_eq (by omega) hv el e (c2.trans h2)
        subst this
        exact h.ls hi hN eh u hu (by omega) (h1.trans c1.symm)
    · rcases hc with ⟨c1, c2⟩ | ⟨c1, c2⟩
      · have : lo = v := h.root_eq (by omega) hv el e (c1.trans h2)
        subst this
        exact h.ls hi hN eh u hu (by omega) (h1.trans c2.symm)
      · exact eh2 (h.root_eq hN hv eh e (c1.trans h2))
  · refine cntP_drop (x := hi) eh ?_ hN (fun v hv hne => ?_)
    · rw [ge_set_same _ (by omega)]; omega
    · rw [ge_set_other _ (Ne.symm hne)]
theorem UpOK.count {E : List (Int × Int)} {N : Nat} {up : List Int} (h : UpOK E E.length N up) : cntR up N = cntL E N := by
  refine cntP_congr fun v hv => ⟨h.ls v hv, fun hL => ?_⟩
  have := h.le v hv
  refine Classical.byContradiction fun hne => hL (ge up v) this.1 (by omega) (h.cn v hv)
def idL (N : Nat) : List Int := (List.range N).map fun v : Nat => (v : Int)
theorem idL_len (N : Nat) : (idL N).length = N := by simp [idL]
theorem ge_idL {N v : Nat} (h : v < N) : ge (idL N) v = v := by simp [ge, idL, h]
theorem Cn_zero {E : List (Int × Int)} {u v : Int} (h : Cn E 0 u v) : u = v := by
  induction h with
  | refl => rfl
  | step _ hn _ => obtain ⟨i, hi, _⟩ := hn; omega
theorem UpOK.start (E : List (Int × Int)) (N : Nat) : UpOK E 0 N (idL N) ∧ cntR (idL N) N = N := by
  refine ⟨⟨idL_len N, fun v hv => by rw [ge_idL hv]; omega, fun v hv => by rw [ge_idL hv]; exact Cn.refl _, fun v hv _ u hu huv hc => ?_⟩, cntP_all fun v hv => ge_idL hv⟩
  have := Cn_zero hc
  omega

/-! ### The program's search -/
def old (E : List (Int × Int)) (v : Nat) (x : Int) : Prop := ∃ u : Int, 0 ≤ u ∧ u < v ∧ Cn E E.length u x
structure Bfs (E : List (Int × Int)) (N v : Nat) (S q : List Int) : Prop where
  met : Met N S
  od : ∀ x, old E v x → x ∈ S
  sd : ∀ x ∈ S, old E (v + 1) x
  qs : ∀ x ∈ q, x ∈ S
  vn : (v : Int) ∈ S
  cl : ∀ x ∈ S, x ∈ q ∨ ∀ y, nbrJ E E.length x y → y ∈ S
theorem old.mono {E : List (Int × Int)} {v : Nat} {x : Int} (h : old E v x) : old E (v + 1) x := by
  obtain ⟨u, h1, h2, h3⟩ := h
  exact ⟨u, h1, by push_cast; omega, h3⟩
theorem old.step {E : List (Int × Int)} {v : Nat} {x y : Int} (h : old E v x) (hn : nbrJ E E.length x y) : old E v y := by
  obtain ⟨u, h1, h2, h3⟩ := h
  exact ⟨u, h1, h2, h3.step hn⟩
theorem Bfs.start {E : List (Int × Int)} {N v : Nat} {S : List Int} (hm : Met N S) (hS : ∀ x, x ∈ S ↔ old E v x) (hv : v < N) (hn : (v : Int) ∉ S) : Bfs E N v (S ++ [(v : Int)]) [(v : Int)] := by
  refine ⟨hm.snoc (by omega) (by omega) hn, fun x hx => List.mem_append_left _ ((hS x).2 hx), fun x hx => ?_, fun x hx => List.mem_append_right _ hx, by simp, fun x hx => ?_⟩
  · rcases List.mem_append.1 hx with hx | hx
    · exact ((hS x).1 hx).mono
    · rw [List.mem_singleton.1 hx]; exact ⟨v, by omega, by push_cast; omega, Cn.refl _⟩
  · rcases List.mem_append.1 hx with hx | hx
    · exact Or.inr fun y hy => List.mem_append_left _ ((hS y).2 (((hS x).1 hx).step hy))
    · exact Or.inl hx
theorem Bfs.add {E : List (Int × Int)} {N v : Nat} {S q : List Int} (h : Bfs E N v S q) {x y : Int} (hx : x ∈ S) (hn : nbrJ E E.length x y) (hy : y ∉ S) (h0 : 0 ≤ y) (h1 : y < N) : Bfs E N v (S ++ [y]) (q ++ [y]) := by
  refine ⟨h.met.snoc h0 h1 hy, fun z hz => List.mem_append_left _ (h.od z hz), fun z hz => ?_, fun z hz => ?_, List.mem_append_left _ h.vn, fun z hz => ?_⟩
  · rcases List.mem_append.1 hz with hz | hz
    · exact h.sd z hz
    · rw [List.mem_singleton.1 hz]; exact (h.sd x hx).step hn
  · rcases List.mem_append.1 hz with hz | hz
    · exact List.mem_append_left _ (h.qs z hz)
    · exact List.mem_append_right _ hz
  · rcases List.mem_append.1 hz with hz | hz
    · rcases h.cl z hz with h2 | h2
      · exact Or.inl (List.mem_append_left _ h2)
      · exact Or.inr fun w hw => List.mem_append_left _ (h2 w hw)
    · exact Or.inl (List.mem_append_right _ hz)
theorem Bfs.cut {E : List (Int × Int)} {N v : Nat} {S q : List Int} {x : Int} (h : Bfs E N v S (x :: q)) (hx : ∀ y, nbrJ E E.length x y → y ∈ S) : Bfs E N v S q := by
  refine ⟨h.met, h.od, h.sd, fun z hz => h.qs z (List.mem_cons_of_mem _ hz), h.vn, fun z hz => ?_⟩
  rcases h.cl z hz with h2 | h2
  · rcases List.mem_cons.1 h2 with rfl | h2
    · exact Or.inr hx
    · exact Or.inl h2
  · exact Or.inr h2
theorem Bfs.done {E : List (Int × Int)} {N v : Nat} {S : List Int} (h : Bfs E N v S []) : ∀ x, x ∈ S ↔ old E (v + 1) x := by
  have hcl : ∀ x ∈ S, ∀ y, nbrJ E E.length x y → y ∈ S := fun x hx => (h.cl x hx).resolve_left (fun h => by cases h)
  refine fun x => ⟨h.sd x, fun hx => ?_⟩
  obtain ⟨u, h1, h2, h3⟩ := hx
  by_cases e : u < v
  · exact h.od x ⟨u, h1, e, h3⟩
  · have : u = v := by push_cast at h2; omega
    subst this
    have : ∀ {a b : Int}, Cn E E.length a b → a ∈ S → b ∈ S := by
      intro a b hab ha
      induction hab with
      | refl => exact ha
      | step _ hn ih => exact hcl _ ih _ hn
    exact this h3 h.vn
theorem cntL_succ {E : List (Int × Int)} {N v : Nat} {S : List Int} (hS : ∀ x, x ∈ S ↔ old E v x) : cntL E (v + 1) = cntL E v + if (v : Int) ∈ S then 0 else 1 := by
  unfold cntL
  simp only [cntP]
  congr 1
  by_cases h : (v : Int) ∈ S
  · rw [if_pos h, if_neg]
    intro hL
    obtain ⟨u, h1, h2, h3⟩ := (hS v).1 h
    exact hL u h1 h2 h3
  · rw [if_neg h, if_pos]
    intro u h1 h2 h3
    exact h ((hS v).2 ⟨u, h1, h2, h3⟩)

/-- Darts and edges. -/
theorem nbr_dart {E : List (Int × Int)} {d : Int} (h0 : 0 ≤ d) (h1 : d < 2 * E.length) : nbrJ E E.length (tailE E d) (tailE E (oth d)) := by
  refine ⟨(d / 2).toNat, by omega, ?_⟩
  by_cases e : d % 2 = 0
  · have e1 : oth d = d + 1 := by unfold oth; rw [if_pos e]
    have e2 : (d + 1) % 2 ≠ 0 := by omega
    have e3 : (d + 1) / 2 = d / 2 := by omega
    left
    unfold tailE
    rw [e1, if_pos e, if_neg e2, e3]
    exact ⟨rfl, rfl⟩
  · have e1 : oth d = d - 1 := by unfold oth; rw [if_neg e]
    have e2 : (d - 1) % 2 = 0 := by omega
    have e3 : (d - 1) / 2 = d / 2 := by omega
    right
    unfold tailE
    rw [e1, if_neg e, if_pos e2, e3]
    exact ⟨rfl, rfl⟩
theorem dart_nbr {E : List (Int × Int)} {u v : Int} (h : nbrJ E E.length u v) : ∃ d : Int, 0 ≤ d ∧ d < 2 * E.length ∧ tailE E d = u ∧ tailE E (oth d) = v := by
  obtain ⟨i, hi, h | h⟩ := h
  · refine ⟨2 * i, by omega, by omega, ?_, ?_⟩
    · unfold tailE; rw [if_pos (by omega), show (2 * (i : Int) / 2).toNat = i by omega]; exact h.1
    · unfold oth tailE; rw [if_pos (by omega : (2 * (i : Int)) % 2 = 0), if_neg (by omega), show ((2 * (i : Int) + 1) / 2).toNat = i by omega]; exact h.2
  · refine ⟨2 * i + 1, by omega, by omega, ?_, ?_⟩
    · unfold tailE; rw [if_neg (by omega), show ((2 * (i : Int) + 1) / 2).toNat = i by omega]; exact h.1
    · unfold oth tailE; rw [if_neg (by omega : ¬ (2 * (i : Int) + 1) % 2 = 0), if_pos (by omega), show ((2 * (i : Int) + 1 - 1) / 2).toNat = i by omega]; exact h.2
theorem tail_in {N : Int} {E : List (Int × Int)} {A : List (List Int)} (hV : vRot N E A) {d : Int} (h0 : 0 ≤ d) (h1 : d < 2 * E.length) : 0 ≤ tailE E d ∧ tailE E d < N := by
  have := hV.ed (d / 2).toNat (by omega)
  unfold okEdge at this
  unfold tailE
  split <;> omega
/-- When all darts around x have been met, so have all its neighbours. -/
theorem nbr_all {N : Int} {E : List (Int × Int)} {A : List (List Int)} (hV : vRot N E A) {x : Nat} {S : List Int} (h : ∀ k, k < (rowOf A x).length → tailE E (oth (ge (rowOf A x) k)) ∈ S) : ∀ y, nbrJ E E.length x y → y ∈ S := by
  intro y hy
  obtain ⟨d, h0, h1, h2, h3⟩ := dart_nbr hy
  obtain ⟨v, k, hv, hk, he, ht⟩ := dart_pos hV h0 h1
  have : v = x := by omega
  subst this
  have := h k hk
  rw [he, h3] at this
  exact this
theorem dart_of {N : Int} {E : List (Int × Int)} {A : List (List Int)} (hV : vRot N E A) {x k : Nat} (hx : x < A.length) (hk : k < (rowOf A x).length) : 0 ≤ ge (rowOf A x) k ∧ ge (rowOf A x) k < 2 * E.length ∧ tailE E (ge (rowOf A x) k) = x :=
  hV.dr (x, ge (rowOf A x) k) (mem_pre.2 ⟨k, hx, hk, rfl⟩)

end Go.Proofs.YtlealdicoceekaaDoor

/- A queue: a slice of the call's own whose beginning has been cut off; what is appended to it. -/
namespace Go.Proofs.YtlealdicoceekaaDoor
open Go.RowKit

/-- The row below a queue: p elements have been cut off. -/
def qRow (e : TypeId) (g p cap : Nat) (ys xs : List Value) : Row := ⟨.slice (some ⟨g, 0, none⟩) (p + xs.length) (p + cap), e, 1, p + xs.length, ys ++ xs⟩

/-- The first element of a queue. -/
theorem owns_first {w : World} {B : Nat} {rs : List Row} (h : Owns w B rs) {k : Nat} {e : TypeId} {g p cap : Nat} {ys xs : List Value} (hk : rs[k]? = some (qRow e g p cap ys xs)) (hp : ys.length = p) :
    xs.length ≤ cap ∧ B ≤ g ∧ g < w.heap.size ∧ p + cap ≤ maxLen ∧ ∀ j u, xs[j]? = some u → w.cell? ⟨g, p + j, none⟩ = some u := by
  obtain ⟨h1, h2⟩ := h.get hk
  rcases h2 with ⟨h2, _⟩ | ⟨g', cap', h2, h3, h4, h5, h6, _, h8⟩
  · cases h2
  · cases h2
    refine ⟨by omega, h3, h4, h6, fun j u hu => h8 _ u ?_⟩
    rw [List.getElem?_append_right (by omega), show p + j - ys.length = j by omega]
    exact hu
/-- One element is cut off. -/
theorem qRow_cut (e : TypeId) (g p cap : Nat) (ys : List Value) (x : Value) (xs : List Value) : qRow e g p (cap + 1) ys (x :: xs) = qRow e g (p + 1) cap (ys ++ [x]) xs := by
  unfold qRow
  have h1 : p + (x :: xs).length = p + 1 + xs.length := by simp; omega
  have h2 : p + (cap + 1) = p + 1 + cap := by omega
  rw [h1, h2, List.append_assoc]
  rfl

theorem owp_append_que {P : Program} {o : Oper} {a : Act} {K : Act → World → Prop} {Q : Exit → Act → World → Prop} {w : World} (s x : Operand) (t : TypeId)
    (ho : o.op = .call { callee := .builtin .append, args := #[s, x], argTypes := #[t, t] }) (e : TypeId) (bytes : Nat) (z : Value) (ht : P.underlying t = some (.slice e))
    (hinfo : (P.info? e).map (fun i => (i.zero, i.size, i.bytes)) = some (some z, 1, bytes)) (hzs : z.cells.size = 1)
    (B : Nat) (rs : List Row) (k g off p cap n : Nat) (ys xs : List Value) (hO : Owns w B rs) (hk : rs[k]? = some (qRow e g p cap ys xs)) (hys : ys.length = p) (hoff : 0 < cap → off = p) (hn : xs.length = n) (hs : a.eval s = .slice (some ⟨g, off, none⟩) n cap)
    (ad : Addr) (c : Nat) (hx : a.eval x = .slice (some ad) 1 c) (u : Value) (hu : w.cell? (ad.add 0) = some u) (h1 : u.oneCell' = true)
    (hlen : n + 1 ≤ maxLen) (hbytes : (n + 1) * bytes ≤ 140737488355328) (hB : B ≤ w.heap.size)
    (h : ∀ g' off' p' cap' ys' w', Owns w' B (rs.set k (qRow e g' p' cap' ys' (xs ++ [u]))) → ys'.length = p' → (0 < cap' → off' = p') → n + 1 ≤ cap' → w.grownBy w' (some g) → B ≤ g → K (a.put o.dst (.slice (some ⟨g', off', none⟩) (n + 1) cap')) w') :
    o.wp P a w K Q := by
  subst hn
  obtain ⟨i0, hi, hz0, hz1, hz2⟩ := info_parts hinfo
  obtain ⟨hle, hBg, hgl, hmx, hcells⟩ := owns_first hO hk hys
  have hrow : w.ownsRow B e 1 (.slice (some ⟨g, 0, none⟩) (p + xs.length) (p + cap)) (p + xs.length) (ys ++ xs) := hO.1 k _ hk
  obtain ⟨r1, r2⟩ := hrow
  rcases r2 with ⟨h2, _⟩ | ⟨g', cap', cur, hv', hb, hh, _, hm, hsz, htk⟩
  · cases h2
  cases hv'
  have hnews : ∀ j v, [u][j]? = some v → w.cell? (ad.add j) = some v := by
    intro j v hj
    match j, hj with
    | 0, hj => simp at hj; subst hj; exact hu
  have h1' : ∀ v ∈ [u], v.oneCell' = true := by simp [h1]
  by_cases hroom : xs.length + 1 ≤ cap
  · have hop := hoff (by omega)
    subst hop
    have hrun := run_append_room_cells (P := P) w t o.type e i0 ht hi g off xs.length cap ad 1 c [u] (by simp [hz1]) hnews h1' hroom (fun j hj => by
        simp at hj
        subst hj
        rw [hz1, Nat.mul_one, Nat.add_zero]
        unfold World.cell?
        simp only [hh]
        have : off + xs.length < cur.size := by omega
        simp [this]) (fun j hj => by
        exact frozen_of_row w g _ cur e hh)
    unfold Oper.wp
    simp [execOp, ho, resolve, invoke, builtin, hs, hx, hrun, Result.andThen]
    have hgb : w.grownBy (w.setCell ⟨g, off + xs.length * i0.size, none⟩ u) (some g) := by
      refine ⟨rfl, rfl, rfl, by simp [World.setCell], fun j hj hne => ?_⟩
      simp only [World.setCell, Array.getElem?_modify]
      rw [if_neg (fun e => hne (by simp [e]))]
    refine h g off off cap ys _ (hO.put hk hgb ?_ (fun g' hg' => Or.inl hg')) hys (fun _ => rfl) hroom hgb hBg
    rw [hz1, Nat.mul_one]
    refine ⟨by simp [qRow, hys], Or.inr ⟨g, off + cap, cur.setIfInBounds (off + xs.length) u, rfl, hb, ?_, (by simp [qRow]; omega), hm, (by simpa [qRow] using hsz), ?_⟩⟩
    · show (w.setCell ⟨g, off + xs.length, none⟩ u).heap[g]? = _
      simp only [World.setCell, Array.getElem?_modify, hh]
      simp [qRow]
    · simp only [qRow, List.length_append, List.length_cons, List.length_nil, Nat.mul_one]
      rw [Array.toList_setIfInBounds, show off + (xs.length + (0 + 1)) = off + xs.length + 1 by omega]
      have hlt : off + xs.length < cur.toList.length := by simp; omega
      rw [List.take_succ_eq_append_getElem (by simpa using hlt), List.getElem_set_self, List.take_set_of_le (Nat.le_refl _)]
      rw [Nat.mul_one] at htk
      rw [htk, List.append_assoc]
  · obtain ⟨v', w', hrun, q1, q2⟩ := run_append_arg_grows (P := P) w t o.type e i0 z 1 bytes ht hi hz0 hz1 hz2 hzs (by decide) ⟨g, off, none⟩ xs.length cap xs (by simp) (fun j v hj => by
        have hl := (List.getElem?_eq_some_iff.1 hj).1
        rw [hoff (by omega), Addr.add_lit]
        exact hcells j v hj) ad 1 c [u] (by simp) hnews (by omega) hlen hbytes
    unfold Oper.wp
    simp [execOp, ho, resolve, invoke, builtin, hs, hx, hrun, Result.andThen]
    have hv : ∃ g' cap', v' = .slice (some ⟨g', 0, none⟩) (xs.length + 1) cap' ∧ w.heap.size ≤ g' ∧ xs.length + 1 ≤ cap' := by
      rcases q1.2 with ⟨_, h2⟩ | ⟨g2, c2, cur2, hv2, hb2, _, hle2, _⟩
      · omega
      · exact ⟨g2, c2, hv2, hb2, hle2⟩
    obtain ⟨g', cap', rfl, hge, hcap⟩ := hv
    have hq : qRow e g' 0 cap' [] (xs ++ [u]) = ⟨.slice (some ⟨g', 0, none⟩) (xs.length + 1) cap', e, 1, xs.length + 1, xs ++ [u]⟩ := by simp [qRow]
    have hgb : w.grownBy w' (some g) := ⟨q2.os, q2.tape, q2.output, q2.size, fun j hj _ => q2.block j hj (by simp)⟩
    refine h g' 0 0 cap' [] w' ?_ rfl (fun _ => rfl) hcap hgb hBg
    rw [hq]
    exact hO.put hk hgb (ownsRow_base q1 hB) (fun g2 hg2 => Or.inr (by simp [Value.ownBlock] at hg2; omega))

theorem wp_append_que {P : Program} {ops : Array Oper} {rest : List Oper} {o : Oper} {a : Act} {Q : Exit → Act → World → Prop} {w : World} (hgd : o.guard = none) (s x : Operand) (t : TypeId)
    (ho : o.op = .call { callee := .builtin .append, args := #[s, x], argTypes := #[t, t] }) (e : TypeId) (bytes : Nat) (z : Value) (ht : P.underlying t = some (.slice e))
    (hinfo : (P.info? e).map (fun i => (i.zero, i.size, i.bytes)) = some (some z, 1, bytes)) (hzs : z.cells.size = 1)
    (B : Nat) (rs : List Row) (k g off p cap n : Nat) (ys xs : List Value) (hO : Owns w B rs) (hk : rs[k]? = some (qRow e g p cap ys xs)) (hys : ys.length = p) (hoff : 0 < cap → off = p) (hn : xs.length = n) (hs : a.eval s = .slice (some ⟨g, off, none⟩) n cap)
    (ad : Addr) (c : Nat) (hx : a.eval x = .slice (some ad) 1 c) (u : Value) (hu : w.cell? (ad.add 0) = some u) (h1 : u.oneCell' = true)
    (hlen : n + 1 ≤ maxLen) (hbytes : (n + 1) * bytes ≤ 140737488355328) (hB : B ≤ w.heap.size)
    (h : ∀ g' off' p' cap' ys' w', Owns w' B (rs.set k (qRow e g' p' cap' ys' (xs ++ [u]))) → ys'.length = p' → (0 < cap' → off' = p') → n + 1 ≤ cap' → w.grownBy w' (some g) → B ≤ g → wpList P ops Q rest (a.put o.dst (.slice (some ⟨g', off', none⟩) (n + 1) cap')) w') :
    wpList P ops Q (o :: rest) a w :=
  wpList_plain hgd fun _ hK => owp_append_que s x t ho e bytes z ht hinfo hzs B rs k g off p cap n ys xs hO hk hys hoff hn hs ad c hx u hu h1 hlen hbytes hB fun g' off' p' cap' ys' w' g1 g2 g3 g4 g5 g6 => hK _ _ (h g' off' p' cap' ys' w' g1 g2 g3 g4 g5 g6)
end Go.Proofs.YtlealdicoceekaaDoor
