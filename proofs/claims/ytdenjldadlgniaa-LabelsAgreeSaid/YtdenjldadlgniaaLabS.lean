/- Slots of the reference. -/
import Derived.Test.YtdenjldadlgniaaLabR
set_option linter.unusedSimpArgs false
set_option linter.unusedVariables false
namespace Go.Proofs.Ytdenjldadlgniaa
open Go.RowKit
attribute [local go_sem ↓] Go.wp_at_zero Go.wp_at_succ

theorem bK_take {l : List Bx} {j i : Nat} (h : i < j) : bK (l.take j) i = bK l i := by
  unfold bK
  simp [List.getD, List.getElem?_take, h]
theorem fr_take {s : List Bx} {j : Nat} (hj : j < s.length) {b : Bx} : frB (s.take j) b = true ↔ ∀ i, i < j → ovB (bK s i) b = false := by
  have e : (s.take j).length = j := by simp; omega
  unfold frB
  rw [Bool.not_eq_true']
  constructor
  · intro h i hi
    cases g : ovB (bK s i) b
    · rfl
    · have := any_bK (l := s.take j) (pr := fun x => ovB x b) |>.2 ⟨i, by rw [e]; exact hi, by rw [bK_take hi]; exact g⟩
      rw [this] at h; cases h
  · intro h
    exact any_none fun i hi => by rw [e] at hi; rw [bK_take hi]; exact h i hi
theorem okS_sl {s : List Bx} {c : List (List Int)} {u : Nat} (hu : u < s.length) (h : bvB (bK s u) = false) : okS s c = false := by
  unfold okS slB
  rw [any_bK.2 ⟨u, hu, by rw [h]; rfl⟩]
  simp
theorem okS_v {s : List Bx} {c : List (List Int)} (h : vB c = false) : okS s c = false := by
  unfold okS
  rw [h]; simp
theorem okS_rw {s : List Bx} {c : List (List Int)} {u : Nat} (hu : u < c.length) (h : (rowOf c u).length ≠ s.length) : okS s c = false := by
  unfold okS rwB
  rw [any_row.2 ⟨u, hu, decide_eq_true h⟩]
  simp
theorem okS_yes {s : List Bx} {c : List (List Int)} (h64 : s.length ≤ 64) (h1 : ∀ u, u < s.length → bvB (bK s u) = true) (h2 : vB c = true) (h3 : ∀ u, u < c.length → (rowOf c u).length = s.length) : okS s c = true := by
  unfold okS slB rwB
  rw [any_none fun u hu => (by rw [h1 u hu]; rfl), any_row_none fun u hu => decide_eq_false (fun g => g (h3 u hu)), h2, decide_eq_true h64]
  rfl
set_option maxHeartbeats 16000000 in
set_option maxRecDepth 100000 in
theorem slots_r (p q : Option Addr) (n k cp cq : Nat) (s : List Bx) (c : List (List Int)) (w : World) (hI : Bxs w p s) (hC : Mat w q c) (hn : s.length = n) (hk : c.length = k) :
    Calls Try.prog 21 #[.slice p n cp, .slice q k cq] w (SlotsPost s c w) := by
  have HI := Lib.hid hI
  have HC := Lib.hid hC
  have hmm := hI.1
  have hmc := hC.1
  have HN := Lib.hid hn
  have HK := Lib.hid hk
  rw [hn] at hmm
  rw [hk] at hmc
  clear hI hC
  have Hbad : Hid (okS s c = false → ∀ w', Grew w w' → SlotsPost s c w (.returned (.tuple #[.slice none 0 0, .int .i64 0, .int .i64 1])) w') := Lib.hid (fun h w' hg => ⟨hg, Or.inl ⟨h, rfl⟩⟩)
  by_cases h64 : n ≤ 64
  case neg =>
    have Hp := Lib.hid (Hbad.out (by unfold okS slB; rw [decide_eq_false (by rw [hn]; exact h64)]; rfl))
    clear hn hk
    go_enter Try.func21, Try.ntmps21
    go_wp2
    go_ret3
    exact Hp.out _ (by (repeat (first | exact Grew.refl _ | refine Grew.over ?_ _ | refine Grew.alloc ?_ _ | refine Grew.drew ?_ | refine Grew.drewN ?_ _)))
  obtain ⟨r2, hr2⟩ : ∃ r, vB c = r := ⟨_, rfl⟩
  have H2 := Lib.hid hr2
  clear hr2 hn hk
  cases r2
  case false =>
    have Hp := Lib.hid (Hbad.out (okS_v H2.out))
    go_enter Try.func21, Try.ntmps21
    go_wp2_with (go_at_call 40; apply Calls.mono; (with_reducible exact valid_r _ _ _ _ _ (HC.out.grew (by (repeat (first | exact Grew.refl _ | refine Grew.over ?_ _ | refine Grew.alloc ?_ _ | refine Grew.drew ?_ | refine Grew.drewN ?_ _)))) HK.out); rw [H2.out]; rintro e w' ⟨rfl, x, rfl⟩)
    go_ret3
    exact Hp.out _ (by (repeat (first | exact Grew.refl _ | refine Grew.over ?_ _ | refine Grew.alloc ?_ _ | refine Grew.drew ?_ | refine Grew.drewN ?_ _)))
  go_enter Try.func21, Try.ntmps21
  go_wp2_with (go_at_call 40; apply Calls.mono; (with_reducible exact valid_r _ _ _ _ _ (HC.out.grew (by (repeat (first | exact Grew.refl _ | refine Grew.over ?_ _ | refine Grew.alloc ?_ _ | refine Grew.drew ?_ | refine Grew.drewN ?_ _)))) HK.out); rw [H2.out]; rintro e w' ⟨rfl, x, rfl⟩)
  go_loopw [7] (fun v wr => ∃ i : Nat, i ≤ n ∧ v = .int .i64 i ∧ (∀ j, j < i → bvB (bK s j) = true) ∧ Grew w wr) (fun v _ => n - (intOf v).toNat)
  case atStart => exact ⟨0, Nat.zero_le _, rfl, fun j hj => by omega, by (repeat (first | exact Grew.refl _ | refine Grew.over ?_ _ | refine Grew.alloc ?_ _ | refine Grew.drew ?_ | refine Grew.drewN ?_ _))⟩
  case round =>
    obtain ⟨i, hi, rfl, hall, hg⟩ := hrel
    have Hall := Lib.hid hall
    have Hg := Lib.hid hg
    clear hall hg
    by_cases hlt : i < n
    · obtain ⟨_, bb, oo, h3, h4⟩ := HI.out.grew Hg.out
      obtain ⟨rfl, hbb⟩ := h3 (by rw [HN.out]; omega)
      obtain ⟨k1, k2, k3, k4⟩ := h4 i (by rw [HN.out]; exact hlt)
      clear h3 h4
      obtain ⟨⟨xa, xb, xc, xd⟩, hbe⟩ : ∃ b, bK s i = b := ⟨_, rfl⟩
      rw [hbe] at k1 k2 k3 k4
      dsimp only at k1 k2 k3 k4
      have Hbe := Lib.hid hbe
      clear hbe
      obtain ⟨r, hr⟩ : ∃ r, bvB ⟨xa, xb, xc, xd⟩ = r := ⟨_, rfl⟩
      have Hr := Lib.hid hr
      clear hr
      cases r
      · have Hp := Lib.hid (Hbad.out (okS_sl (u := i) (by rw [HN.out]; exact hlt) (by rw [Hbe.out]; exact Hr.out)))
        go_wp2_with (go_at_call 41; apply Calls.mono; (with_reducible exact box_r_e Hr.out); rintro e w' ⟨rfl, x, rfl⟩)
        go_ret3
        exact Hp.out _ (Hg.out.trans (by (repeat (first | exact Grew.refl _ | refine Grew.over ?_ _ | refine Grew.alloc ?_ _ | refine Grew.drew ?_ | refine Grew.drewN ?_ _))))
      · go_wp2_with (go_at_call 41; apply Calls.mono; (with_reducible exact box_r_e Hr.out); rintro e w' ⟨rfl, x, rfl⟩)
        go_roundw
        case rel => exact ⟨i + 1, by omega, by go_num, fun j hj => (by
          by_cases e : j = i
          · rw [e, Hbe.out]; exact Hr.out
          · exact Hall.out j (by omega)), Hg.out.trans (by (repeat (first | exact Grew.refl _ | refine Grew.over ?_ _ | refine Grew.alloc ?_ _ | refine Grew.drew ?_ | refine Grew.drewN ?_ _)))⟩
        case measure => simp [intOf]; omega
    · have Hs1 : Hid (∀ u, u < s.length → bvB (bK s u) = true) := Lib.hid (fun u hu => Hall.out u (by rw [HN.out] at hu; omega))
      clear Hall
      obtain ⟨wq, hwq⟩ : ∃ wq, wq = wr := ⟨_, rfl⟩
      subst hwq
      go_wp2
      go_loopw [8] (fun v wr => ∃ i : Nat, i ≤ k ∧ v = .int .i64 i ∧ (∀ j, j < i → (rowOf c j).length = n) ∧ Grew wq wr) (fun v _ => k - (intOf v).toNat)
      case atStart => exact ⟨0, Nat.zero_le _, rfl, fun j hj => by omega, by (repeat (first | exact Grew.refl _ | refine Grew.over ?_ _ | refine Grew.alloc ?_ _ | refine Grew.drew ?_ | refine Grew.drewN ?_ _))⟩
      case round =>
        obtain ⟨i, hi, rfl, hall, hg⟩ := hrel
        have Hall := Lib.hid hall
        have Hg2 := Lib.hid (Hg.out.trans hg)
        clear hall
        by_cases hlt : i < k
        · obtain ⟨b, o, rp, rc, hqe, hb, c0, hR⟩ := HC.out.row2 (u := i) (by rw [HK.out]; exact hlt)
          subst hqe
          replace c0 := Hg2.out.cellEq c0
          replace hb := Nat.lt_of_lt_of_le hb Hg2.out.below.size
          have hL63 := hR.1
          clear hR
          obtain ⟨L, hL⟩ : ∃ L, (rowOf c i).length = L := ⟨_, rfl⟩
          rw [hL] at c0 hL63
          have HL := Lib.hid hL
          clear hL
          have HG3 := Lib.hid hg
          clear hg
          by_cases e : L = n
          · subst e
            go_wp2
            go_roundw
            case rel => exact ⟨i + 1, by omega, by go_num, fun j hj => (by
              by_cases e : j = i
              · rw [e, HL.out]
              · exact Hall.out j (by omega)), HG3.out.trans (by (repeat (first | exact Grew.refl _ | refine Grew.over ?_ _ | refine Grew.alloc ?_ _ | refine Grew.drew ?_ | refine Grew.drewN ?_ _)))⟩
            case measure => simp [intOf]; omega
          · have Hp := Lib.hid (Hbad.out (okS_rw (u := i) (by rw [HK.out]; exact hlt) (by rw [HL.out, HN.out]; exact e)))
            have e2 : ((L : Int) != (n : Int)) = true := by rw [bne_iff_ne]; omega
            have e3 : (L != n) = true := by rw [bne_iff_ne]; exact e
            clear e
            go_wp2
            go_ret3
            exact Hp.out _ (Hg2.out.trans (by (repeat (first | exact Grew.refl _ | refine Grew.over ?_ _ | refine Grew.alloc ?_ _ | refine Grew.drew ?_ | refine Grew.drewN ?_ _))))
        · have Hok : Hid (okS s c = true) := Lib.hid (okS_yes (by rw [HN.out]; exact h64) Hs1.out H2.out (fun u hu => by rw [HN.out]; exact Hall.out u (by rw [HK.out] at hu; omega)))
          have Hov : Hid (¬ NoOv s → ∀ w', Grew w w' → SlotsPost s c w (.returned (.tuple #[.slice none 0 0, .int .i64 0, .int .i64 14])) w') := Lib.hid (fun h w' hg => ⟨hg, Or.inr (Or.inl ⟨Hok.out, h, rfl⟩)⟩)
          clear Hall Hs1 hg
          obtain ⟨wt, hwt⟩ : ∃ wt, wt = wr := ⟨_, rfl⟩
          subst hwt
          go_wp2
          go_loopw [9] (fun v wr => ∃ j : Nat, j ≤ n ∧ v = .int .i64 j ∧ (∀ u, u < j → ∀ t, t < u → ovB (bK s t) (bK s u) = false) ∧ Grew wt wr) (fun v _ => n - (intOf v).toNat)
          case atStart => exact ⟨0, Nat.zero_le _, rfl, fun j hj => by omega, by (repeat (first | exact Grew.refl _ | refine Grew.over ?_ _ | refine Grew.alloc ?_ _ | refine Grew.drew ?_ | refine Grew.drewN ?_ _))⟩
          case round =>
            obtain ⟨j, hj, rfl, hall, hg⟩ := hrel
            have Hall := Lib.hid hall
            have Hg4 := Lib.hid hg
            clear hall hg
            by_cases hlt : j < n
            · obtain ⟨wu, hwu⟩ : ∃ wu, wu = wr := ⟨_, rfl⟩
              subst hwu
              go_wp2
              go_loopw [10] (fun v wr => ∃ t : Nat, t ≤ j ∧ v = .int .i64 t ∧ (∀ u, u < t → ovB (bK s u) (bK s j) = false) ∧ Grew wu wr) (fun v _ => j - (intOf v).toNat)
              case atStart => exact ⟨0, Nat.zero_le _, rfl, fun j hj => by omega, by (repeat (first | exact Grew.refl _ | refine Grew.over ?_ _ | refine Grew.alloc ?_ _ | refine Grew.drew ?_ | refine Grew.drewN ?_ _))⟩
              case round =>
                obtain ⟨t, ht, rfl, hin, hg⟩ := hrel
                have Hin := Lib.hid hin
                have Hg5 := Lib.hid hg
                clear hin hg
                by_cases htj : t < j
                · obtain ⟨_, bb, oo, h3, h4⟩ := HI.out.grew (Hg2.out.trans (Hg4.out.trans Hg5.out))
                  obtain ⟨rfl, hbb⟩ := h3 (by rw [HN.out]; omega)
                  obtain ⟨k1, k2, k3, k4⟩ := h4 j (by rw [HN.out]; exact hlt)
                  obtain ⟨l1, l2, l3, l4⟩ := h4 t (by rw [HN.out]; omega)
                  clear h3 h4
                  have Hfin : Hid (ovB (bK s t) (bK s j) = true → ¬ NoOv s) := Lib.hid (fun h g => by
                    have := (fr_take (by rw [HN.out]; exact hlt)).1 (g j (by rw [HN.out]; exact hlt)) t htj
                    rw [h] at this; cases this)
                  obtain ⟨⟨xa, xb, xc, xd⟩, hbe⟩ : ∃ b, bK s j = b := ⟨_, rfl⟩
                  obtain ⟨⟨ya, yb, yc, yd⟩, hbt⟩ : ∃ b, bK s t = b := ⟨_, rfl⟩
                  rw [hbe] at k1 k2 k3 k4
                  rw [hbt] at l1 l2 l3 l4
                  dsimp only at k1 k2 k3 k4 l1 l2 l3 l4
                  have Hbe := Lib.hid hbe
                  have Hbt := Lib.hid hbt
                  rw [hbe, hbt] at Hfin
                  clear hbe hbt
                  obtain ⟨r, hr⟩ : ∃ r, ovB ⟨ya, yb, yc, yd⟩ ⟨xa, xb, xc, xd⟩ = r := ⟨_, rfl⟩
                  have Hr := Lib.hid hr
                  clear hr
                  cases r
                  · go_wp2
                    refine wp_region_over (by kernel_rfl) (by kernel_rfl) ?_; (repeat (go_big_quiet_step ((go_at_call 42; apply over_call; with_reducible exact over_r_e Hr.out)))); refine wpQuiet_nil ?_; rintro _ ⟨x, rfl⟩
                    go_wp2
                    go_roundw
                    case rel => exact ⟨t + 1, by omega, by go_num, fun u hu => (by
                      by_cases e : u = t
                      · rw [e, Hbt.out, Hbe.out]; exact Hr.out
                      · exact Hin.out u (by omega)), Hg5.out.trans (by (repeat (first | exact Grew.refl _ | refine Grew.over ?_ _ | refine Grew.alloc ?_ _ | refine Grew.drew ?_ | refine Grew.drewN ?_ _)))⟩
                    case measure => simp [intOf]; omega
                  · have Hp := Lib.hid (Hov.out (Hfin.out Hr.out))
                    go_wp2
                    refine wp_region_over (by kernel_rfl) (by kernel_rfl) ?_; (repeat (go_big_quiet_step ((go_at_call 42; apply over_call; with_reducible exact over_r_e Hr.out)))); refine wpQuiet_nil ?_; rintro _ ⟨x, rfl⟩
                    go_wp2
                    go_ret3
                    exact Hp.out _ (Hg2.out.trans (Hg4.out.trans (Hg5.out.trans (by (repeat (first | exact Grew.refl _ | refine Grew.over ?_ _ | refine Grew.alloc ?_ _ | refine Grew.drew ?_ | refine Grew.drewN ?_ _))))))
                · go_wp2
                  go_roundw
                  case rel => exact ⟨j + 1, by omega, by go_num, fun u hu t' ht' => (by
                    by_cases e : u = j
                    · rw [e]; exact Hin.out t' (by omega)
                    · exact Hall.out u (by omega) t' ht'), Hg4.out.trans (Hg5.out.trans (by (repeat (first | exact Grew.refl _ | refine Grew.over ?_ _ | refine Grew.alloc ?_ _ | refine Grew.drew ?_ | refine Grew.drewN ?_ _))))⟩
                  case measure => simp [intOf]; omega
            · have Hno : Hid (NoOv s) := Lib.hid (fun u hu => (fr_take hu).2 (fun t ht => Hall.out u (by rw [HN.out] at hu; omega) t ht))
              rcases best_or c with ⟨a, hb⟩ | hno
              · have Hb := Lib.hid hb
                clear hb
                go_wp2_with (go_at_call 43; apply Calls.mono; (with_reducible exact solver_ok (HC.out.grew (Hg2.out.trans (Hg4.out.trans (by (repeat (first | exact Grew.refl _ | refine Grew.over ?_ _ | refine Grew.alloc ?_ _ | refine Grew.drew ?_ | refine Grew.drewN ?_ _)))))) HK.out H2.out Hb.out); rintro e w2 ⟨hg2, q2, c2, rfl, hI2, hc2⟩; have HG2 := Lib.hid (Hg2.out.trans (Hg4.out.trans (Grew.trans (by (repeat (first | exact Grew.refl _ | refine Grew.over ?_ _ | refine Grew.alloc ?_ _ | refine Grew.drew ?_ | refine Grew.drewN ?_ _))) hg2))); have HI2 := Lib.hid hI2; have Hc2 := Lib.hid hc2; clear hg2 hI2 hc2)
                go_ret3
                exact ⟨HG2.out, Or.inr (Or.inr (Or.inr ⟨Hok.out, Hno.out, a, q2, c2, Hb.out, rfl, HI2.out, Hc2.out⟩))⟩
              · have Hb := Lib.hid hno
                clear hno
                go_wp2_with (go_at_call 43; apply Calls.mono; (with_reducible exact solver_no (HC.out.grew (Hg2.out.trans (Hg4.out.trans (by (repeat (first | exact Grew.refl _ | refine Grew.over ?_ _ | refine Grew.alloc ?_ _ | refine Grew.drew ?_ | refine Grew.drewN ?_ _)))))) HK.out H2.out Hb.out); rintro e w2 ⟨rfl, hg2⟩; have HG2 := Lib.hid (Hg2.out.trans (Hg4.out.trans (Grew.trans (by (repeat (first | exact Grew.refl _ | refine Grew.over ?_ _ | refine Grew.alloc ?_ _ | refine Grew.drew ?_ | refine Grew.drewN ?_ _))) hg2))); clear hg2)
                go_ret3
                exact ⟨HG2.out, Or.inr (Or.inr (Or.inl ⟨Hok.out, Hno.out, Hb.out, rfl⟩))⟩
end Go.Proofs.Ytdenjldadlgniaa
