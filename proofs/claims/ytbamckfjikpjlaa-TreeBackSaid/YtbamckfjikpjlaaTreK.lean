/- The reference's attributes, statement, Valid. -/
import Derived.Test.YtbamckfjikpjlaaTreJ
set_option linter.unusedSimpArgs false
set_option linter.unusedVariables false
namespace Go.Proofs.Ytbamckfjikpjlaa
open Go.RowKit
attribute [local go_sem ↓] Go.wp_at_zero Go.wp_at_succ

set_option maxHeartbeats 4000000 in
theorem attributes_r (k : Int) (nm : ByteArray) (rp ap bp : Option Addr) (rl rc al ac bl bc : Nat) (ats : List P2) (w : World) (hA : P2s w ap ac ats) (ha : ats.length = al) :
    Calls Try.prog 54 #[.agg #[.int .i64 k, .string nm, .slice rp rl rc, .slice ap al ac, .slice bp bl bc]] w fun e w' => e = .returned (.int .i64 (atsE k ats)) ∧ Grew w w' := by
  subst ha
  have hac := hA.1
  have HA := Lib.hid hA
  clear hA
  obtain ⟨r, hr⟩ : ∃ r, atsE k ats = r := ⟨_, rfl⟩
  rw [hr]
  have Hr := Lib.hid hr
  clear hr
  by_cases h16 : ats.length ≤ 16
  case neg =>
    have H := Lib.hid (Hr.out.symm.trans (if_pos (by omega)))
    go_enter Try.func54, Try.ntmps54
    go_wp2
    go_ret
    exact ⟨ret_int H.out.symm, by (repeat (first | exact Grew.refl _ | refine Grew.over ?_ _ | refine Grew.alloc ?_ _ | refine Grew.drew ?_ | refine Grew.drewN ?_ _))⟩
  have HW := Lib.hid (Bx5.box w (.int .i64 k) (.string nm) (.slice rp rl rc) (.slice ap ats.length ac) (.slice bp bl bc) 43)
  go_enter Try.func54, Try.ntmps54
  go_wp2
  go_loopw [3] (fun i wr => ∃ j : Nat, j ≤ ats.length ∧ i = .int .i64 j ∧ (∀ u, u < j → atE k ats u = 0) ∧ Grew (w.alloc (.cells #[.int .i64 k, .string nm, .slice rp rl rc, .slice ap ats.length ac, .slice bp bl bc] 43)) wr) (fun i _ => ats.length - (intOf i).toNat)
  case atStart => exact ⟨0, Nat.zero_le _, rfl, fun u hu => by omega, by (repeat (first | exact Grew.refl _ | refine Grew.over ?_ _ | refine Grew.alloc ?_ _ | refine Grew.drew ?_ | refine Grew.drewN ?_ _))⟩
  case round =>
    obtain ⟨j, hj, rfl, hall, hg⟩ := hrel
    have Hall := Lib.hid hall
    have Hg := Lib.hid hg
    obtain ⟨hb, c0, c1, c2, c3, c4⟩ := HW.out.grew hg
    have Hg0 := Lib.hid (Grew.trans (show Grew w _ by (repeat (first | exact Grew.refl _ | refine Grew.over ?_ _ | refine Grew.alloc ?_ _ | refine Grew.drew ?_ | refine Grew.drewN ?_ _))) hg)
    clear hall hg
    by_cases hlt : j < ats.length
    · obtain ⟨b, o, x, y, rfl, hb', hx, hxs, hys, d0, d1⟩ := p2_el (HA.out.grew stable_p2 Hg0.out) hlt
      have Hx := Lib.hid hx
      have hno : Hid (∀ r', atE k ats j = r' → r' ≠ 0 → r = r') := Lib.hid fun r' h h0 => Hr.out.symm.trans (atsE_hit h16 hlt Hall.out h h0)
      clear hx
      obtain ⟨nb, hnb⟩ : ∃ nb, nameB x = nb := ⟨_, rfl⟩
      have Hnb := Lib.hid hnb
      clear hnb
      by_cases hq : k = 4 ∨ nb = true
      case neg =>
        have hk4 : (k == 4) = false := beq_eq_false_iff_ne.2 (by omega)
        have hk4' : (k != 4) = true := bne_iff_ne.2 (by omega)
        cases nb
        case true => exact absurd (Or.inr rfl) hq
        have H := Lib.hid (hno.out 5 (atE_1 Hx.out (by omega) Hnb.out) (by decide))
        clear hq
        go_wp2_with (go_at_call 35; apply Calls.mono; (with_reducible exact name_e Hnb.out); rintro e w' ⟨rfl, rfl⟩)
        go_ret
        exact ⟨ret_int H.out.symm, Hg0.out.trans (by (repeat (first | exact Grew.refl _ | refine Grew.over ?_ _ | refine Grew.alloc ?_ _ | refine Grew.drew ?_ | refine Grew.drewN ?_ _)))⟩
      have Hq := Lib.hid (show k = 4 ∨ nameB x = true by rw [Hnb.out]; exact hq)
      have A2 := Lib.hid (fun h => atE_2 Hx.out Hq.out h)
      have A3 := Lib.hid (fun h h' => atE_3 Hx.out Hq.out h h')
      have A4 := Lib.hid (fun h h' => atE_4 Hx.out Hq.out h h')
      clear Hq
      have hq' : (k = 4 ∨ (((k != 4) = true ∧ (k == 4) = false) ∧ nb = true)) := by
        by_cases h : k = 4
        · exact Or.inl h
        · exact Or.inr ⟨⟨bne_iff_ne.2 h, beq_eq_false_iff_ne.2 h⟩, hq.resolve_left h⟩
      clear hq
      have Hg3 := Lib.hid (Hg.out.trans (show Grew wr (wr.alloc (.cells #[.string x, .string y] 64)) by (repeat (first | exact Grew.refl _ | refine Grew.over ?_ _ | refine Grew.alloc ?_ _ | refine Grew.drew ?_ | refine Grew.drewN ?_ _))))
      have HC : Hid ((wr.alloc (.cells #[.string x, .string y] 64)).cell? ⟨wr.heap.size, 0, none⟩ = some (.string x) ∧ (wr.alloc (.cells #[.string x, .string y] 64)).cell? ⟨wr.heap.size, 1, none⟩ = some (.string y) ∧ wr.heap.size < (wr.alloc (.cells #[.string x, .string y] 64)).heap.size) :=
        Lib.hid ⟨by simp [go_sem], by simp [go_sem], by simp [go_sem]⟩
      have Hg7 := Lib.hid (Hg0.out.trans (show Grew wr (wr.alloc (.cells #[.string x, .string y] 64)) by (repeat (first | exact Grew.refl _ | refine Grew.over ?_ _ | refine Grew.alloc ?_ _ | refine Grew.drew ?_ | refine Grew.drewN ?_ _))))
      rcases hq' with rfl | ⟨⟨hk4, hk4'⟩, rfl⟩
      all_goals
        go_wp2_with (go_at_call 35; apply Calls.mono; (with_reducible exact name_e Hnb.out); rintro e w' ⟨rfl, rfl⟩)
        go_loopw [5] (fun i w1 => ∃ u : Nat, u ≤ j ∧ i = .int .i64 u ∧ (∀ (t : Nat) z, t < u → ats[t]? = some z → sq z.1 x = false) ∧ Grew (wr.alloc (.cells #[.string x, .string y] 64)) w1) (fun i _ => j - (intOf i).toNat)
        case atStart => exact ⟨0, Nat.zero_le _, rfl, fun t z ht => by omega, by (repeat (first | exact Grew.refl _ | refine Grew.over ?_ _ | refine Grew.alloc ?_ _ | refine Grew.drew ?_ | refine Grew.drewN ?_ _))⟩
        case round =>
          obtain ⟨u, hu, rfl, hne, hg1⟩ := hrel
          have Hne := Lib.hid hne
          have Hg4 := Lib.hid hg1
          have Hg5 := Lib.hid (Hg3.out.trans hg1)
          have Hg6 := Lib.hid (Hg7.out.trans hg1)
          obtain ⟨hb1, x0, x1, x2, x3, x4⟩ := HW.out.grew Hg5.out
          have y0 := hg1.cellEq HC.out.1
          have y1 := hg1.cellEq HC.out.2.1
          have y2 := Nat.lt_of_lt_of_le HC.out.2.2 hg1.below.size
          clear hne hg1
          by_cases hult : u < j
          · obtain ⟨b2, o2, xu, yu, hpe, hb2, hxu, -, -, z0, z1⟩ := p2_el (HA.out.grew stable_p2 Hg6.out) (i := u) (by omega)
            cases hpe
            have Hxu := Lib.hid hxu
            clear hxu
            cases hsq : sq xu x
            · have hsq' := sq_raw hsq
              have Hsq := Lib.hid hsq
              clear hsq
              go_wp2
              refine wp_region_over (by kernel_rfl) (by kernel_rfl) ?_; (repeat (go_big_quiet_step (fail))); refine wpQuiet_nil ?_; rintro _ ⟨x, rfl⟩
              go_wp2
              go_roundw
              case rel => exact ⟨u + 1, hult, by go_num, fun t z ht hz => (by
                rcases Nat.lt_succ_iff_lt_or_eq.1 ht with h' | h'
                · exact Hne.out t z h' hz
                · rw [h', Hxu.out] at hz; cases hz; exact Hsq.out), Hg4.out.trans (by (repeat (first | exact Grew.refl _ | refine Grew.over ?_ _ | refine Grew.alloc ?_ _ | refine Grew.drew ?_ | refine Grew.drewN ?_ _)))⟩
              case measure => simp [intOf]; omega
            · have hsq' := sq_raw hsq
              have H := Lib.hid (hno.out 6 (A2.out (any_get (x := (xu, yu)) (k := u) (by rw [List.getElem?_take, if_pos hult]; exact Hxu.out) hsq)) (by decide))
              clear hsq
              go_wp2
              refine wp_region_over (by kernel_rfl) (by kernel_rfl) ?_; (repeat (go_big_quiet_step (fail))); refine wpQuiet_nil ?_; rintro _ ⟨x, rfl⟩
              go_wp2
              go_ret
              exact ⟨ret_int H.out.symm, Hg6.out.trans (by (repeat (first | exact Grew.refl _ | refine Grew.over ?_ _ | refine Grew.alloc ?_ _ | refine Grew.drew ?_ | refine Grew.drewN ?_ _)))⟩
          · have Han := Lib.hid (show ((ats.take j).any fun b => sq b.1 x) = false from any_not fun t z hz => by
              rw [List.getElem?_take] at hz
              split at hz
              · exact Hne.out t z (by omega) hz
              · cases hz)
            by_cases h32 : 32 < y.size
            case pos =>
              have H := Lib.hid (hno.out 2 (A3.out Han.out h32) (by decide))
              go_wp2
              go_ret
              exact ⟨ret_int H.out.symm, Hg6.out.trans (by (repeat (first | exact Grew.refl _ | refine Grew.over ?_ _ | refine Grew.alloc ?_ _ | refine Grew.drew ?_ | refine Grew.drewN ?_ _)))⟩
            have Hv := Lib.hid (A4.out Han.out h32)
            have Hvb := Lib.hid (fun (u : Nat) (hu : u < y.size) (h : ¬ (32 ≤ ch y u ∧ ch y u ≤ 126)) => hno.out 7 (by rw [Hv.out, vl_bad hu h]; rfl) (by decide))
            go_wp2
            go_loop [6] (fun i => ∃ u : Nat, u ≤ y.size ∧ i = .int .i64 u ∧ (∀ t, t < u → 32 ≤ ch y t ∧ ch y t ≤ 126)) (fun i => y.size - (intOf i).toNat)
            case atStart => exact ⟨0, Nat.zero_le _, rfl, fun t ht => by omega⟩
            case round =>
              obtain ⟨u, hu, rfl, hok⟩ := hrel
              have Hok := Lib.hid hok
              clear hok
              by_cases hult : u < y.size
              · have hc := ch_eq y hult
                have hcb := ch_bd y u
                have hvu := Hvb.out u hult
                have hok1 : Hid ((32 ≤ ch y u ∧ ch y u ≤ 126) → ∀ t, t < u + 1 → 32 ≤ ch y t ∧ ch y t ≤ 126) := Lib.hid fun h t ht => by
                  rcases Nat.lt_succ_iff_lt_or_eq.1 ht with h' | h'
                  · exact Hok.out t h'
                  · rw [h']; exact h
                obtain ⟨c, hcc⟩ : ∃ c, ch y u = c := ⟨_, rfl⟩
                rw [hcc] at hc hcb hvu hok1
                have Hvu := Lib.hid hvu
                clear hcc hvu
                by_cases hc1 : c < 32
                · have H := Lib.hid (Hvu.out (by omega))
                  go_wp2
                  go_ret
                  exact ⟨ret_int H.out.symm, Hg6.out⟩
                by_cases hc2 : 126 < c
                · have H := Lib.hid (Hvu.out (by omega))
                  go_wp2
                  go_ret
                  exact ⟨ret_int H.out.symm, Hg6.out⟩
                go_wp2
                go_round
                case rel => exact ⟨u + 1, hult, by go_num, hok1.out ⟨by omega, by omega⟩⟩
                case measure => simp [intOf]; omega
              · have H : Hid (atE _ ats j = 0) := Lib.hid (Hv.out.trans (by rw [show vlB y = true from decide_eq_true fun t ht => Hok.out t (by omega)]; rfl))
                go_wp2
                go_roundw
                case rel => exact ⟨j + 1, hlt, by go_num, fun t ht => (by
                  rcases Nat.lt_succ_iff_lt_or_eq.1 ht with h' | h'
                  · exact Hall.out t h'
                  · rw [h']; exact H.out), Hg5.out⟩
                case measure => simp [intOf]; omega
    · have H := Lib.hid (Hr.out.symm.trans (atsE_miss h16 (fun t ht => Hall.out t (by omega))))
      go_wp2
      go_ret
      exact ⟨ret_int H.out.symm, Hg0.out.trans (by (repeat (first | exact Grew.refl _ | refine Grew.over ?_ _ | refine Grew.alloc ?_ _ | refine Grew.drew ?_ | refine Grew.drewN ?_ _)))⟩

/-- A box of six cells. -/
def Bx6 (w : World) (b : Nat) (v0 v1 v2 v3 v4 v5 : Value) : Prop := b < w.heap.size ∧ w.cell? ⟨b, 0, none⟩ = some v0 ∧ w.cell? ⟨b, 1, none⟩ = some v1 ∧ w.cell? ⟨b, 2, none⟩ = some v2 ∧ w.cell? ⟨b, 3, none⟩ = some v3 ∧ w.cell? ⟨b, 4, none⟩ = some v4 ∧ w.cell? ⟨b, 5, none⟩ = some v5
theorem Bx6.grew {w w' : World} {b : Nat} {v0 v1 v2 v3 v4 v5 : Value} (h : Bx6 w b v0 v1 v2 v3 v4 v5) (hg : Grew w w') : Bx6 w' b v0 v1 v2 v3 v4 v5 :=
  ⟨Nat.lt_of_lt_of_le h.1 hg.below.size, hg.cellEq h.2.1, hg.cellEq h.2.2.1, hg.cellEq h.2.2.2.1, hg.cellEq h.2.2.2.2.1, hg.cellEq h.2.2.2.2.2.1, hg.cellEq h.2.2.2.2.2.2⟩
theorem Bx6.box (w : World) (v0 v1 v2 v3 v4 v5 : Value) (t : TypeId) : Bx6 (w.alloc (.cells #[v0, v1, v2, v3, v4, v5] t)) w.heap.size v0 v1 v2 v3 v4 v5 := by
  refine ⟨by simp [go_sem], ?_, ?_, ?_, ?_, ?_, ?_⟩ <;> simp [go_sem]
theorem nm_23 {k : Int} (h : nmB k = true) : (k != 2) = true ∧ (k != 3) = true := by
  have := of_decide_eq_true h
  exact ⟨bne_iff_ne.2 (by omega), bne_iff_ne.2 (by omega)⟩
theorem nm_no {k : Int} {nm : ByteArray} {rl : Nat} {ats : List P2} {bl : Nat} (h : fmB k nm rl ats bl = true) (h2 : nmB k = false) : k = 2 ∨ k = 3 := by
  have h3 := of_decide_eq_false h2
  by_cases h : k = 2
  · exact Or.inl h
  by_cases h' : k = 3
  · exact Or.inr h'
  rw [fm6 (by omega) h h' (by omega) (by omega)] at *
  cases ‹false = true›

set_option maxHeartbeats 4000000 in
theorem statement_r (k : Int) (nm : ByteArray) (rp ap bp : Option Addr) (rl rc al ac bl bc lv : Nat) (rs ats : List P2) (w : World) (hR : P2s w rp rc rs) (hr : rs.length = rl) (hA : P2s w ap ac ats) (ha : ats.length = al) (hlv : lv ≤ 1000) :
    Calls Try.prog 42 #[.agg #[.int .i64 k, .string nm, .slice rp rl rc, .slice ap al ac, .slice bp bl bc, .int .i64 lv]] w fun e w' => e = .returned (.int .i64 (ckE k nm rs ats bl lv)) ∧ Grew w w' := by
  subst ha hr
  have hrl := len_lt hR
  have HA := Lib.hid hA
  have HR := Lib.hid hR
  clear hA hR
  obtain ⟨r, hr⟩ : ∃ r, ckE k nm rs ats bl lv = r := ⟨_, rfl⟩
  rw [hr]
  have Hr := Lib.hid hr
  clear hr
  have HW := Lib.hid (Bx6.box w (.int .i64 k) (.string nm) (.slice rp rs.length rc) (.slice ap ats.length ac) (.slice bp bl bc) (.int .i64 lv) 51)
  obtain ⟨fm, hfm⟩ : ∃ fm, fmB k nm rs.length ats bl = fm := ⟨_, rfl⟩
  have Hfm := Lib.hid hfm
  clear hfm
  cases fm
  case false =>
    have H := Lib.hid (Hr.out.symm.trans (ck_1 Hfm.out))
    have Hf := Lib.hid (fmE_n Hfm.out)
    go_enter Try.func42, Try.ntmps42
    go_wp2_with (first
      | (go_at_call 53; apply Calls.mono; (with_reducible exact fields_r _ _ _ _ _ _ _ _ _ _ _ ats _ (HA.out.grew stable_p2 (by (repeat (first | exact Grew.refl _ | refine Grew.over ?_ _ | refine Grew.alloc ?_ _ | refine Grew.drew ?_ | refine Grew.drewN ?_ _)))) rfl); rw [Hf.out]; rintro e w1 ⟨rfl, hg1⟩; have Hg1 := Lib.hid (show Grew w w1 from Grew.trans (by (repeat (first | exact Grew.refl _ | refine Grew.over ?_ _ | refine Grew.alloc ?_ _ | refine Grew.drew ?_ | refine Grew.drewN ?_ _))) hg1); obtain ⟨hb1, x0, x1, x2, x3, x4, x5⟩ := HW.out.grew hg1; clear hg1)
      | (go_at_call 35; apply Calls.mono; (with_reducible exact name_e Hna.out); rintro e w' ⟨rfl, rfl⟩))
    go_ret
    exact ⟨ret_int H.out.symm, Hg1.out⟩
  have Hf := Lib.hid (fmE_y Hfm.out)
  by_cases h5 : k = 5 ∧ 6 ≤ lv
  case pos =>
    have H := Lib.hid (Hr.out.symm.trans (ck_2 Hfm.out h5))
    obtain ⟨rfl, h6⟩ := h5
    go_enter Try.func42, Try.ntmps42
    go_wp2_with (first
      | (go_at_call 53; apply Calls.mono; (with_reducible exact fields_r _ _ _ _ _ _ _ _ _ _ _ ats _ (HA.out.grew stable_p2 (by (repeat (first | exact Grew.refl _ | refine Grew.over ?_ _ | refine Grew.alloc ?_ _ | refine Grew.drew ?_ | refine Grew.drewN ?_ _)))) rfl); rw [Hf.out]; rintro e w1 ⟨rfl, hg1⟩; have Hg1 := Lib.hid (show Grew w w1 from Grew.trans (by (repeat (first | exact Grew.refl _ | refine Grew.over ?_ _ | refine Grew.alloc ?_ _ | refine Grew.drew ?_ | refine Grew.drewN ?_ _))) hg1); obtain ⟨hb1, x0, x1, x2, x3, x4, x5⟩ := HW.out.grew hg1; clear hg1)
      | (go_at_call 35; apply Calls.mono; (with_reducible exact name_e Hna.out); rintro e w' ⟨rfl, rfl⟩))
    go_ret
    exact ⟨ret_int H.out.symm, Hg1.out⟩
  have H5 := Lib.hid h5
  have h5' : (k = 5 ∧ lv < 6) ∨ (k == 5) = false := by
    by_cases h : k = 5
    · left; exact ⟨h, by omega⟩
    · right; exact beq_eq_false_iff_ne.2 h
  clear h5
  obtain ⟨nb, hnb⟩ : ∃ nb, nmB k = nb := ⟨_, rfl⟩
  have Hnb := Lib.hid hnb
  obtain ⟨na, hna⟩ : ∃ na, nameB nm = na := ⟨_, rfl⟩
  have Hna := Lib.hid hna
  clear hnb hna
  by_cases hq : nb = true ∧ na = false
  case pos =>
    obtain ⟨rfl, rfl⟩ := hq
    have H := Lib.hid (Hr.out.symm.trans (ck_3 Hfm.out H5.out Hnb.out Hna.out))
    have hk23 : (k != 2) = true ∧ (k != 3) = true := nm_23 Hnb.out
    obtain ⟨k2, k3⟩ := hk23
    rcases h5' with ⟨rfl, h6⟩ | h5'
    all_goals
      go_enter Try.func42, Try.ntmps42
      go_wp2_with (first
        | (go_at_call 53; apply Calls.mono; (with_reducible exact fields_r _ _ _ _ _ _ _ _ _ _ _ ats _ (HA.out.grew stable_p2 (by (repeat (first | exact Grew.refl _ | refine Grew.over ?_ _ | refine Grew.alloc ?_ _ | refine Grew.drew ?_ | refine Grew.drewN ?_ _)))) rfl); rw [Hf.out]; rintro e w1 ⟨rfl, hg1⟩; have Hg1 := Lib.hid (show Grew w w1 from Grew.trans (by (repeat (first | exact Grew.refl _ | refine Grew.over ?_ _ | refine Grew.alloc ?_ _ | refine Grew.drew ?_ | refine Grew.drewN ?_ _))) hg1); obtain ⟨hb1, x0, x1, x2, x3, x4, x5⟩ := HW.out.grew hg1; clear hg1)
        | (go_at_call 35; apply Calls.mono; (with_reducible exact name_e Hna.out); rintro e w' ⟨rfl, rfl⟩))
      go_ret
      exact ⟨ret_int H.out.symm, Hg1.out⟩
  have Hq := Lib.hid (show nmB k = false ∨ nameB nm = true by rw [Hnb.out, Hna.out]; cases nb <;> cases na <;> simp_all)
  have hq' : nb = false ∨ (nb = true ∧ na = true) := by cases nb <;> cases na <;> simp_all
  clear hq
  have Hbad := Lib.hid (fun h => Hr.out.symm.trans (ck_4 Hfm.out H5.out Hq.out h))
  have Hok := Lib.hid (fun h => Hr.out.symm.trans (ck_5 Hfm.out H5.out Hq.out h))
  have hcmb : (k = 5 ∧ lv < 6 ∧ nb = true ∧ na = true) ∨ ((k == 5) = false ∧ nb = false) ∨ ((k == 5) = false ∧ nb = true ∧ na = true) := by
    rcases h5' with ⟨h, h6⟩ | h
    · left
      have hn : nb = true := by rw [← Hnb.out, h]; rfl
      refine ⟨h, h6, hn, ?_⟩
      rcases hq' with h' | h'
      · rw [h'] at hn; cases hn
      · exact h'.2
    · right
      exact hq'.imp (fun h' => ⟨h, h'⟩) (fun h' => ⟨h, h'⟩)
  have hcmb2 : (k = 5 ∧ lv < 6 ∧ nb = true ∧ na = true) ∨ (k = 2 ∧ nb = false) ∨ (k = 3 ∧ nb = false) ∨ (((k == 5) = false ∧ (k != 2) = true ∧ (k != 3) = true) ∧ nb = true ∧ na = true) := by
    rcases hcmb with h | ⟨h, h'⟩ | ⟨h, h', h''⟩
    · exact Or.inl h
    · right
      rcases nm_no Hfm.out (Hnb.out.trans h') with h2 | h2
      · exact Or.inl ⟨h2, h'⟩
      · exact Or.inr (Or.inl ⟨h2, h'⟩)
    · exact Or.inr (Or.inr (Or.inr ⟨⟨h, nm_23 (Hnb.out.trans h')⟩, h', h''⟩))
  clear h5' hq' hcmb
  rcases hcmb2 with ⟨rfl, h6, rfl, rfl⟩ | ⟨rfl, rfl⟩ | ⟨rfl, rfl⟩ | ⟨⟨h5, k2, k3⟩, rfl, rfl⟩
  all_goals
    go_enter Try.func42, Try.ntmps42
    go_wp2_with (first
      | (go_at_call 53; apply Calls.mono; (with_reducible exact fields_r _ _ _ _ _ _ _ _ _ _ _ ats _ (HA.out.grew stable_p2 (by (repeat (first | exact Grew.refl _ | refine Grew.over ?_ _ | refine Grew.alloc ?_ _ | refine Grew.drew ?_ | refine Grew.drewN ?_ _)))) rfl); rw [Hf.out]; rintro e w1 ⟨rfl, hg1⟩; have Hg1 := Lib.hid (show Grew w w1 from Grew.trans (by (repeat (first | exact Grew.refl _ | refine Grew.over ?_ _ | refine Grew.alloc ?_ _ | refine Grew.drew ?_ | refine Grew.drewN ?_ _))) hg1); obtain ⟨hb1, x0, x1, x2, x3, x4, x5⟩ := HW.out.grew hg1; have Hg10 := Lib.hid hg1; clear hg1)
      | (go_at_call 35; apply Calls.mono; (with_reducible exact name_e Hna.out); rintro e w' ⟨rfl, rfl⟩))
    go_loopw [4] (fun i wr => ∃ j : Nat, j ≤ rs.length ∧ i = .int .i64 j ∧ (∀ (u : Nat) x, u < j → rs[u]? = some x → badR x = false) ∧ Grew w1 wr) (fun i _ => rs.length - (intOf i).toNat)
    case atStart => exact ⟨0, Nat.zero_le _, rfl, fun u x hu => by omega, by (repeat (first | exact Grew.refl _ | refine Grew.over ?_ _ | refine Grew.alloc ?_ _ | refine Grew.drew ?_ | refine Grew.drewN ?_ _))⟩
    case round =>
      obtain ⟨j, hj, rfl, hall, hg⟩ := hrel
      have Hall := Lib.hid hall
      have Hg := Lib.hid (Hg1.out.trans hg)
      have Hg2 := Lib.hid hg
      clear hall hg
      obtain ⟨hb1, x0, x1, x2, x3, x4, x5⟩ := (HW.out.grew Hg10.out).grew Hg2.out
      by_cases hlt : j < rs.length
      · obtain ⟨b, o, x, y, rfl, hb', hx, -, -, d0, d1⟩ := p2_el (HR.out.grew stable_p2 Hg.out) hlt
        have hbd : Hid (badR (x, y) = true → r = 5) := Lib.hid fun h => Hbad.out (any_get hx h)
        have Hx := Lib.hid hx
        have hy0 := empty_iff y
        clear hx
        cases hnx : nameB x
        · have H := Lib.hid (hbd.out (badR_y (Or.inl hnx)))
          have Hnx := Lib.hid hnx
          clear hnx
          go_wp2_with (first
            | (go_at_call 35; apply Calls.mono; (with_reducible exact name_e Hnx.out); rintro e w' ⟨rfl, rfl⟩)
            | (go_at_call 35; apply Calls.mono; (with_reducible exact name_e Hny.out); rintro e w' ⟨rfl, rfl⟩))
          go_ret
          exact ⟨ret_int H.out.symm, Hg.out.trans (by (repeat (first | exact Grew.refl _ | refine Grew.over ?_ _ | refine Grew.alloc ?_ _ | refine Grew.drew ?_ | refine Grew.drewN ?_ _)))⟩
        by_cases hyz : y.size = 0
        · have H := Lib.hid (badR_n hnx (Or.inl hyz))
          have Hnx := Lib.hid hnx
          rw [decide_eq_true hyz] at hy0
          clear hnx
          go_wp2_with (first
            | (go_at_call 35; apply Calls.mono; (with_reducible exact name_e Hnx.out); rintro e w' ⟨rfl, rfl⟩)
            | (go_at_call 35; apply Calls.mono; (with_reducible exact name_e Hny.out); rintro e w' ⟨rfl, rfl⟩))
          go_roundw
          case rel => exact ⟨j + 1, hlt, by go_num, fun u z hu hz => (by
            rcases Nat.lt_succ_iff_lt_or_eq.1 hu with h' | h'
            · exact Hall.out u z h' hz
            · rw [h', Hx.out] at hz; cases hz; exact H.out), Hg2.out.trans (by (repeat (first | exact Grew.refl _ | refine Grew.over ?_ _ | refine Grew.alloc ?_ _ | refine Grew.drew ?_ | refine Grew.drewN ?_ _)))⟩
          case measure => simp [intOf]; omega
        rw [decide_eq_false hyz] at hy0
        cases hny : nameB y
        · have H := Lib.hid (hbd.out (badR_y (Or.inr ⟨hyz, hny⟩)))
          have Hnx := Lib.hid hnx
          have Hny := Lib.hid hny
          clear hnx hny
          go_wp2_with (first
            | (go_at_call 35; apply Calls.mono; (with_reducible exact name_e Hnx.out); rintro e w' ⟨rfl, rfl⟩)
            | (go_at_call 35; apply Calls.mono; (with_reducible exact name_e Hny.out); rintro e w' ⟨rfl, rfl⟩))
          go_ret
          exact ⟨ret_int H.out.symm, Hg.out.trans (by (repeat (first | exact Grew.refl _ | refine Grew.over ?_ _ | refine Grew.alloc ?_ _ | refine Grew.drew ?_ | refine Grew.drewN ?_ _)))⟩
        · have H := Lib.hid (badR_n hnx (Or.inr hny))
          have Hnx := Lib.hid hnx
          have Hny := Lib.hid hny
          clear hnx hny
          go_wp2_with (first
            | (go_at_call 35; apply Calls.mono; (with_reducible exact name_e Hnx.out); rintro e w' ⟨rfl, rfl⟩)
            | (go_at_call 35; apply Calls.mono; (with_reducible exact name_e Hny.out); rintro e w' ⟨rfl, rfl⟩))
          go_roundw
          case rel => exact ⟨j + 1, hlt, by go_num, fun u z hu hz => (by
            rcases Nat.lt_succ_iff_lt_or_eq.1 hu with h' | h'
            · exact Hall.out u z h' hz
            · rw [h', Hx.out] at hz; cases hz; exact H.out), Hg2.out.trans (by (repeat (first | exact Grew.refl _ | refine Grew.over ?_ _ | refine Grew.alloc ?_ _ | refine Grew.drew ?_ | refine Grew.drewN ?_ _)))⟩
          case measure => simp [intOf]; omega
      · have H := Lib.hid (Hok.out (any_not (fun u x hx => Hall.out u x (by have := (List.getElem?_eq_some_iff.1 hx).1; omega) hx)))
        go_wp2_with (go_at_call 54; apply Calls.mono; (with_reducible exact attributes_r _ _ _ _ _ _ _ _ _ _ _ ats _ (HA.out.grew stable_p2 (Hg.out.trans (by (repeat (first | exact Grew.refl _ | refine Grew.over ?_ _ | refine Grew.alloc ?_ _ | refine Grew.drew ?_ | refine Grew.drewN ?_ _))))) rfl); rintro e w3 ⟨rfl, hg3⟩; have Hg3 := Lib.hid (Hg.out.trans (Grew.trans (by (repeat (first | exact Grew.refl _ | refine Grew.over ?_ _ | refine Grew.alloc ?_ _ | refine Grew.drew ?_ | refine Grew.drewN ?_ _))) hg3)); clear hg3)
        go_ret
        exact ⟨ret_int H.out.symm, Hg3.out⟩
end Go.Proofs.Ytbamckfjikpjlaa
