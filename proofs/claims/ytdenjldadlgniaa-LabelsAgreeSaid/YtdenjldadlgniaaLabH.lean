/- Check of the reference. -/
import Derived.Test.YtdenjldadlgniaaLabG
set_option linter.unusedSimpArgs false
set_option linter.unusedVariables false
namespace Go.Proofs.Ytdenjldadlgniaa
open Go.RowKit
attribute [local go_sem ↓] Go.wp_at_zero Go.wp_at_succ

theorem ge_take {xs : List Int} {k i : Nat} (h : i < k) : ge (xs.take k) i = ge xs i := by
  unfold ge
  simp [List.getD, List.getElem?_take, h]
theorem fitB_take {m : List (List Bx)} {xs : List Int} {j X : Nat} (hj : j ≤ xs.length) : fitB m (xs.take j) X = true ↔ ∀ i, i < j → ovB (bxAt m i (ge xs i).toNat) (bxAt m j X) = false := by
  have e : (xs.take j).length = j := by simp; omega
  unfold fitB
  rw [e, frB_true]
  exact ⟨fun h i hi => by have := h i hi; rwa [ge_take hi] at this, fun h i hi => by rw [ge_take hi]; exact h i hi⟩
set_option maxHeartbeats 8000000 in
theorem check_r50 (p q : Option Addr) (n k cp cq : Nat) (m : List (List Bx)) (xs : List Int) (w : World) (hM : BMat w p m) (hx : Ints w q xs) (hn : m.length = n) (hk : xs.length = k) (hcq : xs.length ≤ cq) (hcq2 : cq ≤ 9223372036854775807) :
    Calls Try.prog 13 #[.slice p n cp, .slice q k cq] w fun e w' => e = .returned (.bool (chB m xs)) ∧ Grew w w' := by
  subst hn hk
  have hmm := hM.1
  have hmx := hx.1
  cases hv : cB m
  case false =>
    have Hf := Lib.hid (chB_bad (xs := xs) hv)
    have Hv := Lib.hid hv
    go_enter Try.func13, Try.ntmps13
    go_wp2_with ((go_at_call 26; apply Calls.mono; (with_reducible exact boxesr_e Hv.out hM rfl); rintro e w' ⟨rfl, x, rfl⟩))
    go_ret
    exact ⟨ret_bool Hf.out.symm, by (repeat (first | exact Grew.refl _ | refine Grew.over ?_ _ | refine Grew.alloc ?_ _ | refine Grew.drew ?_ | refine Grew.drewN ?_ _))⟩
  case true =>
  have Hv := Lib.hid hv
  clear hv
  by_cases hl : xs.length = m.length
  case neg =>
    have Hf := Lib.hid (chB_no (m := m) (xs := xs) (fun h => hl h.1))
    have hl' : ((xs.length : Int) != (m.length : Int)) = true := by rw [bne_iff_ne]; omega
    clear hl
    go_enter Try.func13, Try.ntmps13
    go_wp2_with ((go_at_call 26; apply Calls.mono; (with_reducible exact boxesr_e Hv.out hM rfl); rintro e w' ⟨rfl, x, rfl⟩))
    go_ret
    exact ⟨ret_bool Hf.out.symm, by (repeat (first | exact Grew.refl _ | refine Grew.over ?_ _ | refine Grew.alloc ?_ _ | refine Grew.drew ?_ | refine Grew.drewN ?_ _))⟩
  case pos =>
  have hl' : ((xs.length : Int) != (m.length : Int)) = false := by rw [hl]; simp
  have h8 : xs.length ≤ 8 := by have := (cB_row Hv.out).1; omega
  have Hl := Lib.hid hl
  have HM := Lib.hid hM
  have HX := Lib.hid hx
  clear hl hM hx
  go_enter Try.func13, Try.ntmps13
  go_wp2_with ((go_at_call 26; apply Calls.mono; (with_reducible exact boxesr_e Hv.out HM.out rfl); rintro e w' ⟨rfl, x, rfl⟩))
  clear hl'
  go_loopw [5] (fun i wr => ∃ j : Nat, j ≤ xs.length ∧ i = .int .i64 j ∧ (∀ t, t < j → okX m xs t) ∧ Grew w wr) (fun i _ => xs.length - (intOf i).toNat)
  case atStart => exact ⟨0, Nat.zero_le _, rfl, fun t ht => by omega, by (repeat (first | exact Grew.refl _ | refine Grew.over ?_ _ | refine Grew.alloc ?_ _ | refine Grew.drew ?_ | refine Grew.drewN ?_ _))⟩
  case round =>
    obtain ⟨j, hj, rfl, hall, y, rfl⟩ := hrel
    have Hall := Lib.hid hall
    clear hall
    by_cases hlt : j < xs.length
    · have hXt := HX.out.take j
      have hXl : (xs.take j).length = j := by simp; omega
      obtain ⟨bx, ox, h1, c1⟩ := HX.out.open
      obtain ⟨rfl, g1⟩ := h1 (by omega)
      have d1 := c1 j hlt
      clear h1 c1
      have hjc : j < m.length := by have := Hl.out; omega
      have Hrng : Hid (Rng m (xs.take j)) := Lib.hid ⟨by rw [hXl]; omega, fun i hi => by
        rw [hXl] at hi
        rw [ge_take hi]
        exact ⟨(Hall.out i hi).1, (Hall.out i hi).2.1⟩⟩
      have HXt := Lib.hid hXt
      have HXl := Lib.hid hXl
      clear hXt hXl
      obtain ⟨b, o, rp, rc, hpe, hb, c0, hR⟩ := HM.out.row1 hjc
      subst hpe
      clear hR
      have Hno : Hid (¬ okX m xs j → chB m xs = false) := Lib.hid (fun h => chB_no fun g => h (g.2 j hlt))
      have hl16 := (cB_row Hv.out).2 j hjc
      have H16 := Lib.hid (cB_row Hv.out)
      obtain ⟨x, hxe⟩ : ∃ x, ge xs j = x := ⟨_, rfl⟩
      rw [hxe] at d1
      have Hxe := Lib.hid hxe
      clear hxe
      obtain ⟨L, hle⟩ : ∃ L, (bRow m j).length = L := ⟨_, rfl⟩
      rw [hle] at c0 hl16
      have Hle := Lib.hid hle
      clear hle
      by_cases e1 : x < 0
      · have Hf := Lib.hid (Hno.out (fun h => by have := h.1; rw [Hxe.out] at this; omega))
        go_wp2
        refine wp_region_over (by kernel_rfl) (by kernel_rfl) ?_; (repeat (go_big_quiet_step (fail))); refine wpQuiet_nil ?_; rintro _ ⟨x, rfl⟩
        go_wp2
        go_ret
        exact ⟨ret_bool Hf.out.symm, by (repeat (first | exact Grew.refl _ | refine Grew.over ?_ _ | refine Grew.alloc ?_ _ | refine Grew.drew ?_ | refine Grew.drewN ?_ _))⟩
      by_cases e2 : x < (L : Int)
      case neg =>
        have Hf := Lib.hid (Hno.out (fun h => by have := h.2.1; rw [Hxe.out, Hle.out] at this; omega))
        have e3 : (L : Int) ≤ x := by omega
        have e4 : 0 ≤ x := by omega
        have hd1 : decide (x < 0) = false := decide_eq_false e1
        have hd2 : decide ((L : Int) ≤ x) = true := decide_eq_true e3
        clear e1 e2
        go_wp2
        refine wp_region_over (by kernel_rfl) (by kernel_rfl) ?_; (repeat (go_big_quiet_step (fail))); refine wpQuiet_nil ?_; rintro _ ⟨x, rfl⟩
        go_wp2
        go_ret
        exact ⟨ret_bool Hf.out.symm, by (repeat (first | exact Grew.refl _ | refine Grew.over ?_ _ | refine Grew.alloc ?_ _ | refine Grew.drew ?_ | refine Grew.drewN ?_ _))⟩
      obtain ⟨X, rfl⟩ : ∃ X : Nat, x = (X : Int) := ⟨x.toNat, by omega⟩
      have hX : X < L := by omega
      have hd1 : decide ((X : Int) < 0) = false := decide_eq_false (by omega)
      have hd2 : decide (L ≤ X) = false := decide_eq_false (by omega)
      clear e1 e2
      obtain ⟨r, hr⟩ : ∃ r, fitB m (xs.take j) X = r := ⟨_, rfl⟩
      have Hr := Lib.hid hr
      clear hr
      have Hft := Lib.hid (fitB_take (m := m) (X := X) hj)
      have hXlt : X < (bRow m (xs.take j).length).length := by rw [HXl.out, Hle.out]; exact hX
      have Hargs := Lib.hid (show (xs.take j).length < m.length ∧ X < (bRow m (xs.take j).length).length from ⟨by rw [HXl.out]; exact hjc, hXlt⟩)
      clear hXlt
      cases r
      · have Hf := Lib.hid (Hno.out (fun h => by
          have h2 := Hft.out.2 (fun i hi => by have := h.2.2 i hi; rw [Hxe.out] at this; exact this)
          rw [Hr.out] at h2; cases h2))
        go_wp2
        refine wp_region_over (by kernel_rfl) (by kernel_rfl) ?_; (repeat (go_big_quiet_step ((go_at_call 29; apply over_call; with_reducible exact fitsr_e Hr.out (HM.out.grew (by (repeat (first | exact Grew.refl _ | refine Grew.over ?_ _ | refine Grew.alloc ?_ _ | refine Grew.drew ?_ | refine Grew.drewN ?_ _)))) (HXt.out.grew (by (repeat (first | exact Grew.refl _ | refine Grew.over ?_ _ | refine Grew.alloc ?_ _ | refine Grew.drew ?_ | refine Grew.drewN ?_ _)))) rfl HXl.out H16.out.1 Hrng.out Hargs.out.1 Hargs.out.2 H16.out.2)))); refine wpQuiet_nil ?_; rintro _ ⟨x, rfl⟩
        go_wp2
        go_ret
        exact ⟨ret_bool Hf.out.symm, by (repeat (first | exact Grew.refl _ | refine Grew.over ?_ _ | refine Grew.alloc ?_ _ | refine Grew.drew ?_ | refine Grew.drewN ?_ _))⟩
      · have Hok : Hid (okX m xs j) := Lib.hid ⟨by rw [Hxe.out]; omega, by rw [Hxe.out, Hle.out]; omega, fun i hi => by
          have := Hft.out.1 Hr.out i hi
          rw [Hxe.out]
          exact this⟩
        go_wp2
        refine wp_region_over (by kernel_rfl) (by kernel_rfl) ?_; (repeat (go_big_quiet_step ((go_at_call 29; apply over_call; with_reducible exact fitsr_e Hr.out (HM.out.grew (by (repeat (first | exact Grew.refl _ | refine Grew.over ?_ _ | refine Grew.alloc ?_ _ | refine Grew.drew ?_ | refine Grew.drewN ?_ _)))) (HXt.out.grew (by (repeat (first | exact Grew.refl _ | refine Grew.over ?_ _ | refine Grew.alloc ?_ _ | refine Grew.drew ?_ | refine Grew.drewN ?_ _)))) rfl HXl.out H16.out.1 Hrng.out Hargs.out.1 Hargs.out.2 H16.out.2)))); refine wpQuiet_nil ?_; rintro _ ⟨x, rfl⟩
        go_wp2
        go_roundw
        case rel =>
          refine ⟨j + 1, by omega, by go_num, fun t ht => ?_, by (repeat (first | exact Grew.refl _ | refine Grew.over ?_ _ | refine Grew.alloc ?_ _ | refine Grew.drew ?_ | refine Grew.drewN ?_ _))⟩
          by_cases h : t = j
          · rw [h]; exact Hok.out
          · exact Hall.out t (by omega)
        case measure => simp [intOf]; omega
    · have Hf : Hid (chB m xs = true) := Lib.hid (chB_ok Hv.out ⟨Hl.out, fun t ht => Hall.out t (by omega)⟩)
      go_wp2
      go_ret
      exact ⟨ret_bool Hf.out.symm, by (repeat (first | exact Grew.refl _ | refine Grew.over ?_ _ | refine Grew.alloc ?_ _ | refine Grew.drew ?_ | refine Grew.drewN ?_ _))⟩
theorem checkr_e {p q : Option Addr} {n k cp cq : Nat} {m : List (List Bx)} {xs : List Int} {w : World} {b : Bool} (h : chB m xs = b) (hM : BMat w p m) (hx : Ints w q xs) (hn : m.length = n) (hk : xs.length = k) (hcq : xs.length ≤ cq) (hcq2 : cq ≤ 9223372036854775807) :
    Calls Try.prog 13 #[.slice p n cp, .slice q k cq] w fun e w' => e = .returned (.bool b) ∧ Grew w w' := h ▸ check_r50 p q n k cp cq m xs w hM hx hn hk hcq hcq2
set_option maxHeartbeats 4000000 in
theorem valid50_r (p q : Option Addr) (n k cp cq : Nat) (m : List (List Bx)) (c : List (List Int)) (w : World) (hM : BMat w p m) (hC : Mat w q c) (hn : m.length = n) (hk : c.length = k) :
    Calls Try.prog 11 #[.slice p n cp, .slice q k cq] w fun e w' => e = .returned (.bool (vLB m c)) ∧ Grew w w' := by
  subst hn hk
  have hmm := hM.1
  have hmc := hC.1
  have HM := Lib.hid hM
  have HC := Lib.hid hC
  clear hM hC
  obtain ⟨r1, h1⟩ : ∃ r, cB m = r := ⟨_, rfl⟩
  obtain ⟨r2, h2⟩ : ∃ r, pB c = r := ⟨_, rfl⟩
  have H : Hid (vLB m c = (r1 && r2 && eqL m c)) := Lib.hid (by unfold vLB; rw [h1, h2])
  have H1 := Lib.hid h1
  have H2 := Lib.hid h2
  clear h1 h2
  cases r1
  · have Hf : Hid (vLB m c = false) := Lib.hid (by rw [H.out]; rfl)
    go_enter Try.func11, Try.ntmps11
    go_wp2_with ((go_at_call 26; apply Calls.mono; (with_reducible exact boxesr_e H1.out (HM.out.grew (by (repeat (first | exact Grew.refl _ | refine Grew.over ?_ _ | refine Grew.alloc ?_ _ | refine Grew.drew ?_ | refine Grew.drewN ?_ _)))) rfl); rintro e w' ⟨rfl, x, rfl⟩))
    go_ret; exact ⟨ret_bool Hf.out.symm, by (repeat (first | exact Grew.refl _ | refine Grew.over ?_ _ | refine Grew.alloc ?_ _ | refine Grew.drew ?_ | refine Grew.drewN ?_ _))⟩
  cases r2
  · have Hf : Hid (vLB m c = false) := Lib.hid (by rw [H.out]; rfl)
    go_enter Try.func11, Try.ntmps11
    go_wp2_with (first | (go_at_call 26; apply Calls.mono; (with_reducible exact boxesr_e H1.out (HM.out.grew (by (repeat (first | exact Grew.refl _ | refine Grew.over ?_ _ | refine Grew.alloc ?_ _ | refine Grew.drew ?_ | refine Grew.drewN ?_ _)))) rfl); rintro e w' ⟨rfl, x, rfl⟩) | (go_at_call 27; apply Calls.mono; (with_reducible exact numbersr_e H2.out (HC.out.grew (by (repeat (first | exact Grew.refl _ | refine Grew.over ?_ _ | refine Grew.alloc ?_ _ | refine Grew.drew ?_ | refine Grew.drewN ?_ _)))) rfl); rintro e w' ⟨rfl, rfl⟩))
    go_ret; exact ⟨ret_bool Hf.out.symm, by (repeat (first | exact Grew.refl _ | refine Grew.over ?_ _ | refine Grew.alloc ?_ _ | refine Grew.drew ?_ | refine Grew.drewN ?_ _))⟩
  have Hq : Hid (vLB m c = eqL m c) := Lib.hid (by rw [H.out]; rfl)
  clear H
  by_cases he : m.length = c.length
  case neg =>
    have Hf := Lib.hid (Hq.out.trans (eqL_no (m := m) (c := c) (fun h => he h.1)))
    have he2 : ((m.length : Int) != (c.length : Int)) = true := by rw [bne_iff_ne]; omega
    clear he
    go_enter Try.func11, Try.ntmps11
    go_wp2_with (first | (go_at_call 26; apply Calls.mono; (with_reducible exact boxesr_e H1.out (HM.out.grew (by (repeat (first | exact Grew.refl _ | refine Grew.over ?_ _ | refine Grew.alloc ?_ _ | refine Grew.drew ?_ | refine Grew.drewN ?_ _)))) rfl); rintro e w' ⟨rfl, x, rfl⟩) | (go_at_call 27; apply Calls.mono; (with_reducible exact numbersr_e H2.out (HC.out.grew (by (repeat (first | exact Grew.refl _ | refine Grew.over ?_ _ | refine Grew.alloc ?_ _ | refine Grew.drew ?_ | refine Grew.drewN ?_ _)))) rfl); rintro e w' ⟨rfl, rfl⟩))
    go_ret; exact ⟨ret_bool Hf.out.symm, by (repeat (first | exact Grew.refl _ | refine Grew.over ?_ _ | refine Grew.alloc ?_ _ | refine Grew.drew ?_ | refine Grew.drewN ?_ _))⟩
  have he2 : ((m.length : Int) != (c.length : Int)) = false := by rw [he]; simp
  have He := Lib.hid he
  clear he
  go_enter Try.func11, Try.ntmps11
  go_wp2_with (first | (go_at_call 26; apply Calls.mono; (with_reducible exact boxesr_e H1.out (HM.out.grew (by (repeat (first | exact Grew.refl _ | refine Grew.over ?_ _ | refine Grew.alloc ?_ _ | refine Grew.drew ?_ | refine Grew.drewN ?_ _)))) rfl); rintro e w' ⟨rfl, x, rfl⟩) | (go_at_call 27; apply Calls.mono; (with_reducible exact numbersr_e H2.out (HC.out.grew (by (repeat (first | exact Grew.refl _ | refine Grew.over ?_ _ | refine Grew.alloc ?_ _ | refine Grew.drew ?_ | refine Grew.drewN ?_ _)))) rfl); rintro e w' ⟨rfl, rfl⟩))
  clear he2
  go_loopw [5] (fun i wr => ∃ j : Nat, j ≤ m.length ∧ i = .int .i64 j ∧ (∀ t, t < j → (bRow m t).length = (rowOf c t).length) ∧ Grew w wr) (fun i _ => m.length - (intOf i).toNat)
  case atStart => exact ⟨0, Nat.zero_le _, rfl, fun t ht => by omega, by (repeat (first | exact Grew.refl _ | refine Grew.over ?_ _ | refine Grew.alloc ?_ _ | refine Grew.drew ?_ | refine Grew.drewN ?_ _))⟩
  case round =>
    obtain ⟨j, hj, rfl, hall, y, rfl⟩ := hrel
    have Hall := Lib.hid hall
    clear hall
    by_cases hlt : j < m.length
    · obtain ⟨b, o, rp, rc, hpe, hb, c0, hR⟩ := HM.out.row1 hlt
      subst hpe
      have hjc : j < c.length := by have := He.out; omega
      obtain ⟨b2, o2, rp2, rc2, hqe, hb2, c2, hR2⟩ := HC.out.row2 hjc
      subst hqe
      have hL1 := (cB_row H1.out).2 j hlt
      have hL2 := ((pB_row H2.out).2 j hjc).1
      have Heq : Hid ((bRow m j).length ≠ (rowOf c j).length → eqL m c = false) := Lib.hid (fun h => eqL_no fun g => h (g.2 j hlt))
      have h8 := (cB_row H1.out).1
      clear hR hR2
      obtain ⟨L, hLe⟩ : ∃ L, (bRow m j).length = L := ⟨_, rfl⟩
      rw [hLe] at c0 hL1 Heq
      have HLe := Lib.hid hLe
      clear hLe
      obtain ⟨L2, hLe⟩ : ∃ L, (rowOf c j).length = L := ⟨_, rfl⟩
      rw [hLe] at c2 hL2 Heq
      have HLe2 := Lib.hid hLe
      clear hLe
      by_cases e : L = L2
      · subst e
        go_wp2
        refine wp_region_over (by kernel_rfl) (by kernel_rfl) ?_; (repeat (go_big_quiet_step (fail))); refine wpQuiet_nil ?_; rintro _ ⟨x, rfl⟩
        go_wp2
        go_roundw
        case rel =>
          refine ⟨j + 1, by omega, by go_num, fun t ht => ?_, by (repeat (first | exact Grew.refl _ | refine Grew.over ?_ _ | refine Grew.alloc ?_ _ | refine Grew.drew ?_ | refine Grew.drewN ?_ _))⟩
          by_cases h : t = j
          · rw [h, HLe.out, HLe2.out]
          · exact Hall.out t (by omega)
        case measure => simp [intOf]; omega
      · have Hf := Lib.hid (Hq.out.trans (Heq.out e))
        have e2 : ((L : Int) != (L2 : Int)) = true := by rw [bne_iff_ne]; omega
        clear e
        go_wp2
        refine wp_region_over (by kernel_rfl) (by kernel_rfl) ?_; (repeat (go_big_quiet_step (fail))); refine wpQuiet_nil ?_; rintro _ ⟨x, rfl⟩
        go_wp2
        go_ret
        exact ⟨ret_bool Hf.out.symm, by (repeat (first | exact Grew.refl _ | refine Grew.over ?_ _ | refine Grew.alloc ?_ _ | refine Grew.drew ?_ | refine Grew.drewN ?_ _))⟩
    · have Hf : Hid (vLB m c = true) := Lib.hid (by rw [Hq.out]; exact decide_eq_true ⟨He.out, fun t ht => Hall.out t (by omega)⟩)
      go_wp2
      go_ret
      exact ⟨ret_bool Hf.out.symm, by (repeat (first | exact Grew.refl _ | refine Grew.over ?_ _ | refine Grew.alloc ?_ _ | refine Grew.drew ?_ | refine Grew.drewN ?_ _))⟩
theorem valid50r_e {p q : Option Addr} {n k cp cq : Nat} {m : List (List Bx)} {c : List (List Int)} {w : World} {b : Bool} (h : vLB m c = b) (hM : BMat w p m) (hC : Mat w q c) (hn : m.length = n) (hk : c.length = k) :
    Calls Try.prog 11 #[.slice p n cp, .slice q k cq] w fun e w' => e = .returned (.bool b) ∧ Grew w w' := h ▸ valid50_r p q n k cp cq m c w hM hC hn hk
end Go.Proofs.Ytdenjldadlgniaa
