/- Bends of the program and of the reference (printed by gen_pole.py). -/
import Derived.Test.YtmljfjcebfonaaaPolD
set_option linter.unusedSimpArgs false
set_option linter.unusedVariables false
namespace Go.Proofs.Ytmljfjcebfonaaa
open Go.RowKit
attribute [local go_sem ↓] Go.wp_at_zero Go.wp_at_succ

set_option maxHeartbeats 2000000 in
theorem bends_p (p : Option Addr) (n c : Nat) (E : List (Int × Int)) (w : World) (hP : Prs w p E) (hn : E.length = n) :
    Calls Try.prog 15 #[.slice p n c] w fun e w' => e = .returned (.int .i64 (benF E)) ∧ Grew w w' := by
  subst hn
  have HP := Lib.hid hP
  cases hv : vPB E
  case false =>
    have Hv := Lib.hid hv
    have Hf : Hid (benF E = 0) := Lib.hid (by unfold benF; rw [hv]; rfl)
    clear hP hv
    go_enter Try.func15, Try.ntmps15
    go_wp2_with (go_at_call 9; apply Calls.mono; (with_reducible exact valid_pe Hv.out HP.out rfl); rintro e w' ⟨rfl, x, rfl⟩)
    go_ret
    exact ⟨by rw [Hf.out]; rfl, by (repeat (first | exact Grew.refl _ | refine Grew.over ?_ _ | refine Grew.alloc ?_ _ | refine Grew.drew ?_ | refine Grew.drewN ?_ _))⟩
  have Hv := Lib.hid hv
  have HV := Lib.hid (vPB_iff.1 hv)
  have hl1 := (vPB_iff.1 hv).l1
  have hl2 := (vPB_iff.1 hv).l2
  have Hf : Hid (benF E = benK E (E.length - 2)) := Lib.hid (by unfold benF; rw [hv]; rfl)
  clear hP hv
  go_enter Try.func15, Try.ntmps15
  go_wp2_with (go_at_call 9; apply Calls.mono; (with_reducible exact valid_pe Hv.out HP.out rfl); rintro e w' ⟨rfl, x, rfl⟩)
  go_loopw [3, 4] (fun m i wr => ∃ k : Nat, (k + 2 ≤ E.length ∨ k = 0) ∧ i = .int .i64 ((k : Int) + 1) ∧ m = .int .i64 (benK E k) ∧ Grew w wr) (fun _ i _ => E.length - (intOf i).toNat)
  case atStart => exact ⟨0, Or.inr rfl, rfl, rfl, by (repeat (first | exact Grew.refl _ | refine Grew.over ?_ _ | refine Grew.alloc ?_ _ | refine Grew.drew ?_ | refine Grew.drewN ?_ _))⟩
  case round =>
    obtain ⟨k, hk, rfl, rfl, hg⟩ := hrel
    have Hg := Lib.hid hg
    clear hg
    obtain ⟨y, hy⟩ : ∃ y, benK E k = y := ⟨_, rfl⟩
    have hyb := benK_bd E k
    rw [hy] at hyb ⊢
    have Hy := Lib.hid hy
    clear hy
    obtain ⟨hy1, hy2⟩ := hyb
    have hwk : IntKind.i64.wrap ((k : Int) + 1 + 1) = (k : Int) + 2 := by rw [IntWalk.i64_in _ ⟨by omega, by omega⟩]; omega
    by_cases hlt : k + 2 < E.length
    · obtain ⟨b, o, rfl, hb, hc⟩ := HP.out.cells (by omega)
      obtain ⟨c1, c2⟩ := hc wr Hg.out k (by omega)
      obtain ⟨d1, d2⟩ := hc wr Hg.out (k + 1) (by omega)
      obtain ⟨e1, e2⟩ := hc wr Hg.out (k + 2) (by omega)
      have v1 := HV.out.ok k (by omega)
      have v2 := HV.out.ok (k + 1) (by omega)
      have v3 := HV.out.ok (k + 2) (by omega)
      obtain ⟨ax, hax⟩ : ∃ x, (pr E k).1 = x := ⟨_, rfl⟩
      obtain ⟨ay, hay⟩ : ∃ x, (pr E k).2 = x := ⟨_, rfl⟩
      obtain ⟨bx, hbx⟩ : ∃ x, (pr E (k + 1)).1 = x := ⟨_, rfl⟩
      obtain ⟨bZ, hbZ⟩ : ∃ x, (pr E (k + 1)).2 = x := ⟨_, rfl⟩
      obtain ⟨cx, hcx⟩ : ∃ x, (pr E (k + 2)).1 = x := ⟨_, rfl⟩
      obtain ⟨cy, hcy⟩ : ∃ x, (pr E (k + 2)).2 = x := ⟨_, rfl⟩
      have hst : benK E (k + 1) = y + if benB ax ay bx bZ cx cy then 1 else 0 := by rw [benK, bend3_eq, hax, hay, hbx, hbZ, hcx, hcy, Hy.out]
      rw [hax] at c1 v1
      rw [hay] at c2 v1
      rw [hbx] at d1 v2
      rw [hbZ] at d2 v2
      rw [hcx] at e1 v3
      rw [hcy] at e2 v3
      have V1 := Lib.hid v1
      have V2 := Lib.hid v2
      have V3 := Lib.hid v3
      obtain ⟨k1, hk1⟩ : ∃ k1, k + 1 = k1 := ⟨_, rfl⟩
      obtain ⟨k2, hk2⟩ : ∃ k2, k + 2 = k2 := ⟨_, rfl⟩
      have hi1 : (k : Int) + 1 = (k1 : Int) := by omega
      have hi2 : (k1 : Int) + 1 = (k2 : Int) := by omega
      have hi3 : (k1 : Int) - 1 = (k : Int) := by omega
      have hlt1 : k1 < E.length := by omega
      have hlt2 : k2 < E.length := by omega
      have hlt0 : k < E.length := by omega
      rw [hk1] at d1 d2
      rw [hk2] at e1 e2
      rw [hi1]
      have Hk1 := Lib.hid hk1
      have Hk2 := Lib.hid hk2
      have hsz := Hg.out.below.size
      cases hbe : benB ax ay bx bZ cx cy
      · have Hb := Lib.hid hbe
        have Hst : Hid (benK E (k + 1) = y) := Lib.hid (by rw [hst, hbe]; simp)
        clear hc hax hay hbx hbZ hcx hcy hst hbe v1 v2 v3 hwk hk1 hk2 hlt hk hi1
        go_upto_region 7 with fail
        refine wp_region_over (by kernel_rfl) (by kernel_rfl) ?_; (repeat (go_big_quiet_step ((go_at_call 32; apply over_call; with_reducible exact bend_pe Hb.out V1.out V2.out V3.out _)))); refine wpQuiet_nil ?_; rintro _ ⟨x, rfl⟩
        go_wp2
        go_roundw
        case rel => exact ⟨k + 1, Or.inl (by have := Hk2.out; omega), by have := Hk1.out; have := Hk2.out; first | rfl | (congr 1; omega), by rw [Hst.out], Hg.out.trans (by (repeat (first | exact Grew.refl _ | refine Grew.over ?_ _ | refine Grew.alloc ?_ _ | refine Grew.drew ?_ | refine Grew.drewN ?_ _)))⟩
        case measure => have := Hk1.out; have := Hk2.out; simp [intOf]; omega
      · have Hb := Lib.hid hbe
        have Hst : Hid (benK E (k + 1) = y + 1) := Lib.hid (by rw [hst, hbe]; simp)
        clear hc hax hay hbx hbZ hcx hcy hst hbe v1 v2 v3 hwk hk1 hk2 hlt hk hi1
        go_upto_region 7 with fail
        refine wp_region_over (by kernel_rfl) (by kernel_rfl) ?_; (repeat (go_big_quiet_step ((go_at_call 32; apply over_call; with_reducible exact bend_pe Hb.out V1.out V2.out V3.out _)))); refine wpQuiet_nil ?_; rintro _ ⟨x, rfl⟩
        go_wp2
        go_roundw
        case rel => exact ⟨k + 1, Or.inl (by have := Hk2.out; omega), by have := Hk1.out; have := Hk2.out; first | rfl | (congr 1; omega), by rw [Hst.out], Hg.out.trans (by (repeat (first | exact Grew.refl _ | refine Grew.over ?_ _ | refine Grew.alloc ?_ _ | refine Grew.drew ?_ | refine Grew.drewN ?_ _)))⟩
        case measure => have := Hk1.out; have := Hk2.out; simp [intOf]; omega
    · have hke : Hid (k = E.length - 2) := Lib.hid (by omega)
      have hlti : ¬ (k : Int) + 2 < (E.length : Int) := by omega
      clear hk
      go_wp2
      go_ret
      exact ⟨by rw [Hf.out, ← hke.out, Hy.out]; rfl, Hg.out⟩
theorem bends_pe {p : Option Addr} {n c : Nat} {E : List (Int × Int)} {w : World} {b : Int} (h : benF E = b) (hP : Prs w p E) (hn : E.length = n) :
    Calls Try.prog 15 #[.slice p n c] w fun e w' => e = .returned (.int .i64 b) ∧ Grew w w' := h ▸ bends_p p n c E w hP hn

set_option maxHeartbeats 2000000 in
theorem bends_r (p : Option Addr) (n c : Nat) (E : List (Int × Int)) (w : World) (hP : Prs w p E) (hn : E.length = n) :
    Calls Try.prog 16 #[.slice p n c] w fun e w' => e = .returned (.int .i64 (benF E)) ∧ Grew w w' := by
  subst hn
  have HP := Lib.hid hP
  cases hv : vPB E
  case false =>
    have Hv := Lib.hid hv
    have Hf : Hid (benF E = 0) := Lib.hid (by unfold benF; rw [hv]; rfl)
    clear hP hv
    go_enter Try.func16, Try.ntmps16
    go_wp2_with (go_at_call 10; apply Calls.mono; (with_reducible exact valid_re Hv.out HP.out rfl); rintro e w' ⟨rfl, x, rfl⟩)
    go_ret
    exact ⟨by rw [Hf.out]; rfl, by (repeat (first | exact Grew.refl _ | refine Grew.over ?_ _ | refine Grew.alloc ?_ _ | refine Grew.drew ?_ | refine Grew.drewN ?_ _))⟩
  have Hv := Lib.hid hv
  have HV := Lib.hid (vPB_iff.1 hv)
  have hl1 := (vPB_iff.1 hv).l1
  have hl2 := (vPB_iff.1 hv).l2
  have Hf : Hid (benF E = benK E (E.length - 2)) := Lib.hid (by unfold benF; rw [hv]; rfl)
  clear hP hv
  go_enter Try.func16, Try.ntmps16
  go_wp2_with (go_at_call 10; apply Calls.mono; (with_reducible exact valid_re Hv.out HP.out rfl); rintro e w' ⟨rfl, x, rfl⟩)
  go_loopw [3, 4] (fun m i wr => ∃ k : Nat, (k + 2 ≤ E.length ∨ k = 0) ∧ i = .int .i64 ((k : Int) + 1) ∧ m = .int .i64 (benK E k) ∧ Grew w wr) (fun _ i _ => E.length - (intOf i).toNat)
  case atStart => exact ⟨0, Or.inr rfl, rfl, rfl, by (repeat (first | exact Grew.refl _ | refine Grew.over ?_ _ | refine Grew.alloc ?_ _ | refine Grew.drew ?_ | refine Grew.drewN ?_ _))⟩
  case round =>
    obtain ⟨k, hk, rfl, rfl, hg⟩ := hrel
    have Hg := Lib.hid hg
    clear hg
    obtain ⟨y, hy⟩ : ∃ y, benK E k = y := ⟨_, rfl⟩
    have hyb := benK_bd E k
    rw [hy] at hyb ⊢
    have Hy := Lib.hid hy
    clear hy
    obtain ⟨hy1, hy2⟩ := hyb
    have hwk : IntKind.i64.wrap ((k : Int) + 1 + 1) = (k : Int) + 2 := by rw [IntWalk.i64_in _ ⟨by omega, by omega⟩]; omega
    by_cases hlt : k + 2 < E.length
    · obtain ⟨b, o, rfl, hb, hc⟩ := HP.out.cells (by omega)
      obtain ⟨c1, c2⟩ := hc wr Hg.out k (by omega)
      obtain ⟨d1, d2⟩ := hc wr Hg.out (k + 1) (by omega)
      obtain ⟨e1, e2⟩ := hc wr Hg.out (k + 2) (by omega)
      have v1 := HV.out.ok k (by omega)
      have v2 := HV.out.ok (k + 1) (by omega)
      have v3 := HV.out.ok (k + 2) (by omega)
      obtain ⟨ax, hax⟩ : ∃ x, (pr E k).1 = x := ⟨_, rfl⟩
      obtain ⟨ay, hay⟩ : ∃ x, (pr E k).2 = x := ⟨_, rfl⟩
      obtain ⟨bx, hbx⟩ : ∃ x, (pr E (k + 1)).1 = x := ⟨_, rfl⟩
      obtain ⟨bZ, hbZ⟩ : ∃ x, (pr E (k + 1)).2 = x := ⟨_, rfl⟩
      obtain ⟨cx, hcx⟩ : ∃ x, (pr E (k + 2)).1 = x := ⟨_, rfl⟩
      obtain ⟨cy, hcy⟩ : ∃ x, (pr E (k + 2)).2 = x := ⟨_, rfl⟩
      have hst : benK E (k + 1) = y + if benB ax ay bx bZ cx cy then 1 else 0 := by rw [benK, bend3_eq, hax, hay, hbx, hbZ, hcx, hcy, Hy.out]
      rw [hax] at c1 v1
      rw [hay] at c2 v1
      rw [hbx] at d1 v2
      rw [hbZ] at d2 v2
      rw [hcx] at e1 v3
      rw [hcy] at e2 v3
      have V1 := Lib.hid v1
      have V2 := Lib.hid v2
      have V3 := Lib.hid v3
      obtain ⟨k1, hk1⟩ : ∃ k1, k + 1 = k1 := ⟨_, rfl⟩
      obtain ⟨k2, hk2⟩ : ∃ k2, k + 2 = k2 := ⟨_, rfl⟩
      have hi1 : (k : Int) + 1 = (k1 : Int) := by omega
      have hi2 : (k1 : Int) + 1 = (k2 : Int) := by omega
      have hi3 : (k1 : Int) - 1 = (k : Int) := by omega
      have hlt1 : k1 < E.length := by omega
      have hlt2 : k2 < E.length := by omega
      have hlt0 : k < E.length := by omega
      rw [hk1] at d1 d2
      rw [hk2] at e1 e2
      rw [hi1]
      have Hk1 := Lib.hid hk1
      have Hk2 := Lib.hid hk2
      have hsz := Hg.out.below.size
      cases hbe : benB ax ay bx bZ cx cy
      · have Hb := Lib.hid hbe
        have Hst : Hid (benK E (k + 1) = y) := Lib.hid (by rw [hst, hbe]; simp)
        clear hc hax hay hbx hbZ hcx hcy hst hbe v1 v2 v3 hwk hk1 hk2 hlt hk hi1
        go_upto_region 7 with fail
        refine wp_region_over (by kernel_rfl) (by kernel_rfl) ?_; (repeat (go_big_quiet_step ((go_at_call 33; apply over_call; with_reducible exact bend_re Hb.out V1.out V2.out V3.out _)))); refine wpQuiet_nil ?_; rintro _ ⟨x, rfl⟩
        go_wp2
        go_roundw
        case rel => exact ⟨k + 1, Or.inl (by have := Hk2.out; omega), by have := Hk1.out; have := Hk2.out; first | rfl | (congr 1; omega), by rw [Hst.out], Hg.out.trans (by (repeat (first | exact Grew.refl _ | refine Grew.over ?_ _ | refine Grew.alloc ?_ _ | refine Grew.drew ?_ | refine Grew.drewN ?_ _)))⟩
        case measure => have := Hk1.out; have := Hk2.out; simp [intOf]; omega
      · have Hb := Lib.hid hbe
        have Hst : Hid (benK E (k + 1) = y + 1) := Lib.hid (by rw [hst, hbe]; simp)
        clear hc hax hay hbx hbZ hcx hcy hst hbe v1 v2 v3 hwk hk1 hk2 hlt hk hi1
        go_upto_region 7 with fail
        refine wp_region_over (by kernel_rfl) (by kernel_rfl) ?_; (repeat (go_big_quiet_step ((go_at_call 33; apply over_call; with_reducible exact bend_re Hb.out V1.out V2.out V3.out _)))); refine wpQuiet_nil ?_; rintro _ ⟨x, rfl⟩
        go_wp2
        go_roundw
        case rel => exact ⟨k + 1, Or.inl (by have := Hk2.out; omega), by have := Hk1.out; have := Hk2.out; first | rfl | (congr 1; omega), by rw [Hst.out], Hg.out.trans (by (repeat (first | exact Grew.refl _ | refine Grew.over ?_ _ | refine Grew.alloc ?_ _ | refine Grew.drew ?_ | refine Grew.drewN ?_ _)))⟩
        case measure => have := Hk1.out; have := Hk2.out; simp [intOf]; omega
    · have hke : Hid (k = E.length - 2) := Lib.hid (by omega)
      have hlti : ¬ (k : Int) + 2 < (E.length : Int) := by omega
      clear hk
      go_wp2
      go_ret
      exact ⟨by rw [Hf.out, ← hke.out, Hy.out]; rfl, Hg.out⟩
theorem bends_re {p : Option Addr} {n c : Nat} {E : List (Int × Int)} {w : World} {b : Int} (h : benF E = b) (hP : Prs w p E) (hn : E.length = n) :
    Calls Try.prog 16 #[.slice p n c] w fun e w' => e = .returned (.int .i64 b) ∧ Grew w w' := h ▸ bends_r p n c E w hP hn
end Go.Proofs.Ytmljfjcebfonaaa
