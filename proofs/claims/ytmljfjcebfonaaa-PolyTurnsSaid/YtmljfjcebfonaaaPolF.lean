/- Length and Orthogonal of the reference. -/
import Derived.Test.YtmljfjcebfonaaaPolC
set_option linter.unusedSimpArgs false
set_option linter.unusedVariables false
namespace Go.Proofs.Ytmljfjcebfonaaa
open Go.RowKit
attribute [local go_sem ↓] Go.wp_at_zero Go.wp_at_succ

theorem dist_back {p q : Int × Int} (hp : vld p.1 p.2 = true) (hq : vld q.1 q.2 = true) : dist p q = max (q.1 - p.1) (-(q.1 - p.1)) + max (q.2 - p.2) (-(q.2 - p.2)) := by
  unfold dist
  rw [dst_yes hp hq]
  omega

set_option maxHeartbeats 2000000 in
theorem length_r (p : Option Addr) (n c : Nat) (E : List (Int × Int)) (w : World) (hP : Prs w p E) (hn : E.length = n) :
    Calls Try.prog 12 #[.slice p n c] w fun e w' => e = .returned (.int .i64 (lenF E)) ∧ Grew w w' := by
  subst hn
  have HP := Lib.hid hP
  cases hv : vPB E
  case false =>
    have Hv := Lib.hid hv
    have Hf : Hid (lenF E = 0) := Lib.hid (by unfold lenF; rw [hv]; rfl)
    clear hP hv
    go_enter Try.func12, Try.ntmps12
    go_wp2_with (go_at_call 10; apply Calls.mono; (with_reducible exact valid_re Hv.out HP.out rfl); rintro e w' ⟨rfl, x, rfl⟩)
    go_ret
    exact ⟨by rw [Hf.out]; rfl, by (repeat (first | exact Grew.refl _ | refine Grew.over ?_ _ | refine Grew.alloc ?_ _ | refine Grew.drew ?_ | refine Grew.drewN ?_ _))⟩
  have Hv := Lib.hid hv
  have HV := Lib.hid (vPB_iff.1 hv)
  have hl1 := (vPB_iff.1 hv).l1
  have hl2 := (vPB_iff.1 hv).l2
  have Hf : Hid (lenF E = lenK E (E.length - 1)) := Lib.hid (by unfold lenF; rw [hv]; rfl)
  clear hP hv
  go_enter Try.func12, Try.ntmps12
  go_wp2_with (go_at_call 10; apply Calls.mono; (with_reducible exact valid_re Hv.out HP.out rfl); rintro e w' ⟨rfl, x, rfl⟩)
  go_loopw [3, 4] (fun m i wr => ∃ k : Nat, k + 1 ≤ E.length ∧ i = .int .i64 ((k + 1 : Nat) : Int) ∧ m = .int .i64 (lenK E k) ∧ Grew w wr) (fun _ i _ => E.length - (intOf i).toNat)
  case atStart => exact ⟨0, by omega, rfl, rfl, by (repeat (first | exact Grew.refl _ | refine Grew.over ?_ _ | refine Grew.alloc ?_ _ | refine Grew.drew ?_ | refine Grew.drewN ?_ _))⟩
  case round =>
    obtain ⟨k, hk, rfl, rfl, hg⟩ := hrel
    have Hg := Lib.hid hg
    clear hg
    obtain ⟨y, hy⟩ : ∃ y, lenK E k = y := ⟨_, rfl⟩
    have hyb := lenK_bd E k
    rw [hy] at hyb ⊢
    have Hy := Lib.hid hy
    clear hy
    obtain ⟨hy1, hy2⟩ := hyb
    obtain ⟨k1, hk1⟩ : ∃ k1, k + 1 = k1 := ⟨_, rfl⟩
    by_cases hlt : k + 1 < E.length
    · obtain ⟨b, o, rfl, hb, hc⟩ := HP.out.cells (by omega)
      obtain ⟨c1, c2⟩ := hc wr Hg.out k (by omega)
      obtain ⟨d1, d2⟩ := hc wr Hg.out (k + 1) (by omega)
      have v1 := HV.out.ok k (by omega)
      have v2 := HV.out.ok (k + 1) (by omega)
      have hd := dist_back v1 v2
      obtain ⟨ax, hax⟩ : ∃ x, (pr E k).1 = x := ⟨_, rfl⟩
      obtain ⟨ay, hay⟩ : ∃ x, (pr E k).2 = x := ⟨_, rfl⟩
      obtain ⟨bx, hbx⟩ : ∃ x, (pr E (k + 1)).1 = x := ⟨_, rfl⟩
      obtain ⟨bZ, hbZ⟩ : ∃ x, (pr E (k + 1)).2 = x := ⟨_, rfl⟩
      rw [hax, hay, hbx, hbZ] at hd
      rw [hax] at c1 v1
      rw [hay] at c2 v1
      rw [hbx] at d1 v2
      rw [hbZ] at d2 v2
      obtain ⟨a1, a2, a3, a4⟩ := vld_iff.1 v1
      obtain ⟨b1, b2, b3, b4⟩ := vld_iff.1 v2
      obtain ⟨m1, m2, m3, m4⟩ := abs_bd ⟨b1, b2⟩ ⟨a1, a2⟩
      obtain ⟨n1, n2, n3, n4⟩ := abs_bd ⟨b3, b4⟩ ⟨a3, a4⟩
      obtain ⟨u, hu⟩ : ∃ u, max (bx - ax) (-(bx - ax)) = u := ⟨_, rfl⟩
      obtain ⟨v, hv⟩ : ∃ v, max (bZ - ay) (-(bZ - ay)) = v := ⟨_, rfl⟩
      have Hst : Hid (lenK E (k + 1) = y + u + v) := Lib.hid (by rw [lenK, hd, Hy.out, hu, hv]; omega)
      rw [hu] at m3 m4
      rw [hv] at n3 n4
      have HU := Lib.hid (fun W : World => (hu ▸ abs_r (bx - ax) W m1 m2 : Calls Try.prog 31 #[.int .i64 (bx - ax)] W fun e w' => e = .returned (.int .i64 u) ∧ W = w'))
      have HV2 := Lib.hid (fun W : World => (hv ▸ abs_r (bZ - ay) W n1 n2 : Calls Try.prog 31 #[.int .i64 (bZ - ay)] W fun e w' => e = .returned (.int .i64 v) ∧ W = w'))
      have hi3 : (k1 : Int) - 1 = (k : Int) := by omega
      have hlt1 : k1 < E.length := by omega
      rw [hk1] at d1 d2 ⊢
      have Hk1 := Lib.hid hk1
      have hsz := Hg.out.below.size
      have hk512 : k ≤ 512 := by omega
      clear hc hax hay hbx hbZ hd v1 v2 hu hv hk1 hlt hk
      go_upto_region 7 with fail
      refine wp_region_over (by kernel_rfl) (by kernel_rfl) ?_; (repeat (go_big_quiet_step (first | (go_at_call 31; apply over_callE; with_reducible exact HU.out _) | (go_at_call 31; apply over_callE; with_reducible exact HV2.out _)))); refine wpQuiet_nil ?_; rintro _ ⟨x, rfl⟩
      go_wp2
      go_roundw
      case rel => exact ⟨k + 1, by have := Hk1.out; omega, by have := Hk1.out; first | rfl | (congr 1; omega), by rw [Hst.out], Hg.out.trans (by (repeat (first | exact Grew.refl _ | refine Grew.over ?_ _ | refine Grew.alloc ?_ _ | refine Grew.drew ?_ | refine Grew.drewN ?_ _)))⟩
      case measure => have := Hk1.out; simp [intOf]; omega
    · have hke : Hid (k = E.length - 1) := Lib.hid (by omega)
      have hlt1 : ¬ k1 < E.length := by omega
      rw [hk1]
      clear hk hk1 hlt
      go_wp2
      go_ret
      exact ⟨by rw [Hf.out, ← hke.out, Hy.out]; rfl, Hg.out⟩
theorem length_re {p : Option Addr} {n c : Nat} {E : List (Int × Int)} {w : World} {b : Int} (h : lenF E = b) (hP : Prs w p E) (hn : E.length = n) :
    Calls Try.prog 12 #[.slice p n c] w fun e w' => e = .returned (.int .i64 b) ∧ Grew w w' := h ▸ length_r p n c E w hP hn

theorem orthF_iff {E : List (Int × Int)} (hv : vPB E = true) : orthF E = true ↔ ∀ i, i + 1 < E.length → hvB (pr E i) (pr E (i + 1)) = true := by
  unfold orthF
  rw [hv, Bool.true_and, List.all_eq_true]
  simp only [List.mem_range]
  exact ⟨fun h i hi => h i (by omega), fun h i hi => h i (by omega)⟩
theorem orthF_no {E : List (Int × Int)} {i : Nat} (hi : i + 1 < E.length) (h : hvB (pr E i) (pr E (i + 1)) = false) : orthF E = false := Bool.eq_false_iff.2 fun e => by
  have hv : vPB E = true := by
    unfold orthF at e
    exact (Bool.and_eq_true_iff.1 e).1
  rw [(orthF_iff hv).1 e i hi] at h
  cases h

set_option maxHeartbeats 2000000 in
theorem orth_r (p : Option Addr) (n c : Nat) (E : List (Int × Int)) (w : World) (hP : Prs w p E) (hn : E.length = n) :
    Calls Try.prog 18 #[.slice p n c] w fun e w' => e = .returned (.bool (orthF E)) ∧ Grew w w' := by
  subst hn
  have HP := Lib.hid hP
  cases hv : vPB E
  case false =>
    have Hv := Lib.hid hv
    have Hf : Hid (orthF E = false) := Lib.hid (by unfold orthF; rw [hv]; rfl)
    clear hP hv
    go_enter Try.func18, Try.ntmps18
    go_wp2_with (go_at_call 10; apply Calls.mono; (with_reducible exact valid_re Hv.out HP.out rfl); rintro e w' ⟨rfl, x, rfl⟩)
    go_ret
    exact ⟨by rw [Hf.out]; rfl, by (repeat (first | exact Grew.refl _ | refine Grew.over ?_ _ | refine Grew.alloc ?_ _ | refine Grew.drew ?_ | refine Grew.drewN ?_ _))⟩
  have Hv := Lib.hid hv
  have HV := Lib.hid (vPB_iff.1 hv)
  have hl1 := (vPB_iff.1 hv).l1
  have hl2 := (vPB_iff.1 hv).l2
  clear hP hv
  go_enter Try.func18, Try.ntmps18
  go_wp2_with (go_at_call 10; apply Calls.mono; (with_reducible exact valid_re Hv.out HP.out rfl); rintro e w' ⟨rfl, x, rfl⟩)
  go_loopw [3] (fun i wr => ∃ k : Nat, k + 1 ≤ E.length ∧ i = .int .i64 ((k + 1 : Nat) : Int) ∧ (∀ j, j < k → hvB (pr E j) (pr E (j + 1)) = true) ∧ Grew w wr) (fun i _ => E.length - (intOf i).toNat)
  case atStart => exact ⟨0, by omega, rfl, fun j hj => by omega, by (repeat (first | exact Grew.refl _ | refine Grew.over ?_ _ | refine Grew.alloc ?_ _ | refine Grew.drew ?_ | refine Grew.drewN ?_ _))⟩
  case round =>
    obtain ⟨k, hk, rfl, hall, hg⟩ := hrel
    have Hg := Lib.hid hg
    have Hall := Lib.hid hall
    clear hg hall
    obtain ⟨k1, hk1⟩ : ∃ k1, k + 1 = k1 := ⟨_, rfl⟩
    by_cases hlt : k + 1 < E.length
    · obtain ⟨b, o, rfl, hb, hc⟩ := HP.out.cells (by omega)
      obtain ⟨c1, c2⟩ := hc wr Hg.out k (by omega)
      obtain ⟨d1, d2⟩ := hc wr Hg.out (k + 1) (by omega)
      have hhv : hvB (pr E k) (pr E (k + 1)) = (decide ((pr E k).1 = (pr E (k + 1)).1) || decide ((pr E k).2 = (pr E (k + 1)).2)) := rfl
      have hno := orthF_no hlt
      obtain ⟨ax, hax⟩ : ∃ x, (pr E k).1 = x := ⟨_, rfl⟩
      obtain ⟨ay, hay⟩ : ∃ x, (pr E k).2 = x := ⟨_, rfl⟩
      obtain ⟨bx, hbx⟩ : ∃ x, (pr E (k + 1)).1 = x := ⟨_, rfl⟩
      obtain ⟨bZ, hbZ⟩ : ∃ x, (pr E (k + 1)).2 = x := ⟨_, rfl⟩
      rw [hax, hay, hbx, hbZ] at hhv
      rw [hax] at c1
      rw [hay] at c2
      rw [hbx] at d1
      rw [hbZ] at d2
      have hi3 : (k1 : Int) - 1 = (k : Int) := by omega
      have hlt1 : k1 < E.length := by omega
      rw [hk1] at d1 d2 ⊢
      have Hk1 := Lib.hid hk1
      have hsz := Hg.out.below.size
      by_cases h1 : bx = ax
      · subst h1
        have Hh : Hid (∀ j, j < k + 1 → hvB (pr E j) (pr E (j + 1)) = true) := Lib.hid (fun j hj => by
          by_cases e : j = k
          · subst e; rw [hhv]; simp
          · exact Hall.out j (by omega))
        clear hc hax hay hbx hbZ hk1 hlt hk hhv hno
        go_upto_region 6 with fail
        refine wp_region_over (by kernel_rfl) (by kernel_rfl) ?_; (repeat (go_big_quiet_step (fail))); refine wpQuiet_nil ?_; rintro _ ⟨x, rfl⟩
        go_wp2
        go_roundw
        case rel => exact ⟨k + 1, by have := Hk1.out; omega, by have := Hk1.out; first | rfl | (congr 1; omega), Hh.out, Hg.out.trans (by (repeat (first | exact Grew.refl _ | refine Grew.over ?_ _ | refine Grew.alloc ?_ _ | refine Grew.drew ?_ | refine Grew.drewN ?_ _)))⟩
        case measure => have := Hk1.out; simp [intOf]; omega
      have h1' : (bx != ax) = true := by rw [bne_iff_ne]; exact h1
      by_cases h2 : bZ = ay
      · subst h2
        have Hh : Hid (∀ j, j < k + 1 → hvB (pr E j) (pr E (j + 1)) = true) := Lib.hid (fun j hj => by
          by_cases e : j = k
          · subst e; rw [hhv]; simp
          · exact Hall.out j (by omega))
        clear hc hax hay hbx hbZ hk1 hlt hk hhv hno
        go_upto_region 6 with fail
        refine wp_region_over (by kernel_rfl) (by kernel_rfl) ?_; (repeat (go_big_quiet_step (fail))); refine wpQuiet_nil ?_; rintro _ ⟨x, rfl⟩
        go_wp2
        go_roundw
        case rel => exact ⟨k + 1, by have := Hk1.out; omega, by have := Hk1.out; first | rfl | (congr 1; omega), Hh.out, Hg.out.trans (by (repeat (first | exact Grew.refl _ | refine Grew.over ?_ _ | refine Grew.alloc ?_ _ | refine Grew.drew ?_ | refine Grew.drewN ?_ _)))⟩
        case measure => have := Hk1.out; simp [intOf]; omega
      · have Hf : Hid (orthF E = false) := Lib.hid (hno (by rw [hhv]; simp [Ne.symm h1, Ne.symm h2]))
        have h2' : (bZ != ay) = true := by rw [bne_iff_ne]; exact h2
        clear hc hax hay hbx hbZ hk1 hlt hk hhv hno
        go_upto_region 6 with fail
        refine wp_region_over (by kernel_rfl) (by kernel_rfl) ?_; (repeat (go_big_quiet_step (fail))); refine wpQuiet_nil ?_; rintro _ ⟨x, rfl⟩
        go_wp2
        go_ret
        exact ⟨by rw [Hf.out]; rfl, Hg.out.trans (by (repeat (first | exact Grew.refl _ | refine Grew.over ?_ _ | refine Grew.alloc ?_ _ | refine Grew.drew ?_ | refine Grew.drewN ?_ _)))⟩
    · have Hf : Hid (orthF E = true) := Lib.hid ((orthF_iff Hv.out).2 fun i hi => Hall.out i (by omega))
      have hlt1 : ¬ k1 < E.length := by omega
      rw [hk1]
      clear hk hk1 hlt
      go_wp2
      go_ret
      exact ⟨by rw [Hf.out]; rfl, Hg.out⟩
theorem orth_re {p : Option Addr} {n c : Nat} {E : List (Int × Int)} {w : World} {b : Bool} (h : orthF E = b) (hP : Prs w p E) (hn : E.length = n) :
    Calls Try.prog 18 #[.slice p n c] w fun e w' => e = .returned (.bool b) ∧ Grew w w' := h ▸ orth_r p n c E w hP hn
end Go.Proofs.Ytmljfjcebfonaaa
