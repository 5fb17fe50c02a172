/- Cost of the program. -/
import Derived.Test.YtjodkhcgibabpaaAsgC
set_option linter.unusedSimpArgs false
set_option linter.unusedVariables false
namespace Go.Proofs.Ytjodkhcgibabpaa
open Go.RowKit

theorem contains_e {p : Option Addr} {n cap : Nat} {xs : List Int} {v : Int} {w : World} {b : Bool} (h : decide (v ∈ xs) = b) (hI : Ints w p xs) (hn : xs.length = n) :
    Calls Try.prog 20 #[.slice p n cap, .int .i64 v] w fun e w' => e = .returned (.bool b) ∧ w = w' := h ▸ contains_p p n cap xs v w hI hn

theorem any_badR {k : Nat} {xs : List Int} : xs.any (badR k) = false ↔ inK k xs := by
  rw [List.any_eq_false]
  unfold inK
  refine ⟨fun h x hx => ?_, fun h x hx => ?_⟩
  · have := h x hx
    unfold badR at this
    simp at this
    omega
  · have := h x hx
    unfold badR
    simp
    omega

set_option maxHeartbeats 4000000 in
theorem cost_p (p q : Option Addr) (n k cp cq : Nat) (m : List (List Int)) (xs : List Int) (w : World) (hM : Mat w p m) (hx : Ints w q xs) (hn : m.length = n) (hk : xs.length = k) (hcap : k ≤ cq) :
    Calls Try.prog 16 #[.slice p n cp, .slice q k cq] w fun e w' => e = .returned (.tuple #[.int .i64 (costS m xs).1, .int .i64 (costS m xs).2]) ∧ Grew w w' := by
  subst hn hk
  have hmm := hM.1
  have hmx := hx.1
  cases hv : vB m
  case false =>
    have Hf : Hid (costS m xs = (0, 1)) := Lib.hid (by unfold costS; rw [if_pos hv])
    go_enter Try.func16, Try.ntmps16
    go_wp2_with ((go_at_call 17; apply Calls.mono; (with_reducible exact valid_p _ _ _ _ _ (hM.grew (by (repeat (first | exact Grew.refl _ | refine Grew.over ?_ _ | refine Grew.alloc ?_ _ | refine Grew.drew ?_ | refine Grew.drewN ?_ _)))) rfl); rintro e w' ⟨rfl, x, rfl⟩))
    go_ret2
    rw [Hf.out]
    exact ⟨rfl, by (repeat (first | exact Grew.refl _ | refine Grew.over ?_ _ | refine Grew.alloc ?_ _ | refine Grew.drew ?_ | refine Grew.drewN ?_ _))⟩
  case true =>
  have hV := vB_iff.1 hv
  by_cases hl : xs.length = m.length
  case neg =>
    have Hf : Hid (costS m xs = (0, 3)) := Lib.hid (costS_len hv hl)
    have hl' : ((xs.length : Int) != (m.length : Int)) = true := by rw [bne_iff_ne]; omega
    clear hl
    go_enter Try.func16, Try.ntmps16
    go_wp2_with ((go_at_call 17; apply Calls.mono; (with_reducible exact valid_p _ _ _ _ _ (hM.grew (by (repeat (first | exact Grew.refl _ | refine Grew.over ?_ _ | refine Grew.alloc ?_ _ | refine Grew.drew ?_ | refine Grew.drewN ?_ _)))) rfl); rintro e w' ⟨rfl, x, rfl⟩))
    go_ret2
    rw [Hf.out]
    exact ⟨rfl, by (repeat (first | exact Grew.refl _ | refine Grew.over ?_ _ | refine Grew.alloc ?_ _ | refine Grew.drew ?_ | refine Grew.drewN ?_ _))⟩
  case pos =>
  have hl' : ((xs.length : Int) != (m.length : Int)) = false := by rw [hl]; simp
  have h16 := hV.n16
  have h16' : xs.length ≤ 16 := by omega
  by_cases h0 : m.length = 0
  case pos =>
    have hx0 : xs = [] := List.eq_nil_of_length_eq_zero (by omega)
    have Hf : Hid (costS m xs = (0, 0)) := Lib.hid (by
      rw [costS_ok hv hl (by rw [hx0]; intro x hx; cases hx) (by rw [hx0]; exact List.nodup_nil) (by rw [hx0]; intro i hi; cases hi), hx0]
      rfl)
    subst hx0
    have hm0 : m = [] := List.eq_nil_of_length_eq_zero h0
    subst hm0
    go_enter Try.func16, Try.ntmps16
    go_wp2_with (first | (go_at_call 17; apply Calls.mono; (with_reducible exact valid_p _ _ _ _ _ (hM.grew (by (repeat (first | exact Grew.refl _ | refine Grew.over ?_ _ | refine Grew.alloc ?_ _ | refine Grew.drew ?_ | refine Grew.drewN ?_ _)))) rfl); rintro e w' ⟨rfl, x, rfl⟩) | (go_at_call 23; apply Calls.mono; (with_reducible exact containsFunc_c _ _ _ _ _ (badR 0) _ (hx.grew (by (repeat (first | exact Grew.refl _ | refine Grew.over ?_ _ | refine Grew.alloc ?_ _ | refine Grew.drew ?_ | refine Grew.drewN ?_ _)))) rfl (fun h => absurd h (by decide))); rintro e w' ⟨rfl, rfl⟩))
    go_loopw [25] (fun i wr => i = .int .i64 0 ∧ Grew w wr) (fun i _ => 0)
    case atStart => exact ⟨rfl, by (repeat (first | exact Grew.refl _ | refine Grew.over ?_ _ | refine Grew.alloc ?_ _ | refine Grew.drew ?_ | refine Grew.drewN ?_ _))⟩
    case round =>
      obtain ⟨rfl, y, rfl⟩ := hrel
      go_wp2
      go_loopw [7, 39] (fun s i wr => s = .int .i64 0 ∧ i = .int .i64 0 ∧ Grew w wr) (fun _ i _ => 0)
      case atStart => exact ⟨rfl, rfl, by (repeat (first | exact Grew.refl _ | refine Grew.over ?_ _ | refine Grew.alloc ?_ _ | refine Grew.drew ?_ | refine Grew.drewN ?_ _))⟩
      case round =>
        obtain ⟨rfl, rfl, y, rfl⟩ := hrel
        go_wp2
        go_ret2
        rw [Hf.out]
        exact ⟨rfl, by (repeat (first | exact Grew.refl _ | refine Grew.over ?_ _ | refine Grew.alloc ?_ _ | refine Grew.drew ?_ | refine Grew.drewN ?_ _))⟩
  case neg =>
  obtain ⟨K, hK⟩ : ∃ K, kO m = K := ⟨_, rfl⟩
  have hk64 : K ≤ 64 := by rw [← hK]; exact hV.k64 (by omega)
  have hk1000 : K ≤ 1000 := by omega
  obtain ⟨b, o, rb, ro, rc, rfl, hA⟩ := matAt_of hM hV (by omega)
  have hn0 : 0 < m.length := by omega
  obtain ⟨r01, r02⟩ := hA.row 0 hn0
  have hAb := hA.hb
  rw [Nat.add_zero, hK] at r01
  have HA := Lib.hid hA
  have HK := Lib.hid hK
  have Hl := Lib.hid hl
  have HV := Lib.hid hV
  have Hv := Lib.hid hv
  have R01 := Lib.hid r01
  clear hV hl hK hA h0
  cases ha : xs.any (badR K)
  case true =>
    have Hf : Hid (costS m xs = (0, 3)) := Lib.hid (costS_in hv Hl.out (fun h => by rw [HK.out] at h; rw [any_badR.2 h] at ha; cases ha))
    clear r01
    go_enter Try.func16, Try.ntmps16
    go_wp2_with (first | (go_at_call 17; apply Calls.mono; (with_reducible exact valid_p _ _ _ _ _ (hM.grew (by (repeat (first | exact Grew.refl _ | refine Grew.over ?_ _ | refine Grew.alloc ?_ _ | refine Grew.drew ?_ | refine Grew.drewN ?_ _)))) rfl); rintro e w' ⟨rfl, x, rfl⟩) | (go_at_call 23; apply Calls.mono; (with_reducible exact containsFunc_c _ _ _ _ _ (badR K) _ (hx.grew (by (repeat (first | exact Grew.refl _ | refine Grew.over ?_ _ | refine Grew.alloc ?_ _ | refine Grew.drew ?_ | refine Grew.drewN ?_ _)))) rfl (fun _ c => cost1_p c _ m.length cp b o K (rc 0) _ _ (by simp [go_sem]) hn0 (by have := hAb; simp [go_sem]; omega) (Grew.cellEq (by (repeat (first | exact Grew.refl _ | refine Grew.over ?_ _ | refine Grew.alloc ?_ _ | refine Grew.drew ?_ | refine Grew.drewN ?_ _))) R01.out) hk1000)); rintro e w' ⟨rfl, rfl⟩))
    go_ret2
    rw [Hf.out]
    exact ⟨rfl, by (repeat (first | exact Grew.refl _ | refine Grew.over ?_ _ | refine Grew.alloc ?_ _ | refine Grew.drew ?_ | refine Grew.drewN ?_ _))⟩
  case false =>
  have hR := any_badR.1 ha
  rw [← HK.out] at hR
  have HR := Lib.hid hR
  clear hR r01
  obtain ⟨bx, ox, h1, c1⟩ := hx.open
  have C1 := Lib.hid c1
  clear c1
  obtain ⟨rfl, g1⟩ := h1 (by have := Hl.out; omega)
  clear h1
  go_enter Try.func16, Try.ntmps16
  go_wp2_with (first | (go_at_call 17; apply Calls.mono; (with_reducible exact valid_p _ _ _ _ _ (hM.grew (by (repeat (first | exact Grew.refl _ | refine Grew.over ?_ _ | refine Grew.alloc ?_ _ | refine Grew.drew ?_ | refine Grew.drewN ?_ _)))) rfl); rintro e w' ⟨rfl, x, rfl⟩) | (go_at_call 23; apply Calls.mono; (with_reducible exact containsFunc_c _ _ _ _ _ (badR K) _ (hx.grew (by (repeat (first | exact Grew.refl _ | refine Grew.over ?_ _ | refine Grew.alloc ?_ _ | refine Grew.drew ?_ | refine Grew.drewN ?_ _)))) rfl (fun _ c => cost1_p c _ m.length cp b o K (rc 0) _ _ (by simp [go_sem]) hn0 (by have := hAb; simp [go_sem]; omega) (Grew.cellEq (by (repeat (first | exact Grew.refl _ | refine Grew.over ?_ _ | refine Grew.alloc ?_ _ | refine Grew.drew ?_ | refine Grew.drewN ?_ _))) R01.out) hk1000)); rintro e w' ⟨rfl, rfl⟩))
  clear hv hl' ha
  go_loopw [6, 25] (fun _ i wr => ∃ j : Nat, j ≤ xs.length ∧ i = .int .i64 j ∧ (xs.take j).Nodup ∧ Grew w wr ∧ wr.cell? ⟨w.heap.size, 0, none⟩ = some (.slice (some ⟨b, o, none⟩) m.length cp)) (fun _ i _ => xs.length - (intOf i).toNat)
  case atStart => exact ⟨0, Nat.zero_le _, rfl, by simp, by (repeat (first | exact Grew.refl _ | refine Grew.over ?_ _ | refine Grew.alloc ?_ _ | refine Grew.drew ?_ | refine Grew.drewN ?_ _)), by simp [go_sem]⟩
  case round =>
    obtain ⟨j, hj, rfl, hnd, hg, hbox⟩ := hrel
    have Hnd := Lib.hid hnd
    have Hg := Lib.hid hg
    clear hnd
    have hsz := hg.below.size
    by_cases hlt : j < xs.length
    · have d1 := hg.cellEq (C1.out j hlt)
      have g1' : bx < wr.heap.size := by omega
      have hcj2 : j ≤ cq := by omega
      have htl : (xs.take j).length = j := by simp; omega
      have Htl := Lib.hid htl
      clear htl
      by_cases hin : decide (ge xs j ∈ xs.take j) = true
      · have Hin := Lib.hid hin
        clear hin
        have Hf : Hid (costS m xs = (0, 6)) := Lib.hid (costS_dup Hv.out Hl.out HR.out (not_nodup hlt (of_decide_eq_true Hin.out)))
        go_wp2
        refine wp_region_over (by kernel_rfl) (by kernel_rfl) ?_; (repeat (go_big_quiet_step ((go_at_call 20; apply over_callE; with_reducible exact contains_e Hin.out ((hx.take j).grew (Hg.out.trans (by (repeat (first | exact Grew.refl _ | refine Grew.over ?_ _ | refine Grew.alloc ?_ _ | refine Grew.drew ?_ | refine Grew.drewN ?_ _))))) Htl.out)))); refine wpQuiet_nil ?_; rintro _ ⟨x, rfl⟩
        go_wp2
        go_ret2
        rw [Hf.out]
        exact ⟨rfl, Hg.out.trans (by (repeat (first | exact Grew.refl _ | refine Grew.over ?_ _ | refine Grew.alloc ?_ _ | refine Grew.drew ?_ | refine Grew.drewN ?_ _)))⟩
      · have Hin := Lib.hid (show decide (ge xs j ∈ xs.take j) = false by simpa using hin)
        clear hin
        go_wp2
        refine wp_region_over (by kernel_rfl) (by kernel_rfl) ?_; (repeat (go_big_quiet_step ((go_at_call 20; apply over_callE; with_reducible exact contains_e Hin.out ((hx.take j).grew (Hg.out.trans (by (repeat (first | exact Grew.refl _ | refine Grew.over ?_ _ | refine Grew.alloc ?_ _ | refine Grew.drew ?_ | refine Grew.drewN ?_ _))))) Htl.out)))); refine wpQuiet_nil ?_; rintro _ ⟨x, rfl⟩
        go_wp2
        go_roundw
        case rel => exact ⟨j + 1, by omega, by go_num, nodup_take hlt Hnd.out (of_decide_eq_false Hin.out), Hg.out.trans (by (repeat (first | exact Grew.refl _ | refine Grew.over ?_ _ | refine Grew.alloc ?_ _ | refine Grew.drew ?_ | refine Grew.drewN ?_ _))), Grew.cellEq (by (repeat (first | exact Grew.refl _ | refine Grew.over ?_ _ | refine Grew.alloc ?_ _ | refine Grew.drew ?_ | refine Grew.drewN ?_ _))) hbox⟩
        case measure => simp [intOf]; omega
    · have Hn2 : Hid xs.Nodup := Lib.hid (by
        have := Hnd.out
        rwa [List.take_of_length_le (by omega)] at this)
      clear Hnd
      go_wp2
      go_loop [7, 8, 9, 39] (fun s _ _ i => ∃ j : Nat, j ≤ xs.length ∧ i = .int .i64 j ∧ s = .int .i64 (sumX m xs j) ∧ (∀ t, t < j → 0 ≤ at2 m t (ge xs t).toNat)) (fun _ _ _ i => xs.length - (intOf i).toNat)
      case atStart => exact ⟨0, Nat.zero_le _, rfl, rfl, fun t ht => by omega⟩
      case round =>
        obtain ⟨j, hj, rfl, rfl, hpos⟩ := hrel
        have Hpos := Lib.hid hpos
        obtain ⟨b1, b2⟩ := sumX_bd HV.out Hl.out HR.out j hj hpos
        clear hpos
        by_cases hlt3 : j < xs.length
        · have d1 := hg.cellEq (C1.out j hlt3)
          have g1' : bx < wr.heap.size := by omega
          have hjm : j < m.length := by have := Hl.out; omega
          obtain ⟨r1, r2⟩ := (HA.out.grew hg).row j hjm
          have r3 := (HA.out.grew hg).hb
          have hin := HR.out _ (ge_mem hlt3)
          rw [HK.out] at r1 hin
          obtain ⟨v, hv⟩ := Int.eq_ofNat_of_zero_le hin.1
          have hvK : v < K := by omega
          have r4 := (HA.out.grew hg).at' j v hjm (by rw [HK.out]; exact hvK)
          have hb := HV.out.b j hjm v (by rw [HK.out]; exact hvK)
          have hsx : sumX m xs (j + 1) = sumX m xs j + at2 m j v := by
            show sumX m xs j + at2 m j (ge xs j).toNat = _
            rw [hv]; rfl
          have Hsx := Lib.hid hsx
          have Hvv := Lib.hid hv
          obtain ⟨a, ha⟩ : ∃ a, at2 m j v = a := ⟨_, rfl⟩
          rw [ha] at r4 hb
          obtain ⟨hb1, hb2⟩ := hb
          rw [hv] at d1
          have Ha := Lib.hid ha
          obtain ⟨S, hS0⟩ : ∃ S, sumX m xs j = S := ⟨_, rfl⟩
          rw [hS0] at b1 b2 ⊢
          have HS0 := Lib.hid hS0
          clear hS0
          have hS : S ≤ 16000000 := by omega
          clear hin hsx hv ha b2
          by_cases hok : a < 0
          · have Hf : Hid (costS m xs = (0, 15)) := Lib.hid (costS_none Hv.out Hl.out HR.out Hn2.out (fun h => by
              have := h j hlt3
              rw [Hvv.out] at this
              simp only [Int.toNat_natCast] at this
              rw [Ha.out] at this
              omega))
            go_wp2
            go_ret2
            rw [Hf.out]
            exact ⟨rfl, Hg.out.trans (by (repeat (first | exact Grew.refl _ | refine Grew.over ?_ _ | refine Grew.alloc ?_ _ | refine Grew.drew ?_ | refine Grew.drewN ?_ _)))⟩
          · have Hp : Hid (0 ≤ at2 m j (ge xs j).toNat) := Lib.hid (by
              rw [Hvv.out]
              simp only [Int.toNat_natCast]
              rw [Ha.out]; omega)
            go_wp2
            go_round
            case rel =>
              refine ⟨j + 1, by omega, by go_num, ?_, fun t ht => ?_⟩
              · rw [Hsx.out, Ha.out, HS0.out]
              · by_cases h : t = j
                · rw [h]; exact Hp.out
                · exact Hpos.out t (by omega)
            case measure => simp [intOf]; omega
        · have hje : j = xs.length := by omega
          have Hf := Lib.hid (costS_ok Hv.out Hl.out HR.out Hn2.out (fun i hi => Hpos.out i (by omega)))
          subst hje
          go_wp2
          go_ret2
          rw [Hf.out]
          exact ⟨rfl, Hg.out.trans (by (repeat (first | exact Grew.refl _ | refine Grew.over ?_ _ | refine Grew.alloc ?_ _ | refine Grew.drew ?_ | refine Grew.drewN ?_ _)))⟩
end Go.Proofs.Ytjodkhcgibabpaa
