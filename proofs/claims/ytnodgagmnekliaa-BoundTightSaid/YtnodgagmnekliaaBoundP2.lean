/- Contracts of the program: Cost, Lower, and the library's Clone. -/
import Derived.Test.YtnodgagmnekliaaBoundP1
set_option linter.unusedSimpArgs false
set_option linter.unusedVariables false
namespace Go.Proofs.Ytnodgagmnekliaa
open Go.RowKit

theorem natL_take {xs : List Int} {i : Nat} (h : i < xs.length) : (natL xs).take (i + 1) = (natL xs).take i ++ [(ge xs i).toNat] := by
  unfold natL
  rw [List.take_succ_eq_append_getElem (by simpa using h)]
  simp [ge_eq xs h]
theorem costL_snoc (c : Nat → Nat → Int) (l : List Nat) (v : Nat) : costL c (l ++ [v]) = costL c l + sumL (fun a => c a v) l := by
  rw [costL_append]
  have : sumL (fun u => sumL (c u) [v]) l = sumL (fun a => c a v) l := sumL_congr fun u _ => by simp [sumL]
  rw [this]
  simp [costL, sumL]
theorem sumL_snoc {α : Type} (f : α → Int) (l : List α) (v : α) : sumL f (l ++ [v]) = sumL f l + f v := by
  rw [sumL_append]
  simp [sumL]

set_option maxHeartbeats 4000000 in
theorem cost_p (p q : Option Addr) (n k cp cq : Nat) (m : List (List Int)) (xs : List Int) (w : World) (hM : Mat w p m) (hx : Ints w q xs) (hn : m.length = n) (hk : xs.length = k) (hcap : k ≤ cq) :
    Calls Try.prog 18 #[.slice p n cp, .slice q k cq] w fun e w' => e = .returned (.tuple #[.int .i64 (costS m xs).1, .int .i64 (costS m xs).2]) ∧ Grew w w' := by
  subst hn hk
  have hmm := hM.1
  have hmx := hx.1
  cases hv : vMatB m
  case false =>
    have Hf : Hid (costS m xs = (0, 1)) := Lib.hid (by unfold costS; rw [if_pos hv])
    go_enter Try.func18, Try.ntmps18
    go_wp2_with ((go_at_call 19; apply Calls.mono; (with_reducible exact valid_p _ _ _ _ _ (hM.grew (by (repeat (first | exact Grew.refl _ | refine Grew.over ?_ _ | refine Grew.alloc ?_ _ | refine Grew.drew ?_ | refine Grew.drewN ?_ _)))) rfl); rintro e w' ⟨rfl, rfl⟩))
    go_ret2
    rw [Hf.out]
    exact ⟨rfl, by (repeat (first | exact Grew.refl _ | refine Grew.over ?_ _ | refine Grew.alloc ?_ _ | refine Grew.drew ?_ | refine Grew.drewN ?_ _))⟩
  case true =>
  have hV := vMatB_iff.1 hv
  by_cases hl : xs.length = m.length
  case neg =>
    have Hf : Hid (costS m xs = (0, 3)) := Lib.hid (by unfold costS; rw [if_neg (by simp [hv]), if_pos hl])
    have hl' : ((xs.length : Int) != (m.length : Int)) = true := by rw [bne_iff_ne]; omega
    clear hl
    go_enter Try.func18, Try.ntmps18
    go_wp2_with ((go_at_call 19; apply Calls.mono; (with_reducible exact valid_p _ _ _ _ _ (hM.grew (by (repeat (first | exact Grew.refl _ | refine Grew.over ?_ _ | refine Grew.alloc ?_ _ | refine Grew.drew ?_ | refine Grew.drewN ?_ _)))) rfl); rintro e w' ⟨rfl, rfl⟩))
    go_ret2
    rw [Hf.out]
    exact ⟨rfl, by (repeat (first | exact Grew.refl _ | refine Grew.over ?_ _ | refine Grew.alloc ?_ _ | refine Grew.drew ?_ | refine Grew.drewN ?_ _))⟩
  case pos =>
  have hl' : ((xs.length : Int) != (m.length : Int)) = false := by rw [hl]; simp
  have Hl := Lib.hid hl
  have HV := Lib.hid hV
  have h8 := hV.1
  have h8' : xs.length ≤ 8 := by omega
  clear hV hl
  cases ha : xs.any (badR m.length)
  case true =>
    have Hf : Hid (costS m xs = (0, 3)) := Lib.hid (by
      unfold costS
      rw [if_neg (by simp [hv]), if_neg (by simp [Hl.out]), if_pos]
      intro h
      obtain ⟨x, hx1, hx2⟩ := List.any_eq_true.1 ha
      have := h x hx1
      unfold badR at hx2
      simp at hx2
      omega)
    go_enter Try.func18, Try.ntmps18
    go_wp2_with (first | (go_at_call 19; apply Calls.mono; (with_reducible exact valid_p _ _ _ _ _ (hM.grew (by (repeat (first | exact Grew.refl _ | refine Grew.over ?_ _ | refine Grew.alloc ?_ _ | refine Grew.drew ?_ | refine Grew.drewN ?_ _)))) rfl); rintro e w' ⟨rfl, rfl⟩) | (go_at_call 24; apply Calls.mono; (with_reducible exact containsFunc_c _ _ _ _ _ (badR m.length) _ (hx.grew (by (repeat (first | exact Grew.refl _ | refine Grew.over ?_ _ | refine Grew.alloc ?_ _ | refine Grew.drew ?_ | refine Grew.drewN ?_ _)))) rfl (fun c => cost1_p c _ m.length cp p _ (by simp [go_sem]) hmm)); rintro e w' ⟨rfl, rfl⟩))
    go_ret2
    rw [Hf.out]
    exact ⟨rfl, by (repeat (first | exact Grew.refl _ | refine Grew.over ?_ _ | refine Grew.alloc ?_ _ | refine Grew.drew ?_ | refine Grew.drewN ?_ _))⟩
  case false =>
  have hR : ∀ x ∈ xs, 0 ≤ x ∧ x < (m.length : Int) := by
    intro x hx1
    have := List.any_eq_false.1 ha x hx1
    unfold badR at this
    simp at this
    omega
  have HR := Lib.hid hR
  have Hv := Lib.hid hv
  have hcell : ∀ x ∈ natL xs, ∀ y ∈ natL xs, 0 ≤ at2 m x y ∧ at2 m x y ≤ 1000000 := by
    intro x hx y hy
    obtain ⟨x', hx', rfl⟩ := List.mem_map.1 hx
    obtain ⟨y', hy', rfl⟩ := List.mem_map.1 hy
    have h1 := hR x' hx'
    have h2 := hR y' hy'
    exact (HV.out.2 _ (by omega)).2 _ (by omega)
  have hB : ∀ i, 0 ≤ costL (at2 m) ((natL xs).take i) ∧ costL (at2 m) ((natL xs).take i) ≤ 64000000 := by
    intro i
    have := costL_bd (c := at2 m) (l := (natL xs).take i) (fun x hx y hy => hcell x (List.mem_of_mem_take hx) y (List.mem_of_mem_take hy)) (by simp [natL]; omega)
    have hl : ((natL xs).take i).length ≤ 8 := by simp [natL]; omega
    omega
  have hS : ∀ v ∈ natL xs, ∀ j, 0 ≤ sumL (fun a => at2 m a v) ((natL xs).take j) ∧ sumL (fun a => at2 m a v) ((natL xs).take j) ≤ 8000000 := by
    intro v hv j
    have := sumL_bd (f := fun a => at2 m a v) (B := 1000000) (l := (natL xs).take j) fun y hy => hcell y (List.mem_of_mem_take hy) v hv
    have hl : ((natL xs).take j).length ≤ 8 := by simp [natL]; omega
    omega
  have HB := Lib.hid hB
  have HS := Lib.hid hS
  clear hcell hB hS hR
  obtain ⟨bx, ox, h1, c1⟩ := hx.open
  go_enter Try.func18, Try.ntmps18
  go_wp2_with (first | (go_at_call 19; apply Calls.mono; (with_reducible exact valid_p _ _ _ _ _ (hM.grew (by (repeat (first | exact Grew.refl _ | refine Grew.over ?_ _ | refine Grew.alloc ?_ _ | refine Grew.drew ?_ | refine Grew.drewN ?_ _)))) rfl); rintro e w' ⟨rfl, rfl⟩) | (go_at_call 24; apply Calls.mono; (with_reducible exact containsFunc_c _ _ _ _ _ (badR m.length) _ (hx.grew (by (repeat (first | exact Grew.refl _ | refine Grew.over ?_ _ | refine Grew.alloc ?_ _ | refine Grew.drew ?_ | refine Grew.drewN ?_ _)))) rfl (fun c => cost1_p c _ m.length cp p _ (by simp [go_sem]) hmm)); rintro e w' ⟨rfl, rfl⟩))
  clear hv hl' ha
  go_loop [6, 7, 8, 26] (fun s _ _ i => ∃ j : Nat, j ≤ xs.length ∧ i = .int .i64 j ∧ s = .int .i64 (costL (at2 m) ((natL xs).take j)) ∧ (xs.take j).Nodup) (fun _ _ _ i => xs.length - (intOf i).toNat)
  case atStart => exact ⟨0, Nat.zero_le _, rfl, rfl, by simp⟩
  case round =>
    obtain ⟨j, hj, rfl, rfl, hnd⟩ := hrel
    have Hnd := Lib.hid hnd
    clear hnd
    by_cases hlt : j < xs.length
    · obtain ⟨rfl, g1⟩ := h1 (by omega)
      have d1 := c1 j hlt
      have hcj : (j : Int) ≤ (cq : Int) := by omega
      have hcj2 : j ≤ cq := by omega
      obtain ⟨v, hv⟩ := Int.eq_ofNat_of_zero_le (HR.out _ (ge_mem hlt)).1
      have hvl : v < m.length := by have := (HR.out _ (ge_mem hlt)).2; omega
      have Hv2 := Lib.hid hv
      rw [hv] at d1
      have C1 := Lib.hid c1
      clear hv c1 h1
      go_wp2
      go_loop [6, 10, 35] (fun s _ i => ∃ t : Nat, t ≤ j ∧ i = .int .i64 t ∧ s = .int .i64 (costL (at2 m) ((natL xs).take j) + sumL (fun a => at2 m a v) ((natL xs).take t)) ∧ ∀ i', i' < t → ge xs i' ≠ (v : Int)) (fun _ _ i => j - (intOf i).toNat)
      case atStart => exact ⟨0, Nat.zero_le _, rfl, by simp [sumL], fun i' hi => by omega⟩
      case round =>
        obtain ⟨t, ht, rfl, rfl, hne⟩ := hrel
        have Hne := Lib.hid hne
        clear hne
        by_cases hlt2 : t < j
        · have d2 := C1.out t (by omega)
          obtain ⟨u, hu⟩ := Int.eq_ofNat_of_zero_le (HR.out _ (ge_mem (show t < xs.length by omega))).1
          have hul : u < m.length := by have := (HR.out _ (ge_mem (show t < xs.length by omega))).2; omega
          have Hu := Lib.hid hu
          rw [hu] at d2
          clear hu
          by_cases he : u = v
          · subst he
            have Hf : Hid (costS m xs = (0, 6)) := Lib.hid (by
              unfold costS
              rw [if_neg (by simp [Hv.out]), if_neg (by simp [Hl.out]), if_neg (by simp; exact fun x hx => HR.out x hx), if_pos]
              refine not_nodup hlt ?_
              rw [Hv2.out, ← Hu.out]
              exact take_mem hlt2 (by omega))
            go_wp2
            go_ret2
            rw [Hf.out]
            refine ⟨rfl, ?_⟩
            (repeat (first | exact Grew.refl _ | refine Grew.over ?_ _ | refine Grew.alloc ?_ _ | refine Grew.drew ?_ | refine Grew.drewN ?_ _))
          · have he' : ((u : Int) == (v : Int)) = false := by rw [beq_eq_false_iff_ne]; omega
            obtain ⟨b, o, rb, ro, rc, rfl, hbs, hrow⟩ := hM.valid HV.out (by omega)
            obtain ⟨r1, r2, r3⟩ := hrow u hul
            have r4 := r3 v hvl
            have hjm : v ∈ natL xs := List.mem_map.2 ⟨_, ge_mem hlt, by rw [Hv2.out]; rfl⟩
            obtain ⟨b1, b2⟩ := HB.out j
            obtain ⟨b3, b4⟩ := HS.out v hjm t
            obtain ⟨b5, b6⟩ := (HV.out.2 u hul).2 v hvl
            have Hnx : Hid (sumL (fun a => at2 m a v) ((natL xs).take (t + 1)) = sumL (fun a => at2 m a v) ((natL xs).take t) + at2 m u v) := Lib.hid (by
              rw [natL_take (by omega), sumL_snoc, Hu.out]
              rfl)
            generalize sumL (fun a => at2 m a v) ((natL xs).take t) = S2 at *
            generalize costL (at2 m) ((natL xs).take j) = S1 at *
            generalize hA : at2 m u v = A at *
            have HA := Lib.hid hA
            clear hrow r3 hjm hA hM
            go_wp2
            go_round
            case rel =>
              refine ⟨t + 1, by omega, by go_num, ?_, fun i' hi => ?_⟩
              · rw [Hnx.out, Int.add_assoc]
              · by_cases h : i' = t
                · rw [h, Hu.out]; omega
                · exact Hne.out i' (by omega)
            case measure => simp [intOf]; omega
        · have htj : t = j := by omega
          subst htj
          have Hnx : Hid (costL (at2 m) ((natL xs).take t) + sumL (fun a => at2 m a v) ((natL xs).take t) = costL (at2 m) ((natL xs).take (t + 1))) := Lib.hid (by
            rw [natL_take hlt, costL_snoc, Hv2.out]
            rfl)
          have Hn2 : Hid ((xs.take (t + 1)).Nodup) := Lib.hid (nodup_take hlt Hnd.out (fun h => by
            obtain ⟨i, h1, h2, h3⟩ := mem_take h
            exact Hne.out i h1 (by rw [h3, Hv2.out])))
          go_wp2
          go_round
          case rel => exact ⟨t + 1, by omega, by go_num, by rw [Hnx.out], Hn2.out⟩
          case measure => simp [intOf]; omega
    · have hjl : j = xs.length := by omega
      have Hf := Lib.hid (costS_ok Hv.out Hl.out (fun x hx => HR.out x hx) (by
        have := Hnd.out
        rwa [List.take_of_length_le (by omega)] at this))
      have Hc : Hid (costL (at2 m) ((natL xs).take j) = costL (at2 m) (natL xs)) := Lib.hid (by rw [List.take_of_length_le (by rw [natL_length]; omega)])
      clear hjl
      go_wp2
      go_ret2
      rw [Hf.out]
      refine ⟨?_, ?_⟩
      · rw [← Hc.out]
        rfl
      · (repeat (first | exact Grew.refl _ | refine Grew.over ?_ _ | refine Grew.alloc ?_ _ | refine Grew.drew ?_ | refine Grew.drewN ?_ _))

end Go.Proofs.Ytnodgagmnekliaa
