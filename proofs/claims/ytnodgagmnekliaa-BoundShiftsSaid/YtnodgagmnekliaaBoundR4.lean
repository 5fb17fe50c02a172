/- Contract of the reference: Cost. -/
import Derived.Test.YtnodgagmnekliaaBoundR3
set_option linter.unusedSimpArgs false
set_option linter.unusedVariables false
namespace Go.Proofs.Ytnodgagmnekliaa
open Go.RowKit

def inR (n : Nat) (xs : List Int) : Prop := ∀ x ∈ xs, 0 ≤ x ∧ x < n
instance (n : Nat) (xs : List Int) : Decidable (inR n xs) := by unfold inR; exact inferInstance
/-- The cost of an order, or the error. -/
def costS (m : List (List Int)) (xs : List Int) : Int × Int :=
  if vMatB m = false then (0, 1) else if xs.length ≠ m.length then (0, 3) else if ¬ inR m.length xs then (0, 3) else if ¬ xs.Nodup then (0, 6) else (costL (at2 m) (natL xs), 0)
theorem costS_ok {m : List (List Int)} {xs : List Int} (h1 : vMatB m = true) (h2 : xs.length = m.length) (h3 : inR m.length xs) (h4 : xs.Nodup) : costS m xs = (costL (at2 m) (natL xs), 0) := by
  unfold costS
  rw [if_neg (by simp [h1]), if_neg (by simp [h2]), if_neg (by simp [h3]), if_neg (by simp [h4])]

theorem Ints.take {w : World} {p : Option Addr} {xs : List Int} (h : Ints w p xs) (k : Nat) : Ints w p (xs.take k) := by
  obtain ⟨h1, h2, b, o, h3, h4⟩ := h
  refine ⟨by simp; omega, fun x hx => h2 x (List.mem_of_mem_take hx), b, o, fun hp => h3 (by simp at hp; omega), fun i hi => ?_⟩
  simp at hi
  rw [h4 i (by omega)]
  unfold ge
  simp [List.getD, List.getElem?_take]
  rw [if_pos (by omega)]

theorem mem_take {xs : List Int} {k : Nat} {v : Int} (h : v ∈ xs.take k) : ∃ i, i < k ∧ i < xs.length ∧ ge xs i = v := by
  obtain ⟨i, hi, he⟩ := List.getElem_of_mem h
  simp at hi
  refine ⟨i, by omega, by omega, ?_⟩
  rw [ge_eq xs (by omega), ← he]
  simp
theorem take_mem {xs : List Int} {k i : Nat} (h : i < k) (h2 : i < xs.length) : ge xs i ∈ xs.take k := by
  rw [ge_eq xs h2]
  exact List.mem_take_iff_getElem.2 ⟨i, by omega, rfl⟩
theorem nodup_take {xs : List Int} {k : Nat} (h : k < xs.length) (h1 : (xs.take k).Nodup) (h2 : ge xs k ∉ xs.take k) : (xs.take (k + 1)).Nodup := by
  rw [List.take_succ_eq_append_getElem h, ← ge_eq xs h]
  rw [List.nodup_append]
  exact ⟨h1, by simp, fun a ha b hb => by simp at hb; subst hb; exact fun e => h2 (e ▸ ha)⟩
theorem not_nodup {xs : List Int} {k : Nat} (h : k < xs.length) (h2 : ge xs k ∈ xs.take k) : ¬ xs.Nodup := by
  intro hn
  obtain ⟨i, h3, h4, h5⟩ := mem_take h2
  rw [ge_eq xs h4, ge_eq xs h] at h5
  exact List.pairwise_iff_getElem.1 hn i k h4 h h3 h5

theorem in_e {p : Option Addr} {n cap : Nat} {xs : List Int} {v : Int} {w : World} {b : Bool} (h : decide (v ∈ xs) = b) (hI : Ints w p xs) (hn : xs.length = n) :
    Calls Try.prog 22 #[.slice p n cap, .int .i64 v] w fun e w' => e = .returned (.bool b) ∧ w = w' := h ▸ in_r p n cap xs v w hI hn

set_option maxHeartbeats 2000000 in
theorem cost_r (p q : Option Addr) (n k cp cq : Nat) (m : List (List Int)) (xs : List Int) (w : World) (hM : Mat w p m) (hx : Ints w q xs) (hn : m.length = n) (hk : xs.length = k) (hcap : k ≤ cq) :
    Calls Try.prog 13 #[.slice p n cp, .slice q k cq] w fun e w' => e = .returned (.tuple #[.int .i64 (costS m xs).1, .int .i64 (costS m xs).2]) ∧ Grew w w' := by
  subst hn hk
  have hmm := hM.1
  have hmx := hx.1
  cases hv : vMatB m
  case false =>
    have Hf : Hid (costS m xs = (0, 1)) := Lib.hid (by unfold costS; rw [if_pos hv])
    go_enter Try.func13, Try.ntmps13
    go_wp2_with ((go_at_call 8; apply Calls.mono; (with_reducible exact valid_r _ _ _ _ _ hM rfl); rintro e w' ⟨rfl, rfl⟩))
    go_ret2
    rw [Hf.out]
    exact ⟨rfl, Grew.refl w⟩
  case true =>
  have hV := vMatB_iff.1 hv
  by_cases hl : xs.length = m.length
  case neg =>
    have Hf : Hid (costS m xs = (0, 3)) := Lib.hid (by unfold costS; rw [if_neg (by simp [hv]), if_pos hl])
    have hl' : ((xs.length : Int) != (m.length : Int)) = true := by rw [bne_iff_ne]; omega
    clear hl
    go_enter Try.func13, Try.ntmps13
    go_wp2_with ((go_at_call 8; apply Calls.mono; (with_reducible exact valid_r _ _ _ _ _ hM rfl); rintro e w' ⟨rfl, rfl⟩))
    go_ret2
    rw [Hf.out]
    exact ⟨rfl, Grew.refl w⟩
  case pos =>
  have hl' : ((xs.length : Int) != (m.length : Int)) = false := by rw [hl]; simp
  have hcap' : (0 : Int) ≤ (xs.length : Int) := by omega
  have Hl := Lib.hid hl
  have HV := Lib.hid hV
  have h8 := hV.1
  have h8' : xs.length ≤ 8 := by omega
  clear hV hl
  obtain ⟨bx, ox, h1, c1⟩ := hx.open
  go_enter Try.func13, Try.ntmps13
  go_wp2_with ((go_at_call 8; apply Calls.mono; (with_reducible exact valid_r _ _ _ _ _ hM rfl); rintro e w' ⟨rfl, rfl⟩))
  have Hvb := Lib.hid hv
  clear hv hl'
  go_loop [6] (fun i => ∃ j : Nat, j ≤ xs.length ∧ i = .int .i64 j ∧ ∀ t, t < j → 0 ≤ ge xs t ∧ ge xs t < m.length) (fun i => xs.length - (intOf i).toNat)
  case atStart => exact ⟨0, Nat.zero_le _, rfl, fun t ht => by omega⟩
  case round =>
    obtain ⟨j, hj, rfl, hall⟩ := hrel
    have Hall := Lib.hid hall
    clear hall
    by_cases hlt : j < xs.length
    · obtain ⟨rfl, g1⟩ := h1 (by omega)
      have d1 := c1 j hlt
      clear h1 c1
      by_cases hok : 0 ≤ ge xs j ∧ ge xs j < m.length
      · obtain ⟨k1, k2⟩ := hok
        go_wp2
        go_round
        case rel =>
          refine ⟨j + 1, by omega, by go_num, fun t ht => ?_⟩
          by_cases h : t = j
          · rw [h]; exact ⟨k1, k2⟩
          · exact Hall.out t (by omega)
        case measure => simp [intOf]; omega
      · have Hf : Hid (costS m xs = (0, 3)) := Lib.hid (by
          unfold costS
          rw [if_neg (by simp [Hvb.out]), if_neg (by simp [Hl.out]), if_pos (fun h => hok (h _ (ge_mem hlt)))])
        rcases (show ge xs j < 0 ∨ (m.length : Int) ≤ ge xs j by omega) with k1 | k1
        · clear hok
          go_wp2
          go_ret2
          rw [Hf.out]
          exact ⟨rfl, Grew.refl w⟩
        · have k2 : 0 ≤ ge xs j := by omega
          clear hok
          go_wp2
          go_ret2
          rw [Hf.out]
          exact ⟨rfl, Grew.refl w⟩
    · have Hr : Hid (inR m.length xs) := Lib.hid (fun x hx => by
        obtain ⟨i, hi, he⟩ := List.getElem_of_mem hx
        have := Hall.out i (by omega)
        rw [ge_eq xs hi, he] at this
        exact this)
      go_wp2
      go_loopw [7] (fun i wr => ∃ j : Nat, j ≤ xs.length ∧ i = .int .i64 j ∧ (xs.take j).Nodup ∧ Grew w wr) (fun i _ => xs.length - (intOf i).toNat)
      case atStart => exact ⟨0, Nat.zero_le _, rfl, by simp, Grew.refl w⟩
      case round =>
        obtain ⟨j, hj, rfl, hnd, x, rfl⟩ := hrel
        have Hnd := Lib.hid hnd
        clear hnd
        by_cases hlt2 : j < xs.length
        · obtain ⟨rfl, g1⟩ := h1 (by omega)
          have d1 := c1 j hlt2
          have hcj : (j : Int) ≤ (cq : Int) := by omega
          have hcj2 : j ≤ cq := by omega
          have htl : (xs.take j).length = j := by simp; omega
          have Htl := Lib.hid htl
          clear h1 c1 htl
          by_cases hin : decide (ge xs j ∈ xs.take j) = true
          · have Hin := Lib.hid hin
            clear hin
            have Hf : Hid (costS m xs = (0, 6)) := Lib.hid (by
              unfold costS
              rw [if_neg (by simp [Hvb.out]), if_neg (by simp [Hl.out]), if_neg (by simp [Hr.out]), if_pos (not_nodup hlt2 (of_decide_eq_true Hin.out))])
            go_wp2
            refine wp_region_over (by kernel_rfl) (by kernel_rfl) ?_; (repeat (go_big_quiet_step ((go_at_call 22; apply over_callE; with_reducible exact in_e Hin.out ((hx.take j).grew (by (repeat (first | exact Grew.refl _ | refine Grew.over ?_ _ | refine Grew.alloc ?_ _ | refine Grew.drew ?_ | refine Grew.drewN ?_ _)))) Htl.out)))); refine wpQuiet_nil ?_; rintro _ ⟨x, rfl⟩
            go_wp2
            go_ret2
            rw [Hf.out]
            refine ⟨rfl, ?_⟩
            (repeat (first | exact Grew.refl _ | refine Grew.over ?_ _ | refine Grew.alloc ?_ _ | refine Grew.drew ?_ | refine Grew.drewN ?_ _))
          · have Hin := Lib.hid (show decide (ge xs j ∈ xs.take j) = false by simpa using hin)
            clear hin
            go_wp2
            refine wp_region_over (by kernel_rfl) (by kernel_rfl) ?_; (repeat (go_big_quiet_step ((go_at_call 22; apply over_callE; with_reducible exact in_e Hin.out ((hx.take j).grew (by (repeat (first | exact Grew.refl _ | refine Grew.over ?_ _ | refine Grew.alloc ?_ _ | refine Grew.drew ?_ | refine Grew.drewN ?_ _)))) Htl.out)))); refine wpQuiet_nil ?_; rintro _ ⟨x, rfl⟩
            go_wp2
            go_roundw
            case rel =>
              refine ⟨j + 1, by omega, by go_num, nodup_take hlt2 Hnd.out (of_decide_eq_false Hin.out), ?_⟩
              (repeat (first | exact Grew.refl _ | refine Grew.over ?_ _ | refine Grew.alloc ?_ _ | refine Grew.drew ?_ | refine Grew.drewN ?_ _))
            case measure => simp [intOf]; omega
        · have Hr2 : Hid (∀ x ∈ xs, 0 ≤ x ∧ x < (m.length : Int)) := Lib.hid (fun x hx => Hr.out x hx)
          have Hf := Lib.hid (costS_ok Hvb.out Hl.out Hr.out (by
            have := Hnd.out
            rwa [List.take_of_length_le (by omega)] at this))
          go_wp2_with ((go_at_call 23; apply Calls.mono; (with_reducible exact sum_r _ _ _ _ _ _ _ _ _ (hM.grew (by (repeat (first | exact Grew.refl _ | refine Grew.over ?_ _ | refine Grew.alloc ?_ _ | refine Grew.drew ?_ | refine Grew.drewN ?_ _)))) HV.out (hx.grew (by (repeat (first | exact Grew.refl _ | refine Grew.over ?_ _ | refine Grew.alloc ?_ _ | refine Grew.drew ?_ | refine Grew.drewN ?_ _)))) rfl rfl Hr2.out h8'); rintro e w' ⟨rfl, x, rfl⟩))
          go_ret2
          rw [Hf.out]
          refine ⟨rfl, ?_⟩
          (repeat (first | exact Grew.refl _ | refine Grew.over ?_ _ | refine Grew.alloc ?_ _ | refine Grew.drew ?_ | refine Grew.drewN ?_ _))

end Go.Proofs.Ytnodgagmnekliaa
