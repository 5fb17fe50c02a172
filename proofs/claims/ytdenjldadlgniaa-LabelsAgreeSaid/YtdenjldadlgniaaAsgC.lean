/- Cost of the program and of the reference. -/
import Derived.Test.YtdenjldadlgniaaAsgB
import Derived.Test.YtdenjldadlgniaaHunF
set_option linter.unusedSimpArgs false
set_option linter.unusedVariables false
namespace Go.Proofs.Ytdenjldadlgniaa
open Go.RowKit

def natL (xs : List Int) : List Nat := xs.map Int.toNat
theorem natL_length (xs : List Int) : (natL xs).length = xs.length := by simp [natL]
theorem natL_gn (xs : List Int) (i : Nat) : gn (natL xs) i = (ge xs i).toNat := by
  unfold natL gn ge
  rw [List.getD_eq_getElem?_getD, List.getElem?_map, List.getD_eq_getElem?_getD]
  cases xs[i]? <;> rfl
def inK (k : Nat) (xs : List Int) : Prop := ∀ x ∈ xs, 0 ≤ x ∧ x < (k : Int)
instance (n : Nat) (xs : List Int) : Decidable (inK n xs) := by unfold inK; exact inferInstance
def posX (m : List (List Int)) (xs : List Int) : Prop := ∀ i, i < xs.length → 0 ≤ at2 m i (ge xs i).toNat
instance (m : List (List Int)) (xs : List Int) : Decidable (posX m xs) := by unfold posX; exact inferInstance
def sumX (m : List (List Int)) (xs : List Int) : Nat → Int := sumN fun i => at2 m i (ge xs i).toNat
/-- The cost of an assignment, or the error. -/
def costS (m : List (List Int)) (xs : List Int) : Int × Int :=
  if vB m = false then (0, 1) else if xs.length ≠ m.length then (0, 3) else if ¬ inK (kO m) xs then (0, 3) else if ¬ xs.Nodup then (0, 6) else if ¬ posX m xs then (0, 15) else (sumX m xs xs.length, 0)
theorem costS_ok {m : List (List Int)} {xs : List Int} (h1 : vB m = true) (h2 : xs.length = m.length) (h3 : inK (kO m) xs) (h4 : xs.Nodup) (h5 : posX m xs) : costS m xs = (sumX m xs xs.length, 0) := by
  unfold costS
  rw [if_neg (by simp [h1]), if_neg (by simp [h2]), if_neg (by simp [h3]), if_neg (by simp [h4]), if_neg (by simp [h5])]
theorem costS_len {m : List (List Int)} {xs : List Int} (h1 : vB m = true) (h2 : xs.length ≠ m.length) : costS m xs = (0, 3) := by
  unfold costS
  rw [if_neg (by simp [h1]), if_pos h2]
theorem costS_in {m : List (List Int)} {xs : List Int} (h1 : vB m = true) (h2 : xs.length = m.length) (h3 : ¬ inK (kO m) xs) : costS m xs = (0, 3) := by
  unfold costS
  rw [if_neg (by simp [h1]), if_neg (by simp [h2]), if_pos h3]
theorem costS_dup {m : List (List Int)} {xs : List Int} (h1 : vB m = true) (h2 : xs.length = m.length) (h3 : inK (kO m) xs) (h4 : ¬ xs.Nodup) : costS m xs = (0, 6) := by
  unfold costS
  rw [if_neg (by simp [h1]), if_neg (by simp [h2]), if_neg (by simp [h3]), if_pos h4]
theorem costS_none {m : List (List Int)} {xs : List Int} (h1 : vB m = true) (h2 : xs.length = m.length) (h3 : inK (kO m) xs) (h4 : xs.Nodup) (h5 : ¬ posX m xs) : costS m xs = (0, 15) := by
  unfold costS
  rw [if_neg (by simp [h1]), if_neg (by simp [h2]), if_neg (by simp [h3]), if_neg (by simp [h4]), if_pos h5]
theorem sumX_bd {m : List (List Int)} (hV : vA m) {xs : List Int} (hl : xs.length = m.length) (hi : inK (kO m) xs) : ∀ j, j ≤ xs.length → (∀ i, i < j → 0 ≤ at2 m i (ge xs i).toNat) → 0 ≤ sumX m xs j ∧ sumX m xs j ≤ (j : Int) * 1000000
  | 0, _, _ => ⟨Int.le_refl _, Int.le_refl _⟩
  | j + 1, hj, hp => by
    have ih := sumX_bd hV hl hi j (by omega) (fun i h => hp i (by omega))
    have e : sumX m xs (j + 1) = sumX m xs j + at2 m j (ge xs j).toNat := rfl
    rw [e]
    have h1 := hi _ (ge_mem (xs := xs) (i := j) (by omega))
    have h2 := hV.b j (by omega) (ge xs j).toNat (by omega)
    have h3 := hp j (by omega)
    omega

theorem Ints.take {w : World} {p : Option Addr} {xs : List Int} (h : Ints w p xs) (k : Nat) : Ints w p (xs.take k) := by
  obtain ⟨h1, h2, b, o, h3, h4⟩ := h
  refine ⟨by simp; omega, fun x hx => h2 x (List.mem_of_mem_take hx), b, o, fun hp => h3 (by simp at hp; omega), fun i hi => ?_⟩
  simp at hi
  rw [h4 i (by omega)]
  unfold ge
  simp [List.getD, List.getElem?_take]
  rw [if_pos (by omega)]
theorem mem_take {xs : List Int} {k : Nat} {v : Int} (h : v ∈ xs.take k) : ∃ i, i < k ∧ i < xs.length ∧ ge xs i = v := by
  obtain ⟨i, hi, he⟩ := List.getElem_of_mem h
  simp at hi
  refine ⟨i, by omega, by omega, ?_⟩
  rw [ge_eq xs (by omega), ← he]
  simp
theorem take_mem {xs : List Int} {k i : Nat} (h : i < k) (h2 : i < xs.length) : ge xs i ∈ xs.take k := by
  rw [ge_eq xs h2]
  exact List.mem_take_iff_getElem.2 ⟨i, by omega, rfl⟩
theorem nodup_take {xs : List Int} {k : Nat} (h : k < xs.length) (h1 : (xs.take k).Nodup) (h2 : ge xs k ∉ xs.take k) : (xs.take (k + 1)).Nodup := by
  rw [List.take_succ_eq_append_getElem h, ← ge_eq xs h]
  rw [List.nodup_append]
  exact ⟨h1, by simp, fun a ha b hb => by simp at hb; subst hb; exact fun e => h2 (e ▸ ha)⟩
theorem not_nodup {xs : List Int} {k : Nat} (h : k < xs.length) (h2 : ge xs k ∈ xs.take k) : ¬ xs.Nodup := by
  intro hn
  obtain ⟨i, h3, h4, h5⟩ := mem_take h2
  rw [ge_eq xs h4, ge_eq xs h] at h5
  exact List.pairwise_iff_getElem.1 hn i k h4 h h3 h5
theorem inK_of {k : Nat} {xs : List Int} (h : ∀ t, t < xs.length → 0 ≤ ge xs t ∧ ge xs t < (k : Int)) : inK k xs := fun x hx => by
  obtain ⟨i, hi, he⟩ := List.getElem_of_mem hx
  have := h i hi
  rw [ge_eq xs hi, he] at this
  exact this

set_option maxHeartbeats 4000000 in
theorem cost_r (p q : Option Addr) (n k cp cq : Nat) (m : List (List Int)) (xs : List Int) (w : World) (hM : Mat w p m) (hx : Ints w q xs) (hn : m.length = n) (hk : xs.length = k) :
    Calls Try.prog 62 #[.slice p n cp, .slice q k cq] w fun e w' => e = .returned (.tuple #[.int .i64 (costS m xs).1, .int .i64 (costS m xs).2]) ∧ Grew w w' := by
  subst hn hk
  have hmm := hM.1
  have hmx := hx.1
  cases hv : vB m
  case false =>
    have Hf : Hid (costS m xs = (0, 1)) := Lib.hid (by unfold costS; rw [if_pos hv])
    go_enter Try.func62, Try.ntmps62
    go_wp2_with ((go_at_call 40; apply Calls.mono; (with_reducible exact valid_r _ _ _ _ _ hM rfl); rintro e w' ⟨rfl, x, rfl⟩))
    go_ret2
    rw [Hf.out]
    exact ⟨rfl, by (repeat (first | exact Grew.refl _ | refine Grew.over ?_ _ | refine Grew.alloc ?_ _ | refine Grew.drew ?_ | refine Grew.drewN ?_ _))⟩
  case true =>
  have hV := vB_iff.1 hv
  by_cases hl : xs.length = m.length
  case neg =>
    have Hf : Hid (costS m xs = (0, 3)) := Lib.hid (costS_len hv hl)
    have hl' : ((xs.length : Int) != (m.length : Int)) = true := by rw [bne_iff_ne]; omega
    clear hl
    go_enter Try.func62, Try.ntmps62
    go_wp2_with ((go_at_call 40; apply Calls.mono; (with_reducible exact valid_r _ _ _ _ _ hM rfl); rintro e w' ⟨rfl, x, rfl⟩))
    go_ret2
    rw [Hf.out]
    exact ⟨rfl, by (repeat (first | exact Grew.refl _ | refine Grew.over ?_ _ | refine Grew.alloc ?_ _ | refine Grew.drew ?_ | refine Grew.drewN ?_ _))⟩
  case pos =>
  have hl' : ((xs.length : Int) != (m.length : Int)) = false := by rw [hl]; simp
  have h16 := hV.n16
  have h16' : xs.length ≤ 16 := by omega
  have hlm : xs.length = m.length := hl
  obtain ⟨K, hK⟩ : ∃ K, kO m = K := ⟨_, rfl⟩
  have hK64 : 0 < m.length → K ≤ 64 := fun h => by rw [← hK]; exact hV.k64 h
  have HK64 := Lib.hid hK64
  have HK := Lib.hid hK
  have Hl := Lib.hid hl
  have HV := Lib.hid hV
  obtain ⟨bx, ox, h1, c1⟩ := hx.open
  clear hV hl hlm hK hK64
  go_enter Try.func62, Try.ntmps62
  go_wp2_with ((go_at_call 40; apply Calls.mono; (with_reducible exact valid_r _ _ _ _ _ hM rfl); rintro e w' ⟨rfl, x, rfl⟩))
  have Hvb := Lib.hid hv
  clear hv hl'
  go_loopw [6] (fun i wr => ∃ j : Nat, j ≤ xs.length ∧ i = .int .i64 j ∧ (∀ t, t < j → 0 ≤ ge xs t ∧ ge xs t < (K : Int)) ∧ Grew w wr) (fun i _ => xs.length - (intOf i).toNat)
  case atStart => exact ⟨0, Nat.zero_le _, rfl, fun t ht => by omega, by (repeat (first | exact Grew.refl _ | refine Grew.over ?_ _ | refine Grew.alloc ?_ _ | refine Grew.drew ?_ | refine Grew.drewN ?_ _))⟩
  case round =>
    obtain ⟨j, hj, rfl, hall, y, rfl⟩ := hrel
    have Hall := Lib.hid hall
    clear hall
    by_cases hlt : j < xs.length
    · obtain ⟨rfl, g1⟩ := h1 (by omega)
      have d1 := c1 j hlt
      have hjm : j < m.length := by have := Hl.out; omega
      obtain ⟨b, o, rb, ro, rc, rfl, hA⟩ := matAt_of hM HV.out (by omega)
      obtain ⟨r1, r2⟩ := hA.row j hjm
      have r3 := hA.hb
      rw [HK.out] at r1
      have hk64 := HK64.out (by omega)
      clear h1 c1 hA
      by_cases hok : 0 ≤ ge xs j ∧ ge xs j < (K : Int)
      · obtain ⟨k1, k2⟩ := hok
        have hd1 : decide (ge xs j < 0) = false := decide_eq_false (by omega)
        go_wp2
        refine wp_region_over (by kernel_rfl) (by kernel_rfl) ?_; (repeat (go_big_quiet_step (fail))); refine wpQuiet_nil ?_; rintro _ ⟨x, rfl⟩
        go_wp2
        go_roundw
        case rel =>
          refine ⟨j + 1, by omega, by go_num, fun t ht => ?_, by (repeat (first | exact Grew.refl _ | refine Grew.over ?_ _ | refine Grew.alloc ?_ _ | refine Grew.drew ?_ | refine Grew.drewN ?_ _))⟩
          by_cases h : t = j
          · rw [h]; exact ⟨k1, k2⟩
          · exact Hall.out t (by omega)
        case measure => simp [intOf]; omega
      · have Hf : Hid (costS m xs = (0, 3)) := Lib.hid (costS_in Hvb.out Hl.out (fun h => hok (by have := h _ (ge_mem hlt); rw [HK.out] at this; exact this)))
        rcases (show ge xs j < 0 ∨ (K : Int) ≤ ge xs j by omega) with k1 | k1
        · clear hok
          go_wp2
          refine wp_region_over (by kernel_rfl) (by kernel_rfl) ?_; (repeat (go_big_quiet_step (fail))); refine wpQuiet_nil ?_; rintro _ ⟨x, rfl⟩
          go_wp2
          go_ret2
          rw [Hf.out]
          exact ⟨rfl, by (repeat (first | exact Grew.refl _ | refine Grew.over ?_ _ | refine Grew.alloc ?_ _ | refine Grew.drew ?_ | refine Grew.drewN ?_ _))⟩
        · have k2 : 0 ≤ ge xs j := by omega
          have hd1 : decide (ge xs j < 0) = false := decide_eq_false (by omega)
          clear hok
          go_wp2
          refine wp_region_over (by kernel_rfl) (by kernel_rfl) ?_; (repeat (go_big_quiet_step (fail))); refine wpQuiet_nil ?_; rintro _ ⟨x, rfl⟩
          go_wp2
          go_ret2
          rw [Hf.out]
          exact ⟨rfl, by (repeat (first | exact Grew.refl _ | refine Grew.over ?_ _ | refine Grew.alloc ?_ _ | refine Grew.drew ?_ | refine Grew.drewN ?_ _))⟩
    · have Hr : Hid (inK (kO m) xs) := Lib.hid (inK_of fun t ht => by rw [HK.out]; exact Hall.out t (by omega))
      clear Hall
      go_wp2
      go_loopw [7] (fun i wr => ∃ j : Nat, j ≤ xs.length ∧ i = .int .i64 j ∧ (xs.take j).Nodup ∧ Grew w wr) (fun i _ => xs.length - (intOf i).toNat)
      case atStart => exact ⟨0, Nat.zero_le _, rfl, by simp, by (repeat (first | exact Grew.refl _ | refine Grew.over ?_ _ | refine Grew.alloc ?_ _ | refine Grew.drew ?_ | refine Grew.drewN ?_ _))⟩
      case round =>
        obtain ⟨j, hj, rfl, hnd, y2, rfl⟩ := hrel
        have Hnd := Lib.hid hnd
        clear hnd
        by_cases hlt2 : j < xs.length
        · obtain ⟨rfl, g1⟩ := h1 (by omega)
          have d1 := c1 j hlt2
          have C1 := Lib.hid c1
          clear h1 c1
          go_wp2
          go_loopw [8] (fun i wr => ∃ t : Nat, t ≤ j ∧ i = .int .i64 t ∧ (∀ s, s < t → ge xs s ≠ ge xs j) ∧ Grew w wr) (fun i _ => j - (intOf i).toNat)
          case atStart => exact ⟨0, Nat.zero_le _, rfl, fun t ht => by omega, by (repeat (first | exact Grew.refl _ | refine Grew.over ?_ _ | refine Grew.alloc ?_ _ | refine Grew.drew ?_ | refine Grew.drewN ?_ _))⟩
          case round =>
            obtain ⟨t, ht, rfl, hne, y3, rfl⟩ := hrel
            have Hne := Lib.hid hne
            clear hne
            by_cases hlt3 : t < j
            · have d2 := C1.out t (by omega)
              by_cases he : ge xs t = ge xs j
              · have he' : (ge xs t == ge xs j) = true := by rw [beq_iff_eq]; exact he
                have Hf : Hid (costS m xs = (0, 6)) := Lib.hid (costS_dup Hvb.out Hl.out Hr.out (not_nodup hlt2 (by rw [← he]; exact take_mem hlt3 (by omega))))
                clear he
                go_wp2
                refine wp_region_over (by kernel_rfl) (by kernel_rfl) ?_; (repeat (go_big_quiet_step (fail))); refine wpQuiet_nil ?_; rintro _ ⟨x, rfl⟩
                go_wp2
                go_ret2
                rw [Hf.out]
                exact ⟨rfl, by (repeat (first | exact Grew.refl _ | refine Grew.over ?_ _ | refine Grew.alloc ?_ _ | refine Grew.drew ?_ | refine Grew.drewN ?_ _))⟩
              · have he' : (ge xs t == ge xs j) = false := by rw [beq_eq_false_iff_ne]; exact he
                have He := Lib.hid he
                clear he
                go_wp2
                refine wp_region_over (by kernel_rfl) (by kernel_rfl) ?_; (repeat (go_big_quiet_step (fail))); refine wpQuiet_nil ?_; rintro _ ⟨x, rfl⟩
                go_wp2
                go_roundw
                case rel =>
                  refine ⟨t + 1, by omega, by go_num, fun s hs => ?_, by (repeat (first | exact Grew.refl _ | refine Grew.over ?_ _ | refine Grew.alloc ?_ _ | refine Grew.drew ?_ | refine Grew.drewN ?_ _))⟩
                  by_cases h : s = t
                  · rw [h]; exact He.out
                  · exact Hne.out s (by omega)
                case measure => simp [intOf]; omega
            · have hte : t = j := by omega
              subst hte
              have Hn2 : Hid ((xs.take (t + 1)).Nodup) := Lib.hid (nodup_take hlt2 Hnd.out (fun h => by
                obtain ⟨i, h1, h2, h3⟩ := mem_take h
                exact Hne.out i h1 h3))
              go_wp2
              go_roundw
              case rel => exact ⟨t + 1, by omega, by go_num, Hn2.out, by (repeat (first | exact Grew.refl _ | refine Grew.over ?_ _ | refine Grew.alloc ?_ _ | refine Grew.drew ?_ | refine Grew.drewN ?_ _))⟩
              case measure => simp [intOf]; omega
        · have Hn2 : Hid xs.Nodup := Lib.hid (by
            have := Hnd.out
            rwa [List.take_of_length_le (by omega)] at this)
          clear Hnd
          go_wp2
          go_loopw [9, 10] (fun s i wr => ∃ j : Nat, j ≤ xs.length ∧ i = .int .i64 j ∧ s = .int .i64 (sumX m xs j) ∧ (∀ t, t < j → 0 ≤ at2 m t (ge xs t).toNat) ∧ Grew w wr) (fun _ i _ => xs.length - (intOf i).toNat)
          case atStart => exact ⟨0, Nat.zero_le _, rfl, rfl, fun t ht => by omega, by (repeat (first | exact Grew.refl _ | refine Grew.over ?_ _ | refine Grew.alloc ?_ _ | refine Grew.drew ?_ | refine Grew.drewN ?_ _))⟩
          case round =>
            obtain ⟨j, hj, rfl, rfl, hpos, y3, rfl⟩ := hrel
            have Hpos := Lib.hid hpos
            obtain ⟨b1, b2⟩ := sumX_bd HV.out Hl.out Hr.out j hj hpos
            clear hpos
            by_cases hlt3 : j < xs.length
            · obtain ⟨rfl, g1⟩ := h1 (by omega)
              have d1 := c1 j hlt3
              have hjm : j < m.length := by have := Hl.out; omega
              obtain ⟨b, o, rb, ro, rc, rfl, hA⟩ := matAt_of hM HV.out (by omega)
              obtain ⟨r1, r2⟩ := hA.row j hjm
              have r3 := hA.hb
              have hin := Hr.out _ (ge_mem hlt3)
              have hk64 := HK64.out (by omega)
              rw [HK.out] at r1 hin
              obtain ⟨v, hv⟩ := Int.eq_ofNat_of_zero_le hin.1
              have hvK : v < K := by omega
              have r4 := hA.at' j v hjm (by rw [HK.out]; exact hvK)
              have hb := HV.out.b j hjm v (by rw [HK.out]; exact hvK)
              have hsx : sumX m xs (j + 1) = sumX m xs j + at2 m j v := by
                show sumX m xs j + at2 m j (ge xs j).toNat = _
                rw [hv]; rfl
              have Hsx := Lib.hid hsx
              have Hv := Lib.hid hv
              obtain ⟨a, ha⟩ : ∃ a, at2 m j v = a := ⟨_, rfl⟩
              rw [ha] at r4 hb
              obtain ⟨hb1, hb2⟩ := hb
              rw [hv] at d1
              have Ha := Lib.hid ha
              obtain ⟨S, hS0⟩ : ∃ S, sumX m xs j = S := ⟨_, rfl⟩
              rw [hS0] at b1 b2 ⊢
              have HS0 := Lib.hid hS0
              clear hS0
              have hS : S ≤ 16000000 := by omega
              clear h1 c1 hA hin hsx hv ha b2
              by_cases hok : a < 0
              · have Hf : Hid (costS m xs = (0, 15)) := Lib.hid (costS_none Hvb.out Hl.out Hr.out Hn2.out (fun h => by
                  have := h j hlt3
                  rw [Hv.out] at this
                  have e : (Int.ofNat v).toNat = v := rfl
                  simp only [Int.toNat_natCast] at this
                  rw [Ha.out] at this
                  omega))
                go_wp2
                refine wp_region_over (by kernel_rfl) (by kernel_rfl) ?_; (repeat (go_big_quiet_step (fail))); refine wpQuiet_nil ?_; rintro _ ⟨x, rfl⟩
                go_wp2
                go_ret2
                rw [Hf.out]
                exact ⟨rfl, by (repeat (first | exact Grew.refl _ | refine Grew.over ?_ _ | refine Grew.alloc ?_ _ | refine Grew.drew ?_ | refine Grew.drewN ?_ _))⟩
              · have Hp : Hid (0 ≤ at2 m j (ge xs j).toNat) := Lib.hid (by
                  rw [Hv.out]
                  simp only [Int.toNat_natCast]
                  rw [Ha.out]; omega)
                go_wp2
                refine wp_region_over (by kernel_rfl) (by kernel_rfl) ?_; (repeat (go_big_quiet_step (fail))); refine wpQuiet_nil ?_; rintro _ ⟨x, rfl⟩
                go_wp2
                refine wp_region_over (by kernel_rfl) (by kernel_rfl) ?_; (repeat (go_big_quiet_step (fail))); refine wpQuiet_nil ?_; rintro _ ⟨x, rfl⟩
                go_wp2
                go_roundw
                case rel =>
                  refine ⟨j + 1, by omega, by go_num, ?_, fun t ht => ?_, by (repeat (first | exact Grew.refl _ | refine Grew.over ?_ _ | refine Grew.alloc ?_ _ | refine Grew.drew ?_ | refine Grew.drewN ?_ _))⟩
                  · rw [Hsx.out, Ha.out, HS0.out]
                  · by_cases h : t = j
                    · rw [h]; exact Hp.out
                    · exact Hpos.out t (by omega)
                case measure => simp [intOf]; omega
            · have hje : j = xs.length := by omega
              have Hf := Lib.hid (costS_ok Hvb.out Hl.out Hr.out Hn2.out (fun i hi => Hpos.out i (by omega)))
              subst hje
              go_wp2
              go_ret2
              rw [Hf.out]
              exact ⟨rfl, by (repeat (first | exact Grew.refl _ | refine Grew.over ?_ _ | refine Grew.alloc ?_ _ | refine Grew.drew ?_ | refine Grew.drewN ?_ _))⟩
end Go.Proofs.Ytdenjldadlgniaa
