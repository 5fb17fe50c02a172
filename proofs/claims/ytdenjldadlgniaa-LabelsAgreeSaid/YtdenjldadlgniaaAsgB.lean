/- Valid of the program and of the reference. -/
import Derived.Test.YtdenjldadlgniaaAsgA
set_option linter.unusedSimpArgs false
set_option linter.unusedVariables false
namespace Go.Proofs.Ytdenjldadlgniaa
open Go.RowKit

def rowA (m : List (List Int)) (u : Nat) : Prop := (rowOf m u).length = kO m ∧ kO m ≤ 64 ∧ m.length ≤ kO m ∧ ∀ v, v < kO m → -1 ≤ at2 m u v ∧ at2 m u v ≤ 1000000
instance (m : List (List Int)) (u : Nat) : Decidable (rowA m u) := by unfold rowA; exact inferInstance
theorem vA_iff {m : List (List Int)} : vA m ↔ m.length ≤ 16 ∧ ∀ u, u < m.length → rowA m u :=
  ⟨fun h => ⟨h.n16, fun u hu => ⟨h.sq u hu, h.k64 (by omega), h.nk (by omega), h.b u hu⟩⟩,
   fun h => ⟨h.1, fun u hu => (h.2 u hu).1, fun h0 => (h.2 0 h0).2.1, fun h0 => (h.2 0 h0).2.2.1, fun u hu => (h.2 u hu).2.2.2⟩⟩
instance (m : List (List Int)) : Decidable (vA m) := decidable_of_iff' _ vA_iff
def vB (m : List (List Int)) : Bool := decide (vA m)
theorem vB_iff {m : List (List Int)} : vB m = true ↔ vA m := by unfold vB; simp
theorem vB_not {m : List (List Int)} (h : ¬ vA m) : vB m = false := by rw [← Bool.not_eq_true, vB_iff]; exact h

set_option maxHeartbeats 4000000 in
theorem valid_r (p : Option Addr) (n cap : Nat) (m : List (List Int)) (w : World) (hM : Mat w p m) (hn : m.length = n) :
    Calls Try.prog 40 #[.slice p n cap] w fun e w' => e = .returned (.bool (vB m)) ∧ Grew w w' := by
  subst hn
  obtain ⟨hm, b, o, rp, rc, h3, h4⟩ := hM
  by_cases h16 : m.length ≤ 16
  case neg =>
    have Hf := Lib.hid (vB_not (m := m) (fun h => h16 h.n16))
    have h16' : 16 < m.length := by omega
    clear h16
    go_enter Try.func40, Try.ntmps40
    go_wp2
    go_ret
    exact ⟨ret_bool Hf.out.symm, Grew.refl _⟩
  case pos =>
  have H16 := Lib.hid h16
  go_enter Try.func40, Try.ntmps40
  go_wp2
  go_loopw [3] (fun i wr => ∃ k : Nat, k ≤ m.length ∧ i = .int .i64 k ∧ (∀ u, u < k → rowA m u) ∧ Grew w wr) (fun i _ => m.length - (intOf i).toNat)
  case atStart => exact ⟨0, Nat.zero_le _, rfl, fun j hj => by omega, Grew.refl w⟩
  case round =>
    obtain ⟨k, hk, rfl, hall, x, rfl⟩ := hrel
    have Hall := Lib.hid hall
    clear hall
    by_cases hlt : k < m.length
    · obtain ⟨rfl, hb⟩ := h3 (by omega)
      obtain ⟨hc, hI⟩ := h4 k hlt
      obtain ⟨hc0, hI0⟩ := h4 0 (by omega)
      rw [Nat.add_zero] at hc0
      obtain ⟨b1, o1, g3, g4⟩ := hI.open
      have hmr := hI.1
      have hmr0 := hI0.1
      clear h3 h4 hI hI0
      obtain ⟨K, hK⟩ : ∃ K, (rowOf m 0).length = K := ⟨_, rfl⟩
      have hkO : kO m = K := hK
      rw [hK] at hc0 hmr0
      clear hK
      have HkO := Lib.hid hkO
      clear hkO
      by_cases hl : (rowOf m k).length = K
      · rw [hl] at g3 g4 hc
        have Hl := Lib.hid hl
        have hll : ((rowOf m k).length : Int) = (K : Int) := by omega
        clear hl hll
        by_cases hKn : K < m.length
        · have Hf := Lib.hid (vB_not (m := m) (fun h => by have := h.nk (by omega); have := HkO.out; omega))
          clear g3 g4
          go_wp2
          refine wp_region_over (by kernel_rfl) (by kernel_rfl) ?_; (repeat (go_big_quiet_step (fail))); refine wpQuiet_nil ?_; rintro _ ⟨x, rfl⟩
          go_wp2
          go_ret
          exact ⟨ret_bool Hf.out.symm, by (repeat (first | exact Grew.refl _ | refine Grew.over ?_ _ | refine Grew.alloc ?_ _ | refine Grew.drew ?_ | refine Grew.drewN ?_ _))⟩
        · by_cases hK64 : 64 < K
          · have Hf := Lib.hid (vB_not (m := m) (fun h => by have := h.k64 (by omega); have := HkO.out; omega))
            clear g3 g4
            go_wp2
            refine wp_region_over (by kernel_rfl) (by kernel_rfl) ?_; (repeat (go_big_quiet_step (fail))); refine wpQuiet_nil ?_; rintro _ ⟨x, rfl⟩
            go_wp2
            go_ret
            exact ⟨ret_bool Hf.out.symm, by (repeat (first | exact Grew.refl _ | refine Grew.over ?_ _ | refine Grew.alloc ?_ _ | refine Grew.drew ?_ | refine Grew.drewN ?_ _))⟩
          · go_wp2
            refine wp_region_over (by kernel_rfl) (by kernel_rfl) ?_; (repeat (go_big_quiet_step (fail))); refine wpQuiet_nil ?_; rintro _ ⟨x, rfl⟩
            go_wp2
            go_loopw [4] (fun i wr => ∃ j : Nat, j ≤ K ∧ i = .int .i64 j ∧ (∀ v, v < j → -1 ≤ ge (rowOf m k) v ∧ ge (rowOf m k) v ≤ 1000000) ∧ Grew w wr) (fun i _ => K - (intOf i).toNat)
            case atStart => exact ⟨0, Nat.zero_le _, rfl, fun j hj => by omega, by (repeat (first | exact Grew.refl _ | refine Grew.over ?_ _ | refine Grew.alloc ?_ _ | refine Grew.drew ?_ | refine Grew.drewN ?_ _))⟩
            case round =>
              obtain ⟨j, hj, rfl, hall2, x2, rfl⟩ := hrel
              have Hall2 := Lib.hid hall2
              clear hall2
              by_cases hlt2 : j < K
              · obtain ⟨q1, q2⟩ := g3 (by omega)
                have d := g4 j hlt2
                rw [q1] at hc
                clear g3 g4 q1
                by_cases hok : -1 ≤ ge (rowOf m k) j ∧ ge (rowOf m k) j ≤ 1000000
                · obtain ⟨hok1, hok2⟩ := hok
                  go_wp2
                  go_roundw
                  case rel =>
                    refine ⟨j + 1, by omega, by go_num, fun v hv => ?_, by (repeat (first | exact Grew.refl _ | refine Grew.over ?_ _ | refine Grew.alloc ?_ _ | refine Grew.drew ?_ | refine Grew.drewN ?_ _))⟩
                    by_cases h : v = j
                    · rw [h]; exact ⟨hok1, hok2⟩
                    · exact Hall2.out v (by omega)
                  case measure => simp [intOf]; omega
                · have Hf := Lib.hid (vB_not (m := m) (fun h => hok (h.b k hlt j (by rw [HkO.out]; exact hlt2))))
                  have hok1 : ge (rowOf m k) j < -1 ∨ 1000000 < ge (rowOf m k) j := by omega
                  clear hok
                  rcases hok1 with hok1 | hok1
                  · go_wp2
                    go_ret
                    exact ⟨ret_bool Hf.out.symm, by (repeat (first | exact Grew.refl _ | refine Grew.over ?_ _ | refine Grew.alloc ?_ _ | refine Grew.drew ?_ | refine Grew.drewN ?_ _))⟩
                  · have hok2 : -1 ≤ ge (rowOf m k) j := by omega
                    go_wp2
                    go_ret
                    exact ⟨ret_bool Hf.out.symm, by (repeat (first | exact Grew.refl _ | refine Grew.over ?_ _ | refine Grew.alloc ?_ _ | refine Grew.drew ?_ | refine Grew.drewN ?_ _))⟩
              · have hje : j = K := by omega
                have Hrow : Hid (rowA m k) := Lib.hid (by
                  have e := HkO.out
                  exact ⟨by rw [Hl.out, e], by omega, by omega, fun v hv => Hall2.out v (by omega)⟩)
                clear hje
                go_wp2
                go_roundw
                case rel =>
                  refine ⟨k + 1, by omega, by go_num, fun u hu => ?_, by (repeat (first | exact Grew.refl _ | refine Grew.over ?_ _ | refine Grew.alloc ?_ _ | refine Grew.drew ?_ | refine Grew.drewN ?_ _))⟩
                  by_cases h : u = k
                  · rw [h]; exact Hrow.out
                  · exact Hall.out u (by omega)
                case measure => simp [intOf]; omega
      · have hl' : (((rowOf m k).length : Int) != (K : Int)) = true := by rw [bne_iff_ne]; omega
        have Hf := Lib.hid (vB_not (m := m) (fun h => hl ((h.sq k hlt).trans HkO.out)))
        clear hl g3 g4
        go_wp2
        refine wp_region_over (by kernel_rfl) (by kernel_rfl) ?_; (repeat (go_big_quiet_step (fail))); refine wpQuiet_nil ?_; rintro _ ⟨x, rfl⟩
        go_wp2
        go_ret
        exact ⟨ret_bool Hf.out.symm, by (repeat (first | exact Grew.refl _ | refine Grew.over ?_ _ | refine Grew.alloc ?_ _ | refine Grew.drew ?_ | refine Grew.drewN ?_ _))⟩
    · have Hf := Lib.hid (vB_iff.2 (vA_iff.2 ⟨H16.out, fun u hu => Hall.out u (by omega)⟩))
      go_wp2
      go_ret
      exact ⟨ret_bool Hf.out.symm, by (repeat (first | exact Grew.refl _ | refine Grew.over ?_ _ | refine Grew.alloc ?_ _ | refine Grew.drew ?_ | refine Grew.drewN ?_ _))⟩

theorem any_badC {xs : List Int} : xs.any badC = false ↔ ∀ v, v < xs.length → -1 ≤ ge xs v ∧ ge xs v ≤ 1000000 := by
  constructor
  · intro h v hv
    have := List.any_eq_false.1 h _ (ge_mem (xs := xs) (i := v) hv)
    unfold badC at this
    simp at this
    omega
  · intro h
    rw [List.any_eq_false]
    intro x hx
    obtain ⟨i, hi, he⟩ := List.getElem_of_mem hx
    have := h i hi
    rw [ge_eq _ hi, he] at this
    unfold badC
    simp
    omega

set_option maxHeartbeats 4000000 in
theorem valid_p (p : Option Addr) (n cap : Nat) (m : List (List Int)) (w : World) (hM : Mat w p m) (hn : m.length = n) :
    Calls Try.prog 36 #[.slice p n cap] w fun e w' => e = .returned (.bool (vB m)) ∧ Grew w w' := by
  subst hn
  obtain ⟨hm, b, o, rp, rc, h3, h4⟩ := hM
  by_cases h16 : m.length ≤ 16
  case neg =>
    have Hf := Lib.hid (vB_not (m := m) (fun h => h16 h.n16))
    have h16' : 16 < m.length := by omega
    clear h16
    go_enter Try.func36, Try.ntmps36
    go_wp2
    go_ret
    exact ⟨ret_bool Hf.out.symm, Grew.refl _⟩
  case pos =>
  have H16 := Lib.hid h16
  go_enter Try.func36, Try.ntmps36
  go_wp2
  go_loopw [4, 10] (fun _ i wr => ∃ k : Nat, k ≤ m.length ∧ i = .int .i64 k ∧ (∀ u, u < k → rowA m u) ∧ Grew w wr) (fun _ i _ => m.length - (intOf i).toNat)
  case atStart => exact ⟨0, Nat.zero_le _, rfl, fun j hj => by omega, Grew.refl w⟩
  case round =>
    obtain ⟨k, hk, rfl, hall, x, rfl⟩ := hrel
    have Hall := Lib.hid hall
    clear hall
    by_cases hlt : k < m.length
    · obtain ⟨rfl, hb⟩ := h3 (by omega)
      obtain ⟨hc, hI⟩ := h4 k hlt
      obtain ⟨hc0, hI0⟩ := h4 0 (by omega)
      rw [Nat.add_zero] at hc0
      have hmr := hI.1
      have hmr0 := hI0.1
      clear h3 h4 hI0
      obtain ⟨K, hK⟩ : ∃ K, (rowOf m 0).length = K := ⟨_, rfl⟩
      have hkO : kO m = K := hK
      rw [hK] at hc0 hmr0
      clear hK
      have HkO := Lib.hid hkO
      clear hkO
      by_cases hl : (rowOf m k).length = K
      · rw [hl] at hc
        have Hl := Lib.hid hl
        clear hl
        by_cases hKn : K < m.length
        · have Hf := Lib.hid (vB_not (m := m) (fun h => by have := h.nk (by omega); have := HkO.out; omega))
          have h64 : K ≤ 64 := by have := H16.out; omega
          go_wp2
          go_ret
          exact ⟨ret_bool Hf.out.symm, by (repeat (first | exact Grew.refl _ | refine Grew.over ?_ _ | refine Grew.alloc ?_ _ | refine Grew.drew ?_ | refine Grew.drewN ?_ _))⟩
        · by_cases hK64 : 64 < K
          · have Hf := Lib.hid (vB_not (m := m) (fun h => by have := h.k64 (by omega); have := HkO.out; omega))
            go_wp2
            go_ret
            exact ⟨ret_bool Hf.out.symm, by (repeat (first | exact Grew.refl _ | refine Grew.over ?_ _ | refine Grew.alloc ?_ _ | refine Grew.drew ?_ | refine Grew.drewN ?_ _))⟩
          · cases ha : (rowOf m k).any badC
            · have Hrow : Hid (rowA m k) := Lib.hid (by
                have e := HkO.out
                exact ⟨by rw [Hl.out, e], by omega, by omega, fun v hv => any_badC.1 ha v (by rw [Hl.out, ← e]; exact hv)⟩)
              go_wp2_with ((go_at_call 45; apply Calls.mono; (with_reducible exact containsFunc_v _ _ _ _ badC _ (hI.grew (by (repeat (first | exact Grew.refl _ | refine Grew.over ?_ _ | refine Grew.alloc ?_ _ | refine Grew.drew ?_ | refine Grew.drewN ?_ _)))) Hl.out (fun c => valid1_p c _)); rintro e w' ⟨rfl, rfl⟩))
              go_roundw
              case rel =>
                refine ⟨k + 1, by omega, by go_num, fun u hu => ?_, by (repeat (first | exact Grew.refl _ | refine Grew.over ?_ _ | refine Grew.alloc ?_ _ | refine Grew.drew ?_ | refine Grew.drewN ?_ _))⟩
                by_cases h : u = k
                · rw [h]; exact Hrow.out
                · exact Hall.out u (by omega)
              case measure => simp [intOf]; omega
            · have Hf := Lib.hid (vB_not (m := m) (fun h => by
                have := any_badC.2 (fun v hv => h.b k hlt v (by rw [HkO.out, ← Hl.out]; exact hv))
                rw [ha] at this; cases this))
              go_wp2_with ((go_at_call 45; apply Calls.mono; (with_reducible exact containsFunc_v _ _ _ _ badC _ (hI.grew (by (repeat (first | exact Grew.refl _ | refine Grew.over ?_ _ | refine Grew.alloc ?_ _ | refine Grew.drew ?_ | refine Grew.drewN ?_ _)))) Hl.out (fun c => valid1_p c _)); rintro e w' ⟨rfl, rfl⟩))
              go_ret
              exact ⟨ret_bool Hf.out.symm, by (repeat (first | exact Grew.refl _ | refine Grew.over ?_ _ | refine Grew.alloc ?_ _ | refine Grew.drew ?_ | refine Grew.drewN ?_ _))⟩
      · have hl' : (((rowOf m k).length : Int) != (K : Int)) = true := by rw [bne_iff_ne]; omega
        have Hf := Lib.hid (vB_not (m := m) (fun h => hl ((h.sq k hlt).trans HkO.out)))
        clear hl
        go_wp2
        go_ret
        exact ⟨ret_bool Hf.out.symm, by (repeat (first | exact Grew.refl _ | refine Grew.over ?_ _ | refine Grew.alloc ?_ _ | refine Grew.drew ?_ | refine Grew.drewN ?_ _))⟩
    · have Hf := Lib.hid (vB_iff.2 (vA_iff.2 ⟨H16.out, fun u hu => Hall.out u (by omega)⟩))
      go_wp2
      go_ret
      exact ⟨ret_bool Hf.out.symm, by (repeat (first | exact Grew.refl _ | refine Grew.over ?_ _ | refine Grew.alloc ?_ _ | refine Grew.drew ?_ | refine Grew.drewN ?_ _))⟩
end Go.Proofs.Ytdenjldadlgniaa
