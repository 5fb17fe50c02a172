/- Contracts of the program: Lower, and the library's Clone. -/
import Derived.Test.YtnodgagmnekliaaBoundP2
import Derived.Lib.SliceRun
set_option linter.unusedSimpArgs false
set_option linter.unusedVariables false
namespace Go.Proofs.Ytnodgagmnekliaa
open Go.RowKit

theorem mn_comm (m : List (List Int)) (u v : Nat) : mn m u v = mn m v u := by unfold mn; omega
theorem range_snoc (c : Nat → Nat → Int) (u : Nat) : costL c (List.range (u + 1)) = costL c (List.range u) + sumL (fun a => c a u) (List.range u) := by
  rw [List.range_succ, costL_snoc]

set_option maxHeartbeats 4000000 in
theorem lower_p (p : Option Addr) (n cp : Nat) (m : List (List Int)) (w : World) (hM : Mat w p m) (hn : m.length = n) :
    Calls Try.prog 17 #[.slice p n cp] w fun e w' => e = .returned (.int .i64 (if vMatB m then lowM m else 0)) ∧ Grew w w' := by
  subst hn
  cases hv : vMatB m
  case false =>
    go_enter Try.func17, Try.ntmps17
    go_wp2_with ((go_at_call 19; apply Calls.mono; (with_reducible exact valid_p _ _ _ _ _ hM rfl); rintro e w' ⟨rfl, rfl⟩))
    go_ret
    exact ⟨ret_int (by simp), Grew.refl w⟩
  case true =>
  have hV := vMatB_iff.1 hv
  have hm8 := hV.1
  have hcell : ∀ x, x < m.length → ∀ y, y < m.length → 0 ≤ mn m x y ∧ mn m x y ≤ 1000000 := by
    intro x hx y hy
    have h1 := (hV.2 x hx).2 y hy
    have h2 := (hV.2 y hy).2 x hx
    unfold mn
    omega
  have hB : ∀ i, i ≤ m.length → 0 ≤ costL (mn m) (List.range i) ∧ costL (mn m) (List.range i) ≤ 64000000 := by
    intro i hi
    have := costL_bd (c := mn m) (l := List.range i) (fun x hx y hy => hcell x (by simp at hx; omega) y (by simp at hy; omega)) (by simp; omega)
    simp at this
    omega
  have hS : ∀ u, u < m.length → ∀ j, j ≤ m.length → 0 ≤ sumL (fun a => mn m a u) (List.range j) ∧ sumL (fun a => mn m a u) (List.range j) ≤ 8000000 := by
    intro u hu j hj
    have := sumL_bd (f := fun a => mn m a u) (B := 1000000) (l := List.range j) fun y hy => hcell y (by simp at hy; omega) u hu
    simp at this
    omega
  have HB := Lib.hid hB
  have HS := Lib.hid hS
  have HV := Lib.hid hV
  clear hcell hB hS hV
  simp only [if_true]
  rw [lowM_eq]
  go_enter Try.func17, Try.ntmps17
  go_wp2_with ((go_at_call 19; apply Calls.mono; (with_reducible exact valid_p _ _ _ _ _ hM rfl); rintro e w' ⟨rfl, rfl⟩))
  clear hv
  go_loopw [3, 4, 11] (fun s _ i wr => ∃ j : Nat, j ≤ m.length ∧ i = .int .i64 j ∧ s = .int .i64 (costL (mn m) (List.range j)) ∧ Grew w wr) (fun _ _ i _ => m.length - (intOf i).toNat)
  case atStart => exact ⟨0, Nat.zero_le _, rfl, rfl, Grew.refl w⟩
  case round =>
    obtain ⟨j, hj, rfl, rfl, x, rfl⟩ := hrel
    by_cases hlt : j < m.length
    · go_wp2
      go_loopw [3, 5, 15] (fun s _ i wr => ∃ t : Nat, t ≤ j ∧ i = .int .i64 t ∧ s = .int .i64 (costL (mn m) (List.range j) + sumL (fun a => mn m a j) (List.range t)) ∧ Grew w wr) (fun _ _ i _ => j - (intOf i).toNat)
      case atStart => exact ⟨0, Nat.zero_le _, rfl, by simp [sumL], Grew.over' w x⟩
      case round =>
        obtain ⟨t, ht, rfl, rfl, x2, rfl⟩ := hrel
        by_cases hlt2 : t < j
        · obtain ⟨b, o, rb, ro, rc, rfl, hbs, hrow⟩ := hM.valid HV.out (by omega)
          obtain ⟨r1, r2, r3⟩ := hrow j hlt
          obtain ⟨r4, r5, r6⟩ := hrow t (by omega)
          have d1 := r3 t (by omega)
          have d2 := r6 j hlt
          obtain ⟨b1, b2⟩ := HB.out j hj
          obtain ⟨b3, b4⟩ := HS.out j hlt t (by omega)
          obtain ⟨b5, b6⟩ := (HV.out.2 j hlt).2 t (by omega)
          obtain ⟨b7, b8⟩ := (HV.out.2 t (by omega)).2 j hlt
          have hmn : mn m t j = min (at2 m j t) (at2 m t j) := by unfold mn; omega
          have Hmn := Lib.hid hmn
          have Hnx : Hid (sumL (fun a => mn m a j) (List.range (t + 1)) = sumL (fun a => mn m a j) (List.range t) + mn m t j) := Lib.hid (by rw [List.range_succ, sumL_snoc])
          generalize sumL (fun a => mn m a j) (List.range t) = S2 at *
          generalize costL (mn m) (List.range j) = S1 at *
          by_cases hc : at2 m t j < at2 m j t
          · have Hc : Hid (mn m t j = at2 m t j) := Lib.hid (by omega)
            clear hrow r3 r6 hM hmn
            go_wp2
            refine wp_region_over (by kernel_rfl) (by kernel_rfl) ?_; (repeat (go_big_quiet_step (fail))); refine wpQuiet_nil ?_; rintro _ ⟨x, rfl⟩
            go_wp2
            go_roundw
            case rel =>
              refine ⟨t + 1, by omega, by go_num, ?_, ?_⟩
              · rw [Hnx.out, Hc.out, Int.add_assoc]
              · (repeat (first | exact Grew.refl _ | refine Grew.over ?_ _ | refine Grew.alloc ?_ _ | refine Grew.drew ?_ | refine Grew.drewN ?_ _))
            case measure => simp [intOf]; omega
          · have Hc : Hid (mn m t j = at2 m j t) := Lib.hid (by omega)
            clear hrow r3 r6 hM hmn
            go_wp2
            refine wp_region_over (by kernel_rfl) (by kernel_rfl) ?_; (repeat (go_big_quiet_step (fail))); refine wpQuiet_nil ?_; rintro _ ⟨x, rfl⟩
            go_wp2
            go_roundw
            case rel =>
              refine ⟨t + 1, by omega, by go_num, ?_, ?_⟩
              · rw [Hnx.out, Hc.out, Int.add_assoc]
              · (repeat (first | exact Grew.refl _ | refine Grew.over ?_ _ | refine Grew.alloc ?_ _ | refine Grew.drew ?_ | refine Grew.drewN ?_ _))
            case measure => simp [intOf]; omega
        · have htj : t = j := by omega
          subst htj
          have Hnx := Lib.hid (range_snoc (mn m) t)
          go_wp2
          go_roundw
          case rel =>
            refine ⟨t + 1, by omega, by go_num, by rw [Hnx.out], ?_⟩
            (repeat (first | exact Grew.refl _ | refine Grew.over ?_ _ | refine Grew.alloc ?_ _ | refine Grew.drew ?_ | refine Grew.drewN ?_ _))
          case measure => simp [intOf]; omega
    · have hjl : j = m.length := by omega
      subst hjl
      go_wp2
      go_ret
      refine ⟨rfl, ?_⟩
      (repeat (first | exact Grew.refl _ | refine Grew.over ?_ _ | refine Grew.alloc ?_ _ | refine Grew.drew ?_ | refine Grew.drewN ?_ _))

def ClonePost (p : Option Addr) (xs : List Int) (w : World) (e : Ending) (w' : World) : Prop :=
  ∃ v, e = .returned v ∧ Own w' w.heap.size v xs ∧ (v = .slice none 0 0 → p = none) ∧ Grew w w'

set_option maxHeartbeats 1000000 in
theorem clone_p (p : Option Addr) (n cap : Nat) (xs : List Int) (w : World) (hI : Ints w p xs) (hn : xs.length = n) (hc : p = none → cap = 0) (hlen : xs.length ≤ 1000000) :
    Calls Try.prog 27 #[.slice p n cap] w (ClonePost p xs w) := by
  subst hn
  cases p with
  | none =>
    have h0 : xs = [] := by
      obtain ⟨_, _, b, o', h3, _⟩ := hI
      cases xs with
      | nil => rfl
      | cons y l => exact absurd (h3 (by simp)).1 (by simp)
    subst h0
    have hc0 := hc rfl
    subst hc0
    clear hc
    go_enter Try.func27, Try.ntmps27
    have heq := fun W : World => Lib.run_eql_slice_nil (P := Try.prog) W 25 3 none 0 0 0 0 Try.underlying25
    go_wp2
    go_ret
    exact ⟨_, rfl, Own.nil w _, fun _ => rfl, Grew.refl w⟩
  | some a =>
    clear hc
    go_enter Try.func27, Try.ntmps27
    have heq := fun W : World => Lib.run_eql_slice_nil (P := Try.prog) W 25 3 (some a) xs.length cap 0 0 Try.underlying25
    go_wp2_with (at_builtin; refine wp_append_ints rfl _ _ rfl w (by (repeat (first | exact Grew.refl _ | refine Grew.over ?_ _ | refine Grew.alloc ?_ _ | refine Grew.drew ?_ | refine Grew.drewN ?_ _))) _ [] xs rfl (Own.empty _ _ _ (by simp) (by simp)) _ _ cap rfl (hI.grew (by (repeat (first | exact Grew.refl _ | refine Grew.over ?_ _ | refine Grew.alloc ?_ _ | refine Grew.drew ?_ | refine Grew.drewN ?_ _)))) rfl (fun h => by cases h) (by simp; omega) ?_; intro v1 x1 hown1 hnn)
    go_ret
    refine ⟨v1, rfl, by simpa using hown1, fun e => ?_, ?_⟩
    · have h2 : Value.slice (some ⟨w.heap.size, 0, none⟩) 0 0 = .slice none 0 0 := hnn e
      cases h2
    · (repeat (first | exact Grew.refl _ | refine Grew.over ?_ _ | refine Grew.alloc ?_ _ | refine Grew.drew ?_ | refine Grew.drewN ?_ _))

end Go.Proofs.Ytnodgagmnekliaa
