/- Contracts of the reference: Lower, Less, Cost. -/
import Derived.Test.YtnodgagmnekliaaBoundR2
set_option linter.unusedSimpArgs false
set_option linter.unusedVariables false
namespace Go.Proofs.Ytnodgagmnekliaa
open Go.RowKit

theorem range_drop {n u : Nat} (h : u < n) : (List.range n).drop u = u :: (List.range n).drop (u + 1) := by
  rw [List.drop_eq_getElem_cons (by simpa using h)]
  simp

/-- The cheaper way of a pair. -/
def mn (m : List (List Int)) (u v : Nat) : Int := min (at2 m u v) (at2 m v u)
def lowM (m : List (List Int)) : Int := lowL (at2 m) (List.range m.length)
theorem lowM_eq (m : List (List Int)) : lowM m = costL (mn m) (List.range m.length) := rfl

set_option maxHeartbeats 2000000 in
theorem lower_r (p : Option Addr) (n cp : Nat) (m : List (List Int)) (w : World) (hM : Mat w p m) (hn : m.length = n) :
    Calls Try.prog 14 #[.slice p n cp] w fun e w' => e = .returned (.int .i64 (if vMatB m then lowM m else 0)) ∧ Grew w w' := by
  subst hn
  cases hv : vMatB m
  case false =>
    go_enter Try.func14, Try.ntmps14
    go_wp2_with ((go_at_call 8; apply Calls.mono; (with_reducible exact valid_r _ _ _ _ _ hM rfl); rintro e w' ⟨rfl, rfl⟩))
    go_ret
    exact ⟨ret_int (by simp), Grew.refl w⟩
  case true =>
  have hV := vMatB_iff.1 hv
  have hm8 := hV.1
  have hcell : ∀ x ∈ List.range m.length, ∀ y ∈ List.range m.length, 0 ≤ mn m x y ∧ mn m x y ≤ 1000000 := by
    intro x hx y hy
    have h1 := (hV.2 x (by simpa using hx)).2 y (by simpa using hy)
    have h2 := (hV.2 y (by simpa using hy)).2 x (by simpa using hx)
    unfold mn
    omega
  have hB : ∀ i, 0 ≤ costL (mn m) ((List.range m.length).drop i) ∧ costL (mn m) ((List.range m.length).drop i) ≤ 64000000 := by
    intro i
    have := costL_bd (c := mn m) (l := (List.range m.length).drop i) (fun x hx y hy => hcell x (List.mem_of_mem_drop hx) y (List.mem_of_mem_drop hy)) (by simp; omega)
    have hl : ((List.range m.length).drop i).length ≤ 8 := by simp; omega
    omega
  have hS : ∀ u, u < m.length → ∀ j, 0 ≤ sumL (mn m u) ((List.range m.length).drop j) := fun u hu j => sumL_nonneg fun y hy => (hcell u (by simpa using hu) y (List.mem_of_mem_drop hy)).1
  have HB := Lib.hid hB
  have HS := Lib.hid hS
  have HV := Lib.hid hV
  have hB0 := hB 0
  rw [List.drop_zero] at hB0
  obtain ⟨b1, b2⟩ := hB0
  clear hcell hB hS hV
  simp only [if_true]
  rw [lowM_eq]
  generalize hT : costL (mn m) (List.range m.length) = T at b1 b2 ⊢
  have HT := Lib.hid hT
  clear hT
  go_enter Try.func14, Try.ntmps14
  go_wp2_with ((go_at_call 8; apply Calls.mono; (with_reducible exact valid_r _ _ _ _ _ hM rfl); rintro e w' ⟨rfl, rfl⟩))
  clear hv
  go_loopw [3, 4] (fun s i wr => ∃ j : Nat, ∃ S : Int, j ≤ m.length ∧ i = .int .i64 j ∧ s = .int .i64 S ∧ 0 ≤ S ∧ S + costL (mn m) ((List.range m.length).drop j) = T ∧ Grew w wr) (fun _ i _ => m.length - (intOf i).toNat)
  case atStart => exact ⟨0, 0, Nat.zero_le _, rfl, rfl, by omega, by rw [List.drop_zero, HT.out]; omega, Grew.refl w⟩
  case round =>
    obtain ⟨j, S, hj, rfl, rfl, hS0, hsum, x, rfl⟩ := hrel
    have Hsum := Lib.hid hsum
    clear hsum
    by_cases hlt : j < m.length
    · go_wp2
      go_loopw [3, 5] (fun s i wr => ∃ t : Nat, ∃ S' : Int, j + 1 ≤ t ∧ t ≤ m.length ∧ i = .int .i64 t ∧ s = .int .i64 S' ∧ 0 ≤ S' ∧ S' + sumL (mn m j) ((List.range m.length).drop t) + costL (mn m) ((List.range m.length).drop (j + 1)) = T ∧ Grew w wr) (fun _ i _ => m.length - (intOf i).toNat)
      case atStart =>
        refine ⟨j + 1, S, by omega, by omega, by go_num, rfl, hS0, ?_, Grew.over' w x⟩
        have := Hsum.out
        rw [range_drop hlt] at this
        simp only [costL] at this
        omega
      case round =>
        obtain ⟨t, S', ht0, ht, rfl, rfl, hS1, hsum2, x2, rfl⟩ := hrel
        have Hsum2 := Lib.hid hsum2
        clear hsum2
        by_cases hlt2 : t < m.length
        · obtain ⟨b, o, rb, ro, rc, rfl, hbs, hrow⟩ := hM.valid HV.out (by omega)
          obtain ⟨r1, r2, r3⟩ := hrow j hlt
          obtain ⟨r4, r5, r6⟩ := hrow t hlt2
          have d1 := r3 t hlt2
          have d2 := r6 j hlt
          have hnext := Hsum2.out
          rw [range_drop hlt2] at hnext
          simp only [sumL] at hnext
          have hb2 := HB.out (j + 1)
          have hb3 := HS.out j hlt (t + 1)
          have hb4 := ((HV.out.2 j hlt).2 t hlt2).1
          have hb5 := ((HV.out.2 t hlt2).2 j hlt).1
          have hmn : mn m j t = min (at2 m j t) (at2 m t j) := rfl
          have hs0 : S' + min (at2 m j t) (at2 m t j) ≤ 64000000 := by omega
          have hs1 : S' + mn m j t + sumL (mn m j) ((List.range m.length).drop (t + 1)) + costL (mn m) ((List.range m.length).drop (j + 1)) = T := by omega
          have Hnext := Lib.hid hs1
          have Hmn := Lib.hid hmn
          by_cases hc : at2 m t j < at2 m j t
          · have hs2 : S' + at2 m t j ≤ 64000000 := by omega
            have Hc : Hid (mn m j t = at2 m t j) := Lib.hid (by omega)
            clear hrow r3 r6 hnext hb2 hb3 hM hmn hs1 hs0
            go_wp2
            refine wp_region_over (by kernel_rfl) (by kernel_rfl) ?_; (repeat (go_big_quiet_step (fail))); refine wpQuiet_nil ?_; rintro _ ⟨x, rfl⟩
            go_wp2
            go_roundw
            case rel =>
              refine ⟨t + 1, S' + at2 m t j, by omega, by omega, by go_num, rfl, by omega, ?_, ?_⟩
              · have := Hnext.out
                rw [Hc.out] at this
                exact this
              · (repeat (first | exact Grew.refl _ | refine Grew.over ?_ _ | refine Grew.alloc ?_ _ | refine Grew.drew ?_ | refine Grew.drewN ?_ _))
            case measure => simp [intOf]; omega
          · have hs2 : S' + at2 m j t ≤ 64000000 := by omega
            have Hc : Hid (mn m j t = at2 m j t) := Lib.hid (by omega)
            clear hrow r3 r6 hnext hb2 hb3 hM hmn hs1 hs0
            go_wp2
            refine wp_region_over (by kernel_rfl) (by kernel_rfl) ?_; (repeat (go_big_quiet_step (fail))); refine wpQuiet_nil ?_; rintro _ ⟨x, rfl⟩
            go_wp2
            go_roundw
            case rel =>
              refine ⟨t + 1, S' + at2 m j t, by omega, by omega, by go_num, rfl, by omega, ?_, ?_⟩
              · have := Hnext.out
                rw [Hc.out] at this
                exact this
              · (repeat (first | exact Grew.refl _ | refine Grew.over ?_ _ | refine Grew.alloc ?_ _ | refine Grew.drew ?_ | refine Grew.drewN ?_ _))
            case measure => simp [intOf]; omega
        · go_wp2
          go_roundw
          case rel =>
            refine ⟨j + 1, S', by omega, by go_num, rfl, hS1, ?_, ?_⟩
            · have := Hsum2.out
              rw [List.drop_eq_nil_of_le (by simp; omega)] at this
              simp only [sumL] at this
              omega
            · (repeat (first | exact Grew.refl _ | refine Grew.over ?_ _ | refine Grew.alloc ?_ _ | refine Grew.drew ?_ | refine Grew.drewN ?_ _))
          case measure => simp [intOf]; omega
    · have Hf : Hid (S = T) := Lib.hid (by
        have := Hsum.out
        rw [List.drop_eq_nil_of_le (by simp; omega)] at this
        simp only [costL] at this
        omega)
      go_wp2
      go_ret
      refine ⟨ret_int Hf.out, ?_⟩
      (repeat (first | exact Grew.refl _ | refine Grew.over ?_ _ | refine Grew.alloc ?_ _ | refine Grew.drew ?_ | refine Grew.drewN ?_ _))

/-- Lexicographically before, on numbers. -/
def lexI : List Int → List Int → Bool
  | a :: l, b :: r => if a = b then lexI l r else decide (a < b)
  | _, _ => false
theorem drop_ge {xs : List Int} {i : Nat} (h : i < xs.length) : xs.drop i = ge xs i :: xs.drop (i + 1) := by
  rw [List.drop_eq_getElem_cons h, ge_eq xs h]

set_option maxHeartbeats 1000000 in
theorem less_r (p q : Option Addr) (n k cp cq : Nat) (a b : List Int) (w : World) (ha : Ints w p a) (hb : Ints w q b) (hn : a.length = n) (hk : b.length = k) :
    Calls Try.prog 15 #[.slice p n cp, .slice q k cq] w fun e w' => e = .returned (.bool (lexI a b)) ∧ Grew w w' := by
  subst hn hk
  have hma := ha.1
  have hmb := hb.1
  obtain ⟨b1, o1, h1, c1⟩ := ha.open
  obtain ⟨b2, o2, h2, c2⟩ := hb.open
  clear ha hb
  go_enter Try.func15, Try.ntmps15
  go_wp2
  go_loopw [5] (fun i wr => ∃ j : Nat, j ≤ a.length ∧ j ≤ b.length ∧ i = .int .i64 j ∧ lexI a b = lexI (a.drop j) (b.drop j) ∧ Grew w wr) (fun i _ => a.length - (intOf i).toNat)
  case atStart => exact ⟨0, Nat.zero_le _, Nat.zero_le _, rfl, rfl, Grew.refl w⟩
  case round =>
    obtain ⟨j, hj, hj2, rfl, hall, x, rfl⟩ := hrel
    have Hall := Lib.hid hall
    clear hall
    by_cases hlt : j < a.length
    · by_cases hlt2 : j < b.length
      · obtain ⟨rfl, g1⟩ := h1 (by omega)
        obtain ⟨rfl, g2⟩ := h2 (by omega)
        have d1 := c1 j hlt
        have d2 := c2 j hlt2
        have hnext := Hall.out
        rw [drop_ge hlt, drop_ge hlt2] at hnext
        simp only [lexI] at hnext
        clear h1 h2 c1 c2
        by_cases he : ge a j = ge b j
        · have he' : (ge a j != ge b j) = false := by simp [he]
          rw [if_pos he] at hnext
          have Hn := Lib.hid hnext
          clear he hnext
          go_wp2
          refine wp_region_over (by kernel_rfl) (by kernel_rfl) ?_; (repeat (go_big_quiet_step (fail))); refine wpQuiet_nil ?_; rintro _ ⟨x, rfl⟩
          go_wp2
          go_roundw
          case rel =>
            refine ⟨j + 1, by omega, by omega, by go_num, Hn.out, ?_⟩
            (repeat (first | exact Grew.refl _ | refine Grew.over ?_ _ | refine Grew.alloc ?_ _ | refine Grew.drew ?_ | refine Grew.drewN ?_ _))
          case measure => simp [intOf]; omega
        · have he' : (ge a j != ge b j) = true := by simp [he]
          rw [if_neg he] at hnext
          have Hn := Lib.hid hnext
          clear he hnext
          go_wp2
          refine wp_region_over (by kernel_rfl) (by kernel_rfl) ?_; (repeat (go_big_quiet_step (fail))); refine wpQuiet_nil ?_; rintro _ ⟨x, rfl⟩
          go_wp2
          refine wp_region_over (by kernel_rfl) (by kernel_rfl) ?_; (repeat (go_big_quiet_step (fail))); refine wpQuiet_nil ?_; rintro _ ⟨x, rfl⟩
          go_wp2
          go_ret
          refine ⟨ret_bool ?_, ?_⟩
          · exact Hn.out.symm
          · (repeat (first | exact Grew.refl _ | refine Grew.over ?_ _ | refine Grew.alloc ?_ _ | refine Grew.drew ?_ | refine Grew.drewN ?_ _))
      · have Hn : Hid (lexI a b = false) := Lib.hid (by
          rw [Hall.out, show b.drop j = [] from List.drop_eq_nil_of_le (by omega)]
          cases a.drop j <;> rfl)
        clear h1 h2 c1 c2
        go_wp2
        go_ret
        refine ⟨ret_bool Hn.out.symm, ?_⟩
        (repeat (first | exact Grew.refl _ | refine Grew.over ?_ _ | refine Grew.alloc ?_ _ | refine Grew.drew ?_ | refine Grew.drewN ?_ _))
    · have Hn : Hid (lexI a b = false) := Lib.hid (by
        rw [Hall.out, show a.drop j = [] from List.drop_eq_nil_of_le (by omega)]
        rfl)
      clear h1 h2 c1 c2
      go_wp2
      go_ret
      refine ⟨ret_bool Hn.out.symm, ?_⟩
      (repeat (first | exact Grew.refl _ | refine Grew.over ?_ _ | refine Grew.alloc ?_ _ | refine Grew.drew ?_ | refine Grew.drewN ?_ _))

end Go.Proofs.Ytnodgagmnekliaa
