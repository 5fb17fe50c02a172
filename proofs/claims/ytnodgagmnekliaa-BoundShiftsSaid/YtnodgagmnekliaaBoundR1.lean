/- Contracts of the reference: Valid, Same, Less, in, sum. -/
import Derived.Test.YtnodgagmnekliaaBoundM
set_option linter.unusedSimpArgs false
set_option linter.unusedVariables false
namespace Go.Proofs.Ytnodgagmnekliaa
open Go.RowKit

set_option maxHeartbeats 1000000 in
theorem same_r (p q : Option Addr) (n k cp cq : Nat) (a b : List Int) (w : World) (ha : Ints w p a) (hb : Ints w q b) (hn : a.length = n) (hk : b.length = k) :
    Calls Try.prog 12 #[.slice p n cp, .slice q k cq] w fun e w' => e = .returned (.bool (decide (a = b))) ∧ Grew w w' := by
  subst hn hk
  have hma := ha.1
  have hmb := hb.1
  by_cases hl : a.length = b.length
  · obtain ⟨b1, o1, h1, c1⟩ := ha.open
    obtain ⟨b2, o2, h2, c2⟩ := hb.open
    clear ha hb
    rw [← hl] at h2 c2 hmb ⊢
    have Hl := Lib.hid hl
    clear hl
    go_enter Try.func12, Try.ntmps12
    go_wp2
    go_loopw [5] (fun i wr => ∃ j : Nat, j ≤ a.length ∧ i = .int .i64 j ∧ (∀ t, t < j → ge a t = ge b t) ∧ Grew w wr) (fun i _ => a.length - (intOf i).toNat)
    case atStart => exact ⟨0, Nat.zero_le _, rfl, (fun j hj => by omega), Grew.refl w⟩
    case round =>
      obtain ⟨j, hj, rfl, hall, x, rfl⟩ := hrel
      have Hall := Lib.hid hall
      clear hall
      by_cases hlt : j < a.length
      · obtain ⟨rfl, g1⟩ := h1 (by omega)
        obtain ⟨rfl, g2⟩ := h2 (by omega)
        have d1 := c1 j hlt
        have d2 := c2 j hlt
        clear h1 h2 c1 c2
        by_cases he : ge a j = ge b j
        · have he' : (ge a j != ge b j) = false := by simp [he]
          have He := Lib.hid he
          clear he
          go_wp2
          refine wp_region_over (by kernel_rfl) (by kernel_rfl) ?_; (repeat (go_big_quiet_step (fail))); refine wpQuiet_nil ?_; rintro _ ⟨x, rfl⟩
          go_wp2
          go_roundw
          case rel =>
            refine ⟨j + 1, by omega, by go_num, fun t ht => ?_, ?_⟩
            · by_cases h : t = j
              · rw [h]; exact He.out
              · exact Hall.out t (by omega)
            · (repeat (first | exact Grew.refl _ | refine Grew.over ?_ _ | refine Grew.alloc ?_ _ | refine Grew.drew ?_ | refine Grew.drewN ?_ _))
          case measure => simp [intOf]; omega
        · have he' : (ge a j != ge b j) = true := by simp [he]
          have He := Lib.hid he
          clear he
          go_wp2
          refine wp_region_over (by kernel_rfl) (by kernel_rfl) ?_; (repeat (go_big_quiet_step (fail))); refine wpQuiet_nil ?_; rintro _ ⟨x, rfl⟩
          go_wp2
          go_ret
          refine ⟨ret_bool ?_, ?_⟩
          · exact (decide_eq_false (fun e => He.out (by rw [e]))).symm
          · (repeat (first | exact Grew.refl _ | refine Grew.over ?_ _ | refine Grew.alloc ?_ _ | refine Grew.drew ?_ | refine Grew.drewN ?_ _))
      · have Hf : Hid (a = b) := Lib.hid (List.ext_getElem Hl.out fun i h1 h2 => by
          have := Hall.out i (by omega)
          rwa [ge_eq a h1, ge_eq b h2] at this)
        go_wp2
        go_ret
        refine ⟨ret_bool ?_, ?_⟩
        · exact (decide_eq_true Hf.out).symm
        · (repeat (first | exact Grew.refl _ | refine Grew.over ?_ _ | refine Grew.alloc ?_ _ | refine Grew.drew ?_ | refine Grew.drewN ?_ _))
  · have hne : ((a.length : Int) != (b.length : Int)) = true := by
      rw [bne_iff_ne]; omega
    have hf : decide (a = b) = false := decide_eq_false (fun e => hl (by rw [e]))
    have Hf := Lib.hid hf
    clear hf hl
    go_enter Try.func12, Try.ntmps12
    go_wp2
    go_ret
    exact ⟨ret_bool Hf.out.symm, Grew.refl w⟩

theorem rowOK_of {m : List (List Int)} {u : Nat} (h1 : (rowOf m u).length = m.length) (h2 : ∀ v, v < m.length → 0 ≤ ge (rowOf m u) v ∧ ge (rowOf m u) v ≤ 1000000) : rowOK m u := ⟨h1, h2⟩

set_option maxHeartbeats 2000000 in
theorem valid_r (p : Option Addr) (n cap : Nat) (m : List (List Int)) (w : World) (hM : Mat w p m) (hn : m.length = n) :
    Calls Try.prog 8 #[.slice p n cap] w fun e w' => e = .returned (.bool (vMatB m)) ∧ w = w' := by
  subst hn
  obtain ⟨hm, b, o, rp, rc, h3, h4⟩ := hM
  by_cases h8 : m.length ≤ 8
  case neg =>
    have Hf := Lib.hid (vMatB_not (m := m) (fun h => h8 h.1))
    have h8' : 8 < m.length := by omega
    clear h8
    go_enter Try.func8, Try.ntmps8
    go_wp2
    go_ret
    exact ⟨ret_bool Hf.out.symm, rfl⟩
  case pos =>
  have H8 := Lib.hid h8
  go_enter Try.func8, Try.ntmps8
  go_wp2
  go_loop [3] (fun i => ∃ k : Nat, k ≤ m.length ∧ i = .int .i64 k ∧ ∀ u, u < k → rowOK m u) (fun i => m.length - (intOf i).toNat)
  case atStart => exact ⟨0, Nat.zero_le _, rfl, fun j hj => by omega⟩
  case round =>
    obtain ⟨k, hk, rfl, hall⟩ := hrel
    have Hall := Lib.hid hall
    clear hall
    by_cases hlt : k < m.length
    · obtain ⟨rfl, hb⟩ := h3 (by omega)
      obtain ⟨hc, hI⟩ := h4 k hlt
      obtain ⟨b1, o1, g3, g4⟩ := hI.open
      have hmr := hI.1
      clear h3 h4 hI
      by_cases hl : (rowOf m k).length = m.length
      · rw [hl] at g3 g4 hc
        have Hl := Lib.hid hl
        clear hl
        go_wp2
        go_loop [4] (fun i => ∃ j : Nat, j ≤ m.length ∧ i = .int .i64 j ∧ ∀ v, v < j → 0 ≤ ge (rowOf m k) v ∧ ge (rowOf m k) v ≤ 1000000) (fun i => m.length - (intOf i).toNat)
        case atStart => exact ⟨0, Nat.zero_le _, rfl, fun j hj => by omega⟩
        case round =>
          obtain ⟨j, hj, rfl, hall2⟩ := hrel
          have Hall2 := Lib.hid hall2
          clear hall2
          by_cases hlt2 : j < m.length
          · obtain ⟨q1, q2⟩ := g3 (by omega)
            have d := g4 j hlt2
            rw [q1] at hc
            clear g3 g4 q1
            by_cases hok : 0 ≤ ge (rowOf m k) j ∧ ge (rowOf m k) j ≤ 1000000
            · obtain ⟨hok1, hok2⟩ := hok
              go_wp2
              go_round
              case rel =>
                refine ⟨j + 1, by omega, by go_num, fun v hv => ?_⟩
                by_cases h : v = j
                · rw [h]; exact ⟨hok1, hok2⟩
                · exact Hall2.out v (by omega)
              case measure => simp [intOf]; omega
            · have Hf := Lib.hid (vMatB_not (m := m) (fun h => hok ((h.2 k hlt).2 j hlt2)))
              have hok1 : ge (rowOf m k) j < 0 ∨ 1000000 < ge (rowOf m k) j := by omega
              clear hok
              rcases hok1 with hok1 | hok1
              · go_wp2
                go_ret
                exact ⟨ret_bool Hf.out.symm, rfl⟩
              · have hok2 : 0 ≤ ge (rowOf m k) j := by omega
                go_wp2
                go_ret
                exact ⟨ret_bool Hf.out.symm, rfl⟩
          · go_wp2
            go_round
            case rel =>
              refine ⟨k + 1, by omega, by go_num, fun u hu => ?_⟩
              by_cases h : u = k
              · rw [h]; exact rowOK_of Hl.out fun v hv => Hall2.out v (by omega)
              · exact Hall.out u (by omega)
            case measure => simp [intOf]; omega
      · have hl' : (((rowOf m k).length : Int) != (m.length : Int)) = true := by rw [bne_iff_ne]; omega
        have Hf := Lib.hid (vMatB_not (m := m) (fun h => hl (h.2 k hlt).1))
        clear hl g3 g4
        go_wp2
        go_ret
        exact ⟨ret_bool Hf.out.symm, rfl⟩
    · have Hf := Lib.hid (vMatB_iff.2 (show vMat m from ⟨H8.out, fun u hu => Hall.out u (by omega)⟩))
      go_wp2
      go_ret
      exact ⟨ret_bool Hf.out.symm, rfl⟩

end Go.Proofs.Ytnodgagmnekliaa
