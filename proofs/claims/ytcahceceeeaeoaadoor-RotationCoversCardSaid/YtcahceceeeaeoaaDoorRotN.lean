/- lists, at equal lists. -/
import Derived.Test.YtcahceceeeaeoaaDoorRotK
set_option linter.unusedSimpArgs false
set_option linter.unusedVariables false
namespace Go.Proofs.YtcahceceeeaeoaaDoor
open Go.RowKit
attribute [local go_sem ↓] Go.wp_at_zero Go.wp_at_succ

set_option maxHeartbeats 4000000 in
theorem lists_e (p q : Option Addr) (n k cp cq : Nat) (m m' : List (List Int)) (w : World) (he : m = m') (hA : Mat w p m) (hB : Mat w q m') (hn : m.length = n) (hk : m'.length = k) :
    Calls Tryd.prog 12 #[.slice p n cp, .slice q k cq] w fun e w' => e = .returned (.bool true) ∧ Grew w w' := by
  subst he hn hk
  have hm1 := hA.1
  have HA := Lib.hid hA
  have HB := Lib.hid hB
  have hne : ((m.length : Int) != (m.length : Int)) = false := by simp
  clear hA hB
  go_enter Tryd.func12, Tryd.ntmps12
  go_wp2
  clear hne
  go_loopw [5] (fun i wr => ∃ u : Nat, u ≤ m.length ∧ i = .int .i64 u ∧ Grew w wr) (fun i _ => m.length - (intOf i).toNat)
  case atStart => exact ⟨0, Nat.zero_le _, rfl, by (repeat (first | exact Grew.refl _ | refine Grew.over ?_ _ | refine Grew.alloc ?_ _ | refine Grew.drew ?_ | refine Grew.drewN ?_ _))⟩
  case round =>
    obtain ⟨u, hu, rfl, hg⟩ := hrel
    have Hg := Lib.hid hg
    have hsz := hg.below.size
    clear hg
    by_cases hlt : u < m.length
    · obtain ⟨b1, o1, rp1, rc1, rfl, l1, c1⟩ := HA.out.rows (by omega)
      obtain ⟨b2, o2, rp2, rc2, rfl, l2, c2⟩ := HB.out.rows (by omega)
      obtain ⟨a1, i1⟩ := c1 wr Hg.out u hlt
      obtain ⟨a2, i2⟩ := c2 wr Hg.out u hlt
      have C1 := Lib.hid (fun (W1 : World) (h : Grew w W1) => (c1 W1 h u hlt).1)
      have C2 := Lib.hid (fun (W1 : World) (h : Grew w W1) => (c2 W1 h u hlt).1)
      obtain ⟨v1, hv1⟩ : ∃ v1, rp1 u = v1 := ⟨_, rfl⟩
      obtain ⟨v2, hv2⟩ : ∃ v2, rp2 u = v2 := ⟨_, rfl⟩
      rw [hv1] at a1 i1 C1
      rw [hv2] at a2 i2 C2
      have hrl := i1.1
      have I1 := Lib.hid i1
      have I2 := Lib.hid i2
      have hne : (((rowOf m u).length : Int) != ((rowOf m u).length : Int)) = false := by simp
      clear c1 c2 i1 i2 hv1 hv2
      go_wp2
      refine wp_region_over (by kernel_rfl) (by kernel_rfl) ?_; (repeat (go_big_quiet_step (fail))); refine wpQuiet_nil ?_; rintro _ ⟨x, rfl⟩
      clear hne a1 a2
      go_wp2
      go_loopw [6] (fun i wq => ∃ k : Nat, k ≤ (rowOf m u).length ∧ i = .int .i64 k ∧ Grew wr wq) (fun i _ => (rowOf m u).length - (intOf i).toNat)
      case atStart => exact ⟨0, Nat.zero_le _, rfl, by (repeat (first | exact Grew.refl _ | refine Grew.over ?_ _ | refine Grew.alloc ?_ _ | refine Grew.drew ?_ | refine Grew.drewN ?_ _))⟩
      case round =>
        obtain ⟨k, hk, rfl, hgq⟩ := hrel
        have Hgq := Lib.hid hgq
        have Hgt : Hid (Grew w wr) := Lib.hid (Hg.out.trans hgq)
        have a1 := C1.out wr Hgt.out
        have a2 := C2.out wr Hgt.out
        have hszq := hgq.below.size
        clear hgq
        by_cases hlk : k < (rowOf m u).length
        · obtain ⟨g1, s1, rfl, t1, d1⟩ := I1.out.cells (by omega)
          obtain ⟨g2, s2, rfl, t2, d2⟩ := I2.out.cells (by omega)
          have e1 := d1 wr Hgq.out k hlk
          have e2 := d2 wr Hgq.out k hlk
          have hne : (ge (rowOf m u) k != ge (rowOf m u) k) = false := by simp
          clear d1 d2
          go_wp2
          refine wp_region_over (by kernel_rfl) (by kernel_rfl) ?_; (repeat (go_big_quiet_step (fail))); refine wpQuiet_nil ?_; rintro _ ⟨x, rfl⟩
          clear hne a1 a2 e1 e2
          go_wp2
          go_roundw
          case rel => exact ⟨k + 1, by omega, by go_num, Hgq.out.trans (by (repeat (first | exact Grew.refl _ | refine Grew.over ?_ _ | refine Grew.alloc ?_ _ | refine Grew.drew ?_ | refine Grew.drewN ?_ _)))⟩
          case measure => simp [intOf]; omega
        · go_wp2
          go_roundw
          case rel => exact ⟨u + 1, by omega, by go_num, Hgt.out⟩
          case measure => simp [intOf]; omega
    · go_wp2
      go_ret
      exact ⟨rfl, Hg.out⟩

end Go.Proofs.YtcahceceeeaeoaaDoor
