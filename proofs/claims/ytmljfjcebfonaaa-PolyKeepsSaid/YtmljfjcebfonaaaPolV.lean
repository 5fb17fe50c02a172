/- The statements' reversed. -/
import Derived.Test.YtmljfjcebfonaaaPolQ
set_option linter.unusedSimpArgs false
set_option linter.unusedVariables false
namespace Go.Proofs.Ytmljfjcebfonaaa
open Go.RowKit
attribute [local go_sem ↓] Go.wp_at_zero Go.wp_at_succ

def RevPost (E : List (Int × Int)) (w : World) (e : Ending) (w' : World) : Prop := Grew w w' ∧ ∃ v, e = .returned v ∧ Owns w' w.heap.size [ptRow v E.reverse]

set_option maxHeartbeats 4000000 in
theorem reversed_l (p : Option Addr) (n c : Nat) (E : List (Int × Int)) (w : World) (hP : Prs w p E) (hn : E.length = n) (he : E.length ≤ 2000) :
    Calls Try.prog 22 #[.slice p n c] w (RevPost E w) := by
  subst hn
  have HP := Lib.hid hP
  clear hP
  go_enter Try.func22, Try.ntmps22
  go_wp2
  go_loopw [3, 4] (fun v3 i wr => ∃ (r : Nat) (S : List (Int × Int)), r ≤ E.length ∧ i = .int .i64 ((r : Int) - 1) ∧ S.length + r = E.length ∧ (E.drop r).reverse = S ∧ Grew w wr ∧ Owns wr w.heap.size [ptRow v3 S]) (fun _ i _ => (intOf i + 1).toNat)
  case atStart => exact ⟨E.length, [], by omega, by go_num, by simp, by simp, by (repeat (first | exact Grew.refl _ | refine Grew.over ?_ _ | refine Grew.alloc ?_ _ | refine Grew.drew ?_ | refine Grew.drewN ?_ _)), (Owns.nil w w.heap.size).made (Nat.le_refl _) #[] 32 2 0 w.heap.size rfl (by decide) rfl⟩
  case round =>
    obtain ⟨r, S, hr, rfl, hSl, hS, hg, hO⟩ := hrel
    have Hg := Lib.hid hg
    have HO := Lib.hid hO
    have HS := Lib.hid hS
    clear hg hO hS
    rcases Nat.eq_zero_or_pos r with h0 | h0
    · subst h0
      have Hf : Hid (E.reverse = S) := Lib.hid (by have := HS.out; rwa [List.drop_zero] at this)
      have hneg : ((0 : Nat) : Int) - 1 = -1 := by omega
      rw [hneg]
      go_wp2
      go_ret
      refine ⟨Hg.out, _, rfl, ?_⟩
      rw [Hf.out]
      exact HO.out
    · obtain ⟨k, rfl⟩ : ∃ k, r = k + 1 := ⟨r - 1, by omega⟩
      obtain ⟨b, o, rfl, hb, hc⟩ := HP.out.cells (by omega)
      obtain ⟨d1, d2⟩ := hc wr Hg.out k (by omega)
      have hsz := Hg.out.below.size
      obtain ⟨ax, hax⟩ : ∃ x, (pr E k).1 = x := ⟨_, rfl⟩
      obtain ⟨ay, hay⟩ : ∃ x, (pr E k).2 = x := ⟨_, rfl⟩
      have Hpk : Hid (pr E k = (ax, ay)) := Lib.hid (by rw [← hax, ← hay])
      rw [hax] at d1
      rw [hay] at d2
      have Hst : Hid ((E.drop k).reverse = S ++ [(ax, ay)]) := Lib.hid (by
        rw [List.drop_eq_getElem_cons (by omega), List.reverse_cons, HS.out, ← pr_eq E (by omega), Hpk.out])
      have hkk : ((k + 1 : Nat) : Int) - 1 = (k : Int) := by omega
      have hlt : k < E.length := by omega
      rw [hkk]
      clear hc hax hay
      go_wp2_with (at_builtin; refine wp_append_pt rfl _ _ rfl w _ S (HO.out.grew (by (repeat (first | exact Grew.refl _ | refine Grew.over ?_ _ | refine Grew.alloc ?_ _ | refine Grew.drew ?_ | refine Grew.drewN ?_ _)))) (Hg.out.trans (by (repeat (first | exact Grew.refl _ | refine Grew.over ?_ _ | refine Grew.alloc ?_ _ | refine Grew.drew ?_ | refine Grew.drewN ?_ _)))) rfl _ rfl ax ay (by (simp [go_sem, ↓IntWalk.iteOmega])) (by (simp [go_sem, ↓IntWalk.iteOmega])) (by omega) ?_; intro v1 w1 hO1 hg1; have HO1 := Lib.hid hO1; have Hg1 := Lib.hid hg1; clear hO1 hg1)
      go_roundw
      case rel => exact ⟨k, _, by omega, by go_num, by rw [List.length_append, List.length_singleton]; omega, Hst.out, Hg1.out, HO1.out⟩
      case measure => simp [intOf]
end Go.Proofs.Ytmljfjcebfonaaa
