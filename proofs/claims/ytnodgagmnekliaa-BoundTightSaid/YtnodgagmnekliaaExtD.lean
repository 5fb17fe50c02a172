/- Contracts of Least: of the program, by branch and bound, and of the reference, by trying all orders. -/
import Derived.Test.YtnodgagmnekliaaExtC
set_option linter.unusedSimpArgs false
set_option linter.unusedVariables false
namespace Go.Proofs.Ytnodgagmnekliaa
open Go.RowKit

theorem extend_p (m : List (List Int)) (hV : vMat m) (w0 : World) (p : Option Addr) (cp : Nat) (hM : Mat w0 p m) : ∀ k, ExtAll m w0 p cp k
  | 0 => extend_zero m hV w0 p cp hM
  | k + 1 => extend_succ m hV w0 p cp hM k (extend_p m hV w0 p cp hM k)

/-- What Least returns: the error, or the best order with its cost. -/
def LeastPost (m : List (List Int)) (w : World) (e : Ending) (w' : World) : Prop :=
  Grew w w' ∧ ((vMatB m = false ∧ e = .returned (.tuple #[.slice none 0 0, .int .i64 0, .int .i64 1])) ∨
    (vMatB m = true ∧ ∃ o c v, bestF m.length (at2 m) m.length [] = some (o, c) ∧ 0 ≤ c ∧ c ≤ 64000000 ∧ e = .returned (.tuple #[v, .int .i64 c, .int .i64 0]) ∧ Reads w' v o))

theorem left_nil (n : Nat) : left n [] = List.range n := by
  unfold left
  exact List.filter_eq_self.2 fun a _ => by simp
theorem fixL_nil (c : Nat → Nat → Int) (r : List Nat) : fixL c [] r = 0 := by simp [fixL, costL, sumL]

theorem Own.reads {w : World} {B : Nat} {v : Value} {o : List Nat} (h : Own w B v (intL o)) (ho : ∀ x ∈ o, x < 1000) : Reads w v o := by
  obtain ⟨p, cap, h1, h2, h3, h4⟩ := h.ints (fun x hx => by
    obtain ⟨y, hy, rfl⟩ := List.mem_map.1 hx
    have := ho y hy
    constructor
    · exact Int.le_trans (by decide) (Int.natCast_nonneg y)
    · show ((y : Nat) : Int) ≤ _
      omega)
  rw [intL_length] at h1 h2
  exact ⟨p, cap, h1, h4, h2, h3⟩

theorem valid_e {p : Option Addr} {n cap : Nat} {m : List (List Int)} {w : World} {b : Bool} (h : vMatB m = b) (hM : Mat w p m) (hn : m.length = n) :
    Calls Try.prog 19 #[.slice p n cap] w fun e w' => e = .returned (.bool b) ∧ w = w' := h ▸ valid_p p n cap m w hM hn
theorem validr_e {p : Option Addr} {n cap : Nat} {m : List (List Int)} {w : World} {b : Bool} (h : vMatB m = b) (hM : Mat w p m) (hn : m.length = n) :
    Calls Try.prog 8 #[.slice p n cap] w fun e w' => e = .returned (.bool b) ∧ w = w' := h ▸ valid_r p n cap m w hM hn
theorem lower_e {p : Option Addr} {n cap : Nat} {m : List (List Int)} {w : World} (h : vMatB m = true) (hM : Mat w p m) (hn : m.length = n) :
    Calls Try.prog 17 #[.slice p n cap] w fun e w' => e = .returned (.int .i64 (lowM m)) ∧ Grew w w' := by
  have := lower_p p n cap m w hM hn
  rw [h] at this
  exact this

theorem SOK.fresh (w : World) (ms : Value) (n : Nat) : SOK (w.alloc (.cells #[ms, .slice none 0 0, .slice none 0 0, .int .i64 0] 41)) w.heap.size ms n [] none := by
  refine ⟨.slice none 0 0, .slice none 0 0, 0, ?_, Own.nil _ _, fun g h => by simp [Value.ownBlock] at h, Or.inl ⟨rfl, rfl, rfl⟩⟩
  rw [heap_alloc_if, if_neg (by omega), if_pos rfl]

set_option maxHeartbeats 4000000 in
theorem least_p (p : Option Addr) (n cp : Nat) (m : List (List Int)) (w : World) (hM : Mat w p m) (hn : m.length = n) :
    Calls Try.prog 10 #[.slice p n cp] w (LeastPost m w) := by
  subst hn
  cases hv : vMatB m
  case false =>
    have Hv := Lib.hid hv
    clear hv
    go_enter Try.func10, Try.ntmps10
    go_wp2_with ((go_at_call 19; apply Calls.mono; (with_reducible exact valid_e Hv.out hM rfl); rintro e w' ⟨rfl, rfl⟩))
    go_ret3
    exact ⟨Grew.refl _, Or.inl ⟨Hv.out, rfl⟩⟩
  case true =>
    have hV := vMatB_iff.1 hv
    have HV := Lib.hid hV
    have Hv := Lib.hid hv
    have hext := extend_p m hV w p cp hM m.length
    unfold ExtAll at hext
    have Hext := Lib.hid (fun (W : World) (h1 : Grew w W) (h2 : SOK W w.heap.size (.slice p m.length cp) m.length [] none) =>
      hext [] none 0 (lowM m) W h1 h2 (by simp) (by rw [show natL [] = [] from rfl, left_nil]; simp) (by simp) (fixL_nil _ _).symm (by rw [show natL [] = [] from rfl, left_nil]; rfl) (Or.inl rfl))
    clear hext
    have Hsome := Lib.hid (bestF_some m.length (at2 m) m.length [] (by rw [left_nil]; simp))
    clear hV hv
    go_enter Try.func10, Try.ntmps10
    go_wp2_with (first
      | (go_at_call 19; apply Calls.mono; (with_reducible exact valid_e Hv.out hM rfl); rintro e w' ⟨rfl, rfl⟩)
      | (go_at_call 17; apply Calls.mono; (with_reducible exact lower_e Hv.out (hM.grew (by (repeat (first | exact Grew.refl _ | refine Grew.over ?_ _ | refine Grew.alloc ?_ _ | refine Grew.drew ?_ | refine Grew.drewN ?_ _)))) rfl); rintro e w' ⟨rfl, x, rfl⟩)
      | (go_at_call 20; apply Calls.mono; (with_reducible exact Hext.out _ (by (repeat (first | exact Grew.refl _ | refine Grew.over ?_ _ | refine Grew.alloc ?_ _ | refine Grew.drew ?_ | refine Grew.drewN ?_ _))) ((SOK.fresh _ _ _).grew (by (repeat (first | exact Grew.refl _ | refine Grew.over ?_ _ | refine Grew.alloc ?_ _ | refine Grew.drew ?_ | refine Grew.drewN ?_ _))))); rintro e w2 hpost; obtain ⟨rfl, hg2, hS⟩ := hpost; rw [none_updO] at hS; obtain ⟨oc, hoc⟩ := Option.isSome_iff_exists.1 Hsome.out; obtain ⟨o, c⟩ := oc; rw [show natL [] = [] from rfl, hoc] at hS; have Hoc := Lib.hid hoc; clear hoc; obtain ⟨vo, vb, least, hh, hown, hsep, hbest⟩ := hS; have c2 := cell_of_heap hh 2; have c3 := cell_of_heap hh 3; have hlt := lt_of_heap hh; simp at c2 c3; have Hbest := Lib.hid hbest; clear hh hown hsep hbest))
    refine wp_region_over (by kernel_rfl) (by kernel_rfl) ?_; (repeat (go_big_quiet_step (fail))); refine wpQuiet_nil ?_; rintro _ ⟨x, rfl⟩
    go_wp2
    go_ret3
    rcases Hbest.out with ⟨h, _⟩ | ⟨o', c', he, b1, b2, hob, hnn, rfl⟩
    · cases h
    · cases he
      refine ⟨hg2.trans (by (repeat (first | exact Grew.refl _ | refine Grew.over ?_ _ | refine Grew.alloc ?_ _ | refine Grew.drew ?_ | refine Grew.drewN ?_ _))), Or.inr ⟨Hv.out, o, _, vb, Hoc.out, b1, b2, rfl, (hob.reads ?_).grew (by (repeat (first | exact Grew.refl _ | refine Grew.over ?_ _ | refine Grew.alloc ?_ _ | refine Grew.drew ?_ | refine Grew.drewN ?_ _)))⟩⟩
      intro x hx
      obtain ⟨⟨r, h1, h2⟩, _⟩ := bestF_sound m.length (at2 m) m.length [] (by rw [left_nil]; simp) _ Hoc.out
      simp only [List.nil_append] at h1
      subst h1
      rw [left_nil] at h2
      have := h2.mem_iff.1 hx
      have := HV.out.1
      simp at *
      omega

set_option maxHeartbeats 4000000 in
theorem least_r (p : Option Addr) (n cp : Nat) (m : List (List Int)) (w : World) (hM : Mat w p m) (hn : m.length = n) :
    Calls Try.prog 11 #[.slice p n cp] w (LeastPost m w) := by
  subst hn
  cases hv : vMatB m
  case false =>
    have Hv := Lib.hid hv
    clear hv
    go_enter Try.func11, Try.ntmps11
    go_wp2_with ((go_at_call 8; apply Calls.mono; (with_reducible exact validr_e Hv.out hM rfl); rintro e w' ⟨rfl, rfl⟩))
    go_ret3
    exact ⟨Grew.refl _, Or.inl ⟨Hv.out, rfl⟩⟩
  case true =>
    have HV := Lib.hid (vMatB_iff.1 hv)
    have Hv := Lib.hid hv
    clear hv
    have H := Lib.hid (best_r m HV.out m.length p none cp 0 0 [] w rfl hM (Ints.nil w none) (by simp) (Nat.le_refl _) (fun _ => rfl) (by rw [show natL [] = [] from rfl, left_nil]; simp) (by simp))
    go_enter Try.func11, Try.ntmps11
    go_wp2_with (first
      | (go_at_call 8; apply Calls.mono; (with_reducible exact validr_e Hv.out hM rfl); rintro e w' ⟨rfl, rfl⟩)
      | (go_at_call 21; apply Calls.mono; (with_reducible exact H.out); rintro e w' ⟨o, c, v, hb, hb1, hb2, rfl, hrd, x3, rfl⟩; have Hb := Lib.hid hb; clear hb))
    go_ret3
    exact ⟨by (repeat (first | exact Grew.refl _ | refine Grew.over ?_ _ | refine Grew.alloc ?_ _ | refine Grew.drew ?_ | refine Grew.drewN ?_ _)), Or.inr ⟨Hv.out, o, c, v, Hb.out, hb1, hb2, rfl, hrd⟩⟩

end Go.Proofs.Ytnodgagmnekliaa
