/- The example of the chapter. -/
import Derived.Test.YtdenjldadlgniaaLabN
set_option linter.unusedSimpArgs false
set_option linter.unusedVariables false
namespace Go.Proofs.Ytdenjldadlgniaa
open Go.RowKit
attribute [local go_sem ↓] Go.wp_at_zero Go.wp_at_succ

def b0 : List Bx := [⟨0, 0, 4, 2⟩, ⟨0, 2, 4, 4⟩]
def mB : List (List Bx) := [b0, b0]
def wB : List (List Int) := [[0, 5], [0, 3]]
theorem Bxs.made (W : World) (t : TypeId) (xs : List Bx) (cs : Array Value) (b : Nat) (hcs : cs.toList = bxVs xs) (hb : b = W.heap.size) (hl : xs.length ≤ 1000) :
    Bxs (W.alloc (.cells cs t)) (some ⟨b, 0, none⟩) xs := by
  subst hb
  have key : ∀ j u, (bxVs xs)[j]? = some u → (W.alloc (.cells cs t)).cell? ⟨W.heap.size, j, none⟩ = some u := fun j u hu => by
    rw [cell?_alloc_if, if_neg (by omega), if_pos rfl, ← Array.getElem?_toList, hcs]
    exact hu
  refine ⟨by omega, W.heap.size, 0, fun _ => ⟨rfl, by simp⟩, fun i hi => ?_⟩
  obtain ⟨h1, h2, h3, h4⟩ := bxVs_get xs i hi
  rw [Nat.zero_add]
  exact ⟨key _ _ h1, key _ _ h2, key _ _ h3, key _ _ h4⟩
theorem BMat.made (W : World) (t : TypeId) (m : List (List Bx)) (cs : Array Value) (b : Nat) (rp : Nat → Option Addr) (rc : Nat → Nat) (hb : b = W.heap.size) (hl : m.length ≤ 1000)
    (h : ∀ u, u < m.length → cs[u]? = some (.slice (rp u) (bRow m u).length (rc u)) ∧ Bxs W (rp u) (bRow m u)) : BMat (W.alloc (.cells cs t)) (some ⟨b, 0, none⟩) m := by
  subst hb
  refine ⟨by omega, W.heap.size, 0, rp, rc, fun _ => ⟨rfl, by simp⟩, fun u hu => ?_⟩
  rw [cell?_alloc_if, if_neg (by omega), if_pos rfl, Nat.zero_add]
  exact ⟨(h u hu).1, (h u hu).2.grew ((Grew.refl W).alloc _)⟩
theorem bm2 (w : World) (t t' : TypeId) (cx : Array Value) (hx : cx.toList = bxVs b0) (b : Nat) (hb : b = w.heap.size + 2) :
    BMat (((w.alloc (.cells cx t)).alloc (.cells cx t)).alloc (.cells #[.slice (some ⟨w.heap.size, 0, none⟩) 2 2, .slice (some ⟨w.heap.size + 1, 0, none⟩) 2 2] t')) (some ⟨b, 0, none⟩) mB := by
  refine BMat.made _ _ _ _ _ (fun u => some ⟨w.heap.size + u, 0, none⟩) (fun _ => 2) (by simp; omega) (by decide) (fun u hu => ?_)
  have h1 := Bxs.made w t b0 cx _ hx rfl (by decide)
  have h2 := Bxs.made (w.alloc (.cells cx t)) t b0 cx (w.heap.size + 1) hx (by simp) (by decide)
  match u, hu with
  | 0, _ => exact ⟨by simp [bRow, mB, b0], h1.grew ((Grew.refl _).alloc _)⟩
  | 1, _ => exact ⟨by simp [bRow, mB, b0], h2⟩
theorem wm2 (w : World) (t t' : TypeId) (cx cy : Array Value) (hx : cx.toList = [Value.int .i64 0, .int .i64 5]) (hy : cy.toList = [Value.int .i64 0, .int .i64 3]) (b s : Nat) (hs : s = w.heap.size) (hb : b = s + 2) :
    Mat (((w.alloc (.cells cx t)).alloc (.cells cy t)).alloc (.cells #[.slice (some ⟨s, 0, none⟩) 2 2, .slice (some ⟨s + 1, 0, none⟩) 2 2] t')) (some ⟨b, 0, none⟩) wB := by
  subst hs
  refine Mat.made _ _ _ _ _ (fun u => some ⟨w.heap.size + u, 0, none⟩) (fun _ => 2) (by simp; omega) (by decide) (fun u hu => ?_)
  have h1 := Ints.made w t [0, 5] cx _ hx rfl (by decide) (by decide)
  have h2 := Ints.made (w.alloc (.cells cx t)) t [0, 3] cy (w.heap.size + 1) hy (by simp) (by decide) (by decide)
  match u, hu with
  | 0, _ => exact ⟨by simp [rowOf, wB], h1.grew ((Grew.refl _).alloc _)⟩
  | 1, _ => exact ⟨by simp [rowOf, wB], h2⟩
theorem vB_ok : vLB mB wB = true := by decide +kernel
theorem okS_ok : okS b0 wB = true := by decide +kernel
theorem nov_ok : NoOv b0 := by
  intro i hi
  have : i < 2 := hi
  match i, this with
  | 0, _ => decide +kernel
  | 1, _ => decide +kernel
theorem two_of {b : List Nat} (hl : b.length = 2) : b = [gn b 0, gn b 1] := gn_ext (by rw [hl]; rfl) fun i hi => by
  rcases i with _ | _ | i
  · rfl
  · rfl
  · omega
theorem ov00 : ∀ k, k < 2 → ovB (bxAt mB 0 k) (bxAt mB 1 k) = true := by decide +kernel
theorem lt2 {k : Nat} (h : k < 2) : k = 0 ∨ k = 1 := by omega
theorem cm01 : Cm mB [0, 1] := by
  refine ⟨⟨by decide, fun i hi => ?_, fun i hi j hj => ?_⟩, rfl⟩
  · have : i < 2 := hi
    match i, this with
    | 0, _ => decide
    | 1, _ => decide
  · have : i < 2 := hi
    match i, this, j, hj with
    | 1, _, 0, _ => decide +kernel
theorem cm_is {b : List Nat} (h : Cm mB b) : b = [0, 1] ∨ b = [1, 0] := by
  have hl : b.length = 2 := h.2
  have h0 : gn b 0 < 2 := h.1.lt 0 (by omega)
  have h1 : gn b 1 < 2 := h.1.lt 1 (by omega)
  have hf := h.1.fr 1 (by omega) 0 (by omega)
  have e := two_of hl
  have hne : gn b 0 ≠ gn b 1 := fun hh => by rw [hh, ov00 _ h1] at hf; cases hf
  rcases lt2 h0 with g0 | g0 <;> rcases lt2 h1 with g1 | g1 <;> rw [g0, g1] at e hne
  · exact absurd rfl hne
  · exact Or.inl e
  · exact Or.inr e
  · exact absurd rfl hne
theorem bst01 : Bst wB mB.length (Cm mB) [0, 1] := by
  refine ⟨cm01, fun b hb => ?_⟩
  rcases cm_is hb with rfl | rfl
  · exact Or.inr ⟨rfl, Or.inl rfl⟩
  · exact Or.inl (by decide +kernel)
theorem cst01 : lco wB [0, 1] = 3 := by decide +kernel
theorem asg_is {b : List Nat} (h : Asg wB b) : b = [0, 1] ∨ b = [1, 0] := by
  have hl : b.length = 2 := h.l
  have h0 : gn b 0 < 2 := h.lt 0 (by decide)
  have h1 : gn b 1 < 2 := h.lt 1 (by decide)
  have e := two_of hl
  have hne : gn b 0 ≠ gn b 1 := fun hh => absurd (h.nd 0 1 (by decide) (by decide) hh) (by decide)
  rcases lt2 h0 with g0 | g0 <;> rcases lt2 h1 with g1 | g1 <;> rw [g0, g1] at e hne
  · exact absurd rfl hne
  · exact Or.inl e
  · exact Or.inr e
  · exact absurd rfl hne
theorem asg01 : Asg wB [0, 1] := by
  have key : ∀ i, i < 2 → gn [0, 1] i < 2 ∧ 0 ≤ at2 wB i (gn [0, 1] i) ∧ ∀ j, j < 2 → gn [0, 1] i = gn [0, 1] j → i = j := by decide +kernel
  exact ⟨rfl, fun i j hi hj => (key i hi).2.2 j hj, fun i hi => (key i hi).1, fun i hi => (key i hi).2.1⟩
theorem best01 : BestA wB [0, 1] := by
  have c1 : costN wB [0, 1] = 3 := by decide +kernel
  have c2 : costN wB [1, 0] = 5 := by decide +kernel
  refine ⟨asg01, fun b hb => ?_, fun b hb he => ?_⟩
  · rcases asg_is hb with rfl | rfl
    · exact Int.le_refl _
    · rw [c1, c2]; decide
  · rcases asg_is hb with rfl | rfl
    · exact Or.inl rfl
    · rw [c1, c2] at he; exact absurd he (by decide)
theorem costn01 : costN wB [0, 1] = 3 := by decide +kernel
theorem place_ex {p q : Option Addr} {cp cq : Nat} {w : World} (hM : BMat w p mB) (hC : Mat w q wB) :
    Calls Try.prog 17 #[.slice p 2 cp, .slice q 2 cq] w fun e w' => Grew w w' ∧ ∃ q1 c1, e = .returned (.tuple #[.slice q1 2 c1, .int .i64 3, .int .i64 0]) ∧ Ints w' q1 [0, 1] ∧ 2 ≤ c1 := by
  refine (place_p p q 2 2 cp cq mB wB w hM hC rfl rfl).mono ?_
  rintro e w' ⟨hg, h⟩
  rcases h with ⟨h, _⟩ | ⟨_, h, _⟩ | ⟨_, a, q1, c1, h1, h2, h3, h4, _⟩
  · rw [vB_ok] at h; cases h
  · exact absurd cm01 (h _)
  · have := h1.unique bst01
    subst this
    rw [cst01] at h2
    exact ⟨hg, q1, c1, h2, h3, h4⟩
theorem slots_ex {p q : Option Addr} {cq : Nat} {w : World} (hM : Bxs w p b0) (hC : Mat w q wB) :
    Calls Try.prog 20 #[.slice p 2 2, .slice q 2 cq] w fun e w' => Grew w w' ∧ ∃ q1 c1, e = .returned (.tuple #[.slice q1 2 c1, .int .i64 3, .int .i64 0]) ∧ Ints w' q1 [0, 1] ∧ 2 ≤ c1 := by
  refine (slots_p p q 2 2 2 cq b0 wB w hM hC rfl rfl (by decide) (by decide)).mono ?_
  rintro e w' ⟨hg, h⟩
  rcases h with ⟨h, _⟩ | ⟨_, h, _⟩ | ⟨_, _, h, _⟩ | ⟨_, _, a, q1, c1, h1, h2, h3, h4⟩
  · rw [okS_ok] at h; cases h
  · exact absurd nov_ok h
  · exact absurd asg01 (h _)
  · have := h1.unique best01
    subst this
    rw [costn01] at h2
    exact ⟨hg, q1, c1, h2, h3, h4⟩
theorem chk1 : chB mB [0, 1] = true := by decide +kernel
theorem chk2 : chB mB [0, 0] = false := by decide +kernel
theorem cost1 : coS wB [0, 1] = 3 := by decide +kernel
theorem len2a : ([0, 1] : List Int).length = 2 := rfl
theorem len2b : ([0, 0] : List Int).length = 2 := rfl

set_option maxHeartbeats 8000000 in
theorem awake_l (w : World) : Calls Try.prog 9 #[] w fun e w' => e = .returned (.bool true) ∧ Grew w w' := by
  have H0 : Hid (BMat (((w.alloc (.cells #[.int .i64 0, .int .i64 0, .int .i64 4, .int .i64 2, .int .i64 0, .int .i64 2, .int .i64 4, .int .i64 4] 39)).alloc (.cells #[.int .i64 0, .int .i64 0, .int .i64 4, .int .i64 2, .int .i64 0, .int .i64 2, .int .i64 4, .int .i64 4] 39)).alloc (.cells #[.slice (some ⟨w.heap.size, 0, none⟩) 2 2, .slice (some ⟨w.heap.size + 1, 0, none⟩) 2 2] 35)) (some ⟨w.heap.size + 1 + 1, 0, none⟩) mB) := Lib.hid (bm2 w _ _ _ rfl _ rfl)
  have H1 : Hid (Mat ((((((w.alloc (.cells #[.int .i64 0, .int .i64 0, .int .i64 4, .int .i64 2, .int .i64 0, .int .i64 2, .int .i64 4, .int .i64 4] 39)).alloc (.cells #[.int .i64 0, .int .i64 0, .int .i64 4, .int .i64 2, .int .i64 0, .int .i64 2, .int .i64 4, .int .i64 4] 39)).alloc (.cells #[.slice (some ⟨w.heap.size, 0, none⟩) 2 2, .slice (some ⟨w.heap.size + 1, 0, none⟩) 2 2] 35)).alloc (.cells #[.int .i64 0, .int .i64 5] 3)).alloc (.cells #[.int .i64 0, .int .i64 3] 3)).alloc (.cells #[.slice (some ⟨w.heap.size + 1 + 1 + 1, 0, none⟩) 2 2, .slice (some ⟨w.heap.size + 1 + 1 + 1 + 1, 0, none⟩) 2 2] 24)) (some ⟨w.heap.size + 1 + 1 + 1 + 1 + 1, 0, none⟩) wB) := Lib.hid (wm2 _ _ _ _ _ rfl rfl _ (w.heap.size + 1 + 1 + 1) (by simp) rfl)
  have H2 : Hid (Bxs (w.alloc (.cells #[.int .i64 0, .int .i64 0, .int .i64 4, .int .i64 2, .int .i64 0, .int .i64 2, .int .i64 4, .int .i64 4] 39)) (some ⟨w.heap.size, 0, none⟩) b0) := Lib.hid (Bxs.made w _ b0 _ _ rfl rfl (by decide))
  go_enter Try.func9, Try.ntmps9
  go_wp2_with (first
    | (go_at_call 17; apply Calls.mono; (with_reducible exact place_ex (H0.out.grew (by (repeat (first | exact Grew.refl _ | refine Grew.over ?_ _ | refine Grew.alloc ?_ _ | refine Grew.drew ?_ | refine Grew.drewN ?_ _)))) H1.out); rintro e w2 ⟨hg2, q1, c1, rfl, hI1, hc1⟩; have HM := Lib.hid (H0.out.grew (Grew.trans (by (repeat (first | exact Grew.refl _ | refine Grew.over ?_ _ | refine Grew.alloc ?_ _ | refine Grew.drew ?_ | refine Grew.drewN ?_ _))) hg2)); have HW := Lib.hid (H1.out.grew hg2); have HB := Lib.hid (H2.out.grew (Grew.trans (by (repeat (first | exact Grew.refl _ | refine Grew.over ?_ _ | refine Grew.alloc ?_ _ | refine Grew.drew ?_ | refine Grew.drewN ?_ _))) hg2)); have HG := Lib.hid (Grew.trans (show Grew w _ by (repeat (first | exact Grew.refl _ | refine Grew.over ?_ _ | refine Grew.alloc ?_ _ | refine Grew.drew ?_ | refine Grew.drewN ?_ _))) hg2); have z0 := hg2.cellEq (b := w.heap.size + 1 + 1) (i := 0) (v := .slice (some ⟨w.heap.size, 0, none⟩) 2 2) (by simp [go_sem]); have hz := World.block_lt_of_cell? w2 _ z0; have HI1 := Lib.hid hI1; clear hg2 hI1)
    | (go_at_call 20; apply Calls.mono; (with_reducible exact slots_ex HB.out HW.out); rintro e w3 ⟨hg3, q2, c2, rfl, hI2, hc2⟩; have HG3 := Lib.hid hg3; have HI2 := Lib.hid hI2; clear hg3 hI2)
    | (go_at_call 10; apply Calls.mono; (with_reducible exact valid50p_e vB_ok (HM.out.grew (HG3.out.trans (by (repeat (first | exact Grew.refl _ | refine Grew.over ?_ _ | refine Grew.alloc ?_ _ | refine Grew.drew ?_ | refine Grew.drewN ?_ _))))) (HW.out.grew (HG3.out.trans (by (repeat (first | exact Grew.refl _ | refine Grew.over ?_ _ | refine Grew.alloc ?_ _ | refine Grew.drew ?_ | refine Grew.drewN ?_ _))))) rfl rfl); rintro e w' ⟨rfl, x, rfl⟩)
    | (go_at_call 19; apply Calls.mono; (with_reducible exact same_e (r := true) (by decide) (HI1.out.grew (HG3.out.trans (by (repeat (first | exact Grew.refl _ | refine Grew.over ?_ _ | refine Grew.alloc ?_ _ | refine Grew.drew ?_ | refine Grew.drewN ?_ _))))) (Ints.made _ _ [0, 1] _ _ rfl (by (simp [go_sem, ↓IntWalk.iteOmega])) (by decide) (by decide)) len2a len2a); rintro e w' ⟨rfl, x, rfl⟩)
    | (go_at_call 19; apply Calls.mono; (with_reducible exact same_e (r := true) (by decide) (HI2.out.grew (by (repeat (first | exact Grew.refl _ | refine Grew.over ?_ _ | refine Grew.alloc ?_ _ | refine Grew.drew ?_ | refine Grew.drewN ?_ _)))) (HI1.out.grew (HG3.out.trans (by (repeat (first | exact Grew.refl _ | refine Grew.over ?_ _ | refine Grew.alloc ?_ _ | refine Grew.drew ?_ | refine Grew.drewN ?_ _))))) len2a len2a); rintro e w' ⟨rfl, x, rfl⟩)
    | (go_at_call 12; apply Calls.mono; (with_reducible exact checkp_e chk1 (HM.out.grew (HG3.out.trans (by (repeat (first | exact Grew.refl _ | refine Grew.over ?_ _ | refine Grew.alloc ?_ _ | refine Grew.drew ?_ | refine Grew.drewN ?_ _))))) (HI1.out.grew (HG3.out.trans (by (repeat (first | exact Grew.refl _ | refine Grew.over ?_ _ | refine Grew.alloc ?_ _ | refine Grew.drew ?_ | refine Grew.drewN ?_ _))))) rfl len2a); rintro e w' ⟨rfl, x, rfl⟩)
    | (go_at_call 12; apply Calls.mono; (with_reducible exact checkp_e chk2 (HM.out.grew (HG3.out.trans (by (repeat (first | exact Grew.refl _ | refine Grew.over ?_ _ | refine Grew.alloc ?_ _ | refine Grew.drew ?_ | refine Grew.drewN ?_ _))))) (Ints.made _ _ [0, 0] _ _ rfl (by (simp [go_sem, ↓IntWalk.iteOmega])) (by decide) (by decide)) rfl len2b); rintro e w' ⟨rfl, x, rfl⟩)
    | (go_at_call 14; apply Calls.mono; (with_reducible exact costp_e cost1 (HW.out.grew (HG3.out.trans (by (repeat (first | exact Grew.refl _ | refine Grew.over ?_ _ | refine Grew.alloc ?_ _ | refine Grew.drew ?_ | refine Grew.drewN ?_ _))))) (HI1.out.grew (HG3.out.trans (by (repeat (first | exact Grew.refl _ | refine Grew.over ?_ _ | refine Grew.alloc ?_ _ | refine Grew.drew ?_ | refine Grew.drewN ?_ _))))) rfl len2a); rintro e w' ⟨rfl, rfl⟩))
  go_ret
  exact ⟨rfl, HG.out.trans (HG3.out.trans (by (repeat (first | exact Grew.refl _ | refine Grew.over ?_ _ | refine Grew.alloc ?_ _ | refine Grew.drew ?_ | refine Grew.drewN ?_ _))))⟩
end Go.Proofs.Ytdenjldadlgniaa
