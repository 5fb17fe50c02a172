/- The examples of the chapter, and the laws BoundCosts, BoundFinds, BoundOptimal. -/
import Derived.Test.YtnodgagmnekliaaExtD
set_option linter.unusedSimpArgs false
set_option linter.unusedVariables false
namespace Go.Proofs.Ytnodgagmnekliaa
open Go.RowKit

theorem Ints.made (W : World) (t : TypeId) (xs : List Int) (cs : Array Value) (b : Nat) (hcs : cs.toList = xs.map (Value.int .i64)) (hb : b = W.heap.size) (hl : xs.length ≤ 1000) (hw : ∀ x ∈ xs, -9223372036854775808 ≤ x ∧ x ≤ 9223372036854775807) :
    Ints (W.alloc (.cells cs t)) (some ⟨b, 0, none⟩) xs := by
  subst hb
  refine ⟨by omega, hw, W.heap.size, 0, fun _ => ⟨rfl, by simp⟩, fun i hi => ?_⟩
  rw [cell?_alloc_if, if_neg (by omega), if_pos rfl, Nat.zero_add, ← Array.getElem?_toList, hcs, List.getElem?_map, List.getElem?_eq_getElem hi, ge_eq xs hi]
  rfl
theorem Mat.made (W : World) (t : TypeId) (m : List (List Int)) (cs : Array Value) (b : Nat) (rp : Nat → Option Addr) (rc : Nat → Nat) (hb : b = W.heap.size) (hl : m.length ≤ 1000)
    (h : ∀ u, u < m.length → cs[u]? = some (.slice (rp u) (rowOf m u).length (rc u)) ∧ Ints W (rp u) (rowOf m u)) : Mat (W.alloc (.cells cs t)) (some ⟨b, 0, none⟩) m := by
  subst hb
  refine ⟨by omega, W.heap.size, 0, rp, rc, fun _ => ⟨rfl, by simp⟩, fun u hu => ?_⟩
  rw [cell?_alloc_if, if_neg (by omega), if_pos rfl, Nat.zero_add]
  exact ⟨(h u hu).1, (h u hu).2.grew ((Grew.refl W).alloc _)⟩

/-- Three rows, two rows that were just made. -/
theorem mat3 (w : World) (t t' : TypeId) (x y z : List Int) (cx cy cz : Array Value) (hx : cx.toList = x.map (Value.int .i64)) (hy : cy.toList = y.map (Value.int .i64)) (hz : cz.toList = z.map (Value.int .i64))
    (hl : x.length = 3 ∧ y.length = 3 ∧ z.length = 3) (hw : ∀ a ∈ x ++ y ++ z, -9223372036854775808 ≤ a ∧ a ≤ 9223372036854775807) (b : Nat) (hb : b = w.heap.size + 3) :
    Mat ((((w.alloc (.cells cx t)).alloc (.cells cy t)).alloc (.cells cz t)).alloc (.cells #[.slice (some ⟨w.heap.size, 0, none⟩) 3 3, .slice (some ⟨w.heap.size + 1, 0, none⟩) 3 3, .slice (some ⟨w.heap.size + 2, 0, none⟩) 3 3] t'))
      (some ⟨b, 0, none⟩) [x, y, z] := by
  obtain ⟨h1, h2, h3⟩ := hl
  refine Mat.made _ _ _ _ _ (fun u => some ⟨w.heap.size + u, 0, none⟩) (fun _ => 3) (by simp; omega) (by simp) (fun u hu => ?_)
  have hx' := (Ints.made w t x cx _ hx rfl (by omega) (fun a ha => hw a (by simp [ha])))
  have hy' := (Ints.made (w.alloc (.cells cx t)) t y cy _ hy rfl (by omega) (fun a ha => hw a (by simp [ha])))
  have hz' := (Ints.made ((w.alloc (.cells cx t)).alloc (.cells cy t)) t z cz _ hz rfl (by omega) (fun a ha => hw a (by simp [ha])))
  match u, hu with
  | 0, _ => exact ⟨by simp [rowOf, h1], hx'.grew (((Grew.refl _).alloc _).alloc _)⟩
  | 1, _ => exact ⟨by simp [rowOf, h2], by have := hy'.grew ((Grew.refl _).alloc (.cells cz t)); simpa [rowOf] using this⟩
  | 2, _ => exact ⟨by simp [rowOf, h3], by simpa [rowOf] using hz'⟩
theorem mat2 (w : World) (t t' : TypeId) (x y : List Int) (cx cy : Array Value) (hx : cx.toList = x.map (Value.int .i64)) (hy : cy.toList = y.map (Value.int .i64))
    (hl : x.length = 2 ∧ y.length = 2) (hw : ∀ a ∈ x ++ y, -9223372036854775808 ≤ a ∧ a ≤ 9223372036854775807) (b b0 b1 : Nat) (hb : b = w.heap.size + 2) (hb0 : b0 = w.heap.size) (hb1 : b1 = w.heap.size + 1) :
    Mat (((w.alloc (.cells cx t)).alloc (.cells cy t)).alloc (.cells #[.slice (some ⟨b0, 0, none⟩) 2 2, .slice (some ⟨b1, 0, none⟩) 2 2] t'))
      (some ⟨b, 0, none⟩) [x, y] := by
  subst hb0 hb1
  obtain ⟨h1, h2⟩ := hl
  refine Mat.made _ _ _ _ _ (fun u => some ⟨w.heap.size + u, 0, none⟩) (fun _ => 2) (by simp; omega) (by simp) (fun u hu => ?_)
  have hx' := (Ints.made w t x cx _ hx rfl (by omega) (fun a ha => hw a (by simp [ha])))
  have hy' := (Ints.made (w.alloc (.cells cx t)) t y cy _ hy rfl (by omega) (fun a ha => hw a (by simp [ha])))
  match u, hu with
  | 0, _ => exact ⟨by simp [rowOf, h1], hx'.grew ((Grew.refl _).alloc _)⟩
  | 1, _ => exact ⟨by simp [rowOf, h2], by simpa [rowOf] using hy'⟩

def m0 : List (List Int) := [[0, 1, 0], [0, 0, 1], [1, 0, 0]]
def m1 : List (List Int) := [[0, 3], [1, 0]]
theorem m0_best : bestF m0.length (at2 m0) m0.length [] = some ([0, 2, 1], 1) := by decide +kernel
theorem m0_ok : vMatB m0 = true := by decide +kernel
theorem m1_ok : vMatB m1 = true := by decide +kernel
theorem m1_low : lowM m1 = 1 := by decide +kernel

/-- What Least returns for a valid matrix. -/
theorem least_ok {p : Option Addr} {n cp : Nat} {m : List (List Int)} {w : World} {o : List Nat} {c : Int} (hM : Mat w p m) (hn : m.length = n) (hv : vMatB m = true) (hb : bestF m.length (at2 m) m.length [] = some (o, c)) :
    Calls Try.prog 10 #[.slice p n cp] w fun e w' => Grew w w' ∧ ∃ q cap, e = .returned (.tuple #[.slice q o.length cap, .int .i64 c, .int .i64 0]) ∧ Ints w' q (intL o) ∧ o.length ≤ cap ∧ (q = none → cap = 0) := by
  refine (least_p p n cp m w hM hn).mono fun e w' h => ?_
  obtain ⟨hg, h⟩ := h
  rcases h with ⟨h, _⟩ | ⟨_, o', c', v, h1, _, _, h2, h3⟩
  · rw [h] at hv; cases hv
  · rw [hb] at h1
    cases h1
    obtain ⟨q, cap, rfl, h4, h5, h6⟩ := h3
    exact ⟨hg, q, cap, h2, h4, h5, h6⟩

theorem same_e {p q : Option Addr} {n k cp cq : Nat} {a b : List Int} {w : World} (he : a = b) (ha : Ints w p a) (hb : Ints w q b) (hn : a.length = n) (hk : b.length = k) :
    Calls Try.prog 12 #[.slice p n cp, .slice q k cq] w fun e w' => e = .returned (.bool true) ∧ Grew w w' := by
  have := same_r p q n k cp cq a b w ha hb hn hk
  rw [decide_eq_true he] at this
  exact this

theorem len021 : (intL [0, 2, 1]).length = 3 := by decide
theorem is021 : intL [0, 2, 1] = [0, 2, 1] := by decide
theorem mul_e {p : Option Addr} {n cap : Nat} {m : List (List Int)} {w : World} {c : Int} (h : vMatB m = true) (hc : lowM m = c) (hM : Mat w p m) (hn : m.length = n) :
    Calls Try.prog 17 #[.slice p n cap] w fun e w' => e = .returned (.int .i64 c) ∧ Grew w w' := hc ▸ lower_e h hM hn

set_option maxHeartbeats 4000000 in
theorem awake_l (w : World) : Calls Try.prog 9 #[] w fun e w' => e = .returned (.bool true) ∧ Grew w w' := by
  have H0 := Lib.hid (fun (W : World) => mat3 W 3 25 [0, 1, 0] [0, 0, 1] [1, 0, 0] #[.int .i64 0, .int .i64 1, .int .i64 0] #[.int .i64 0, .int .i64 0, .int .i64 1] #[.int .i64 1, .int .i64 0, .int .i64 0] rfl rfl rfl ⟨rfl, rfl, rfl⟩ (by decide) _ rfl)
  have H1 := Lib.hid (fun (W : World) => mat2 W 3 25 [0, 3] [1, 0] #[.int .i64 0, .int .i64 3] #[.int .i64 1, .int .i64 0] rfl rfl ⟨rfl, rfl⟩ (by decide))
  go_enter Try.func9, Try.ntmps9
  go_wp2_with (first
    | (go_at_call 10; apply Calls.mono; (with_reducible exact least_ok (m := m0) (H0.out _) rfl m0_ok m0_best); rintro e w' ⟨⟨x, rfl⟩, q, cap, rfl, hI, hcap, hnil⟩)
    | (go_at_call 12; apply Calls.mono; (with_reducible exact same_e is021 (hI.grew (by (repeat (first | exact Grew.refl _ | refine Grew.over ?_ _ | refine Grew.alloc ?_ _ | refine Grew.drew ?_ | refine Grew.drewN ?_ _)))) (Ints.made _ _ [0, 2, 1] _ _ rfl (by (simp [go_sem, ↓IntWalk.iteOmega])) (by decide) (by decide)) len021 rfl); rintro e w' ⟨rfl, x2, rfl⟩)
    | (go_at_call 17; apply Calls.mono; (with_reducible exact mul_e (m := m1) m1_ok m1_low (H1.out _ _ _ _ (by first | rfl | omega | (simp <;> omega)) (by first | rfl | omega | (simp <;> omega)) (by first | rfl | omega | (simp <;> omega))) rfl); rintro e w' ⟨rfl, x3, rfl⟩))
  go_ret
  exact ⟨rfl, by (repeat (first | exact Grew.refl _ | refine Grew.over ?_ _ | refine Grew.alloc ?_ _ | refine Grew.drew ?_ | refine Grew.drewN ?_ _))⟩
end Go.Proofs.Ytnodgagmnekliaa
