/- Boxes: validity, overlap; slices of boxes, slices of them; searches in them. -/
import Derived.Test.YtdenjldadlgniaaAsgI
import Derived.Deep.DeepCutAuto
import Derived.Deep.LoopGhost
import Derived.Deep.DrawnRows
set_option linter.unusedSimpArgs false
set_option linter.unusedVariables false
namespace Go.Proofs.Ytdenjldadlgniaa
open Go.RowKit
attribute [local go_sem ↓] Go.wp_at_zero Go.wp_at_succ

structure Bx where
  x0 : Int
  y0 : Int
  x1 : Int
  y1 : Int
def bxV (b : Bx) : Value := .agg #[.int .i64 b.x0, .int .i64 b.y0, .int .i64 b.x1, .int .i64 b.y1]
def pvB (x y : Int) : Bool := decide (-268435456 ≤ x ∧ x ≤ 268435456 ∧ -268435456 ≤ y ∧ y ≤ 268435456)
def bvB (b : Bx) : Bool := pvB b.x0 b.y0 && pvB b.x1 b.y1 && decide (b.x0 ≤ b.x1) && decide (b.y0 ≤ b.y1)
def mxI (a b : Int) : Int := if a < b then b else a
def mnI (a b : Int) : Int := if b < a then b else a
def ovB (a b : Bx) : Bool := bvB a && bvB b && decide (mxI a.x0 b.x0 < mnI a.x1 b.x1) && decide (mxI a.y0 b.y0 < mnI a.y1 b.y1)
def bK (l : List Bx) (i : Nat) : Bx := l.getD i ⟨0, 0, 0, 0⟩
theorem bK_eq (l : List Bx) {i : Nat} (h : i < l.length) : bK l i = l[i] := by simp [bK, h]
def bRow (m : List (List Bx)) (u : Nat) : List Bx := m.getD u []
theorem bRow_eq (m : List (List Bx)) {u : Nat} (h : u < m.length) : bRow m u = m[u] := by simp [bRow, h]
/-- A slice of boxes. -/
def Bxs (w : World) (p : Option Addr) (l : List Bx) : Prop :=
  l.length ≤ 9223372036854775807 ∧ ∃ b o, (0 < l.length → p = some ⟨b, o, none⟩ ∧ b < w.heap.size) ∧ ∀ i, i < l.length → w.cell? ⟨b, o + i * 4, none⟩ = some (.int .i64 (bK l i).x0) ∧ w.cell? ⟨b, o + i * 4 + 1, none⟩ = some (.int .i64 (bK l i).y0) ∧
    w.cell? ⟨b, o + i * 4 + 2, none⟩ = some (.int .i64 (bK l i).x1) ∧ w.cell? ⟨b, o + i * 4 + 3, none⟩ = some (.int .i64 (bK l i).y1)
theorem Bxs.grew {w w' : World} {p : Option Addr} {l : List Bx} (h : Bxs w p l) (hg : Grew w w') : Bxs w' p l := by
  obtain ⟨h1, b, o, h3, h4⟩ := h
  exact ⟨h1, b, o, fun hp => ⟨(h3 hp).1, Nat.lt_of_lt_of_le (h3 hp).2 hg.below.size⟩, fun i hi => ⟨hg.cellEq (h4 i hi).1, hg.cellEq (h4 i hi).2.1, hg.cellEq (h4 i hi).2.2.1, hg.cellEq (h4 i hi).2.2.2⟩⟩
theorem Bxs.nil (w : World) (p : Option Addr) : Bxs w p [] := ⟨by simp, 0, 0, fun h => by simp at h, fun i hi => by simp at hi⟩
/-- A slice of slices of boxes. -/
def BMat (w : World) (p : Option Addr) (m : List (List Bx)) : Prop :=
  m.length ≤ 9223372036854775807 ∧ ∃ b o, ∃ rp : Nat → Option Addr, ∃ rc : Nat → Nat, (0 < m.length → p = some ⟨b, o, none⟩ ∧ b < w.heap.size) ∧
    ∀ u, u < m.length → w.cell? ⟨b, o + u, none⟩ = some (.slice (rp u) (bRow m u).length (rc u)) ∧ Bxs w (rp u) (bRow m u)
theorem BMat.grew {w w' : World} {p : Option Addr} {m : List (List Bx)} (h : BMat w p m) (hg : Grew w w') : BMat w' p m := by
  obtain ⟨h1, b, o, rp, rc, h3, h4⟩ := h
  refine ⟨h1, b, o, rp, rc, fun hp => ⟨(h3 hp).1, Nat.lt_of_lt_of_le (h3 hp).2 hg.below.size⟩, fun u hu => ⟨hg.cellEq (h4 u hu).1, (h4 u hu).2.grew hg⟩⟩
theorem BMat.row1 {w : World} {p : Option Addr} {m : List (List Bx)} (h : BMat w p m) {u : Nat} (hu : u < m.length) : ∃ b o rp rc, p = some ⟨b, o, none⟩ ∧ b < w.heap.size ∧ w.cell? ⟨b, o + u, none⟩ = some (.slice rp (bRow m u).length rc) ∧ Bxs w rp (bRow m u) := by
  obtain ⟨_, b, o, rp, rc, h3, h4⟩ := h
  exact ⟨b, o, rp u, rc u, (h3 (by omega)).1, (h3 (by omega)).2, (h4 u hu).1, (h4 u hu).2⟩

set_option maxHeartbeats 2000000 in
theorem point_p (x y : Int) (w : World) : Calls Try.prog 51 #[.agg #[.int .i64 x, .int .i64 y]] w fun e w' => e = .returned (.bool (pvB x y)) ∧ Grew w w' := by
  have Hn : Hid (¬ (-268435456 ≤ x ∧ x ≤ 268435456 ∧ -268435456 ≤ y ∧ y ≤ 268435456) → pvB x y = false) := Lib.hid (fun h => decide_eq_false h)
  by_cases e1 : -268435456 ≤ x
  case neg =>
    have H := Lib.hid (Hn.out (fun h => e1 h.1))
    go_enter Try.func51, Try.ntmps51
    go_wp2; go_ret; exact ⟨ret_bool H.out.symm, by (repeat (first | exact Grew.refl _ | refine Grew.over ?_ _ | refine Grew.alloc ?_ _ | refine Grew.drew ?_ | refine Grew.drewN ?_ _))⟩
  by_cases e2 : x ≤ 268435456
  case neg =>
    have H := Lib.hid (Hn.out (fun h => e2 h.2.1))
    go_enter Try.func51, Try.ntmps51
    go_wp2; go_ret; exact ⟨ret_bool H.out.symm, by (repeat (first | exact Grew.refl _ | refine Grew.over ?_ _ | refine Grew.alloc ?_ _ | refine Grew.drew ?_ | refine Grew.drewN ?_ _))⟩
  by_cases e3 : -268435456 ≤ y
  case neg =>
    have H := Lib.hid (Hn.out (fun h => e3 h.2.2.1))
    go_enter Try.func51, Try.ntmps51
    go_wp2; go_ret; exact ⟨ret_bool H.out.symm, by (repeat (first | exact Grew.refl _ | refine Grew.over ?_ _ | refine Grew.alloc ?_ _ | refine Grew.drew ?_ | refine Grew.drewN ?_ _))⟩
  by_cases e4 : y ≤ 268435456
  case neg =>
    have H := Lib.hid (Hn.out (fun h => e4 h.2.2.2))
    go_enter Try.func51, Try.ntmps51
    go_wp2; go_ret; exact ⟨ret_bool H.out.symm, by (repeat (first | exact Grew.refl _ | refine Grew.over ?_ _ | refine Grew.alloc ?_ _ | refine Grew.drew ?_ | refine Grew.drewN ?_ _))⟩
  have H : Hid (pvB x y = true) := Lib.hid (decide_eq_true ⟨e1, e2, e3, e4⟩)
  go_enter Try.func51, Try.ntmps51
  go_wp2; go_ret; exact ⟨ret_bool H.out.symm, by (repeat (first | exact Grew.refl _ | refine Grew.over ?_ _ | refine Grew.alloc ?_ _ | refine Grew.drew ?_ | refine Grew.drewN ?_ _))⟩
theorem point_p_e {x y : Int} {w : World} {b : Bool} (h : pvB x y = b) : Calls Try.prog 51 #[.agg #[.int .i64 x, .int .i64 y]] w fun e w' => e = .returned (.bool b) ∧ Grew w w' := h ▸ point_p x y w

set_option maxHeartbeats 2000000 in
theorem point_r (x y : Int) (w : World) : Calls Try.prog 57 #[.agg #[.int .i64 x, .int .i64 y]] w fun e w' => e = .returned (.bool (pvB x y)) ∧ Grew w w' := by
  have Hn : Hid (¬ (-268435456 ≤ x ∧ x ≤ 268435456 ∧ -268435456 ≤ y ∧ y ≤ 268435456) → pvB x y = false) := Lib.hid (fun h => decide_eq_false h)
  by_cases e1 : -268435456 ≤ x
  case neg =>
    have H := Lib.hid (Hn.out (fun h => e1 h.1))
    go_enter Try.func57, Try.ntmps57
    go_wp2; go_ret; exact ⟨ret_bool H.out.symm, by (repeat (first | exact Grew.refl _ | refine Grew.over ?_ _ | refine Grew.alloc ?_ _ | refine Grew.drew ?_ | refine Grew.drewN ?_ _))⟩
  by_cases e2 : x ≤ 268435456
  case neg =>
    have H := Lib.hid (Hn.out (fun h => e2 h.2.1))
    go_enter Try.func57, Try.ntmps57
    go_wp2; go_ret; exact ⟨ret_bool H.out.symm, by (repeat (first | exact Grew.refl _ | refine Grew.over ?_ _ | refine Grew.alloc ?_ _ | refine Grew.drew ?_ | refine Grew.drewN ?_ _))⟩
  by_cases e3 : -268435456 ≤ y
  case neg =>
    have H := Lib.hid (Hn.out (fun h => e3 h.2.2.1))
    go_enter Try.func57, Try.ntmps57
    go_wp2; go_ret; exact ⟨ret_bool H.out.symm, by (repeat (first | exact Grew.refl _ | refine Grew.over ?_ _ | refine Grew.alloc ?_ _ | refine Grew.drew ?_ | refine Grew.drewN ?_ _))⟩
  by_cases e4 : y ≤ 268435456
  case neg =>
    have H := Lib.hid (Hn.out (fun h => e4 h.2.2.2))
    go_enter Try.func57, Try.ntmps57
    go_wp2; go_ret; exact ⟨ret_bool H.out.symm, by (repeat (first | exact Grew.refl _ | refine Grew.over ?_ _ | refine Grew.alloc ?_ _ | refine Grew.drew ?_ | refine Grew.drewN ?_ _))⟩
  have H : Hid (pvB x y = true) := Lib.hid (decide_eq_true ⟨e1, e2, e3, e4⟩)
  go_enter Try.func57, Try.ntmps57
  go_wp2; go_ret; exact ⟨ret_bool H.out.symm, by (repeat (first | exact Grew.refl _ | refine Grew.over ?_ _ | refine Grew.alloc ?_ _ | refine Grew.drew ?_ | refine Grew.drewN ?_ _))⟩
theorem point_r_e {x y : Int} {w : World} {b : Bool} (h : pvB x y = b) : Calls Try.prog 57 #[.agg #[.int .i64 x, .int .i64 y]] w fun e w' => e = .returned (.bool b) ∧ Grew w w' := h ▸ point_r x y w

set_option maxHeartbeats 4000000 in
theorem box_p (a b c d : Int) (w : World) : Calls Try.prog 35 #[.agg #[.int .i64 a, .int .i64 b, .int .i64 c, .int .i64 d]] w fun e w' => e = .returned (.bool (bvB ⟨a, b, c, d⟩)) ∧ Grew w w' := by
  obtain ⟨p, hp⟩ : ∃ p, pvB a b = p := ⟨_, rfl⟩
  obtain ⟨q, hq⟩ : ∃ q, pvB c d = q := ⟨_, rfl⟩
  have Hp := Lib.hid hp
  have Hq := Lib.hid hq
  have Hv : Hid (bvB ⟨a, b, c, d⟩ = (p && q && decide (a ≤ c) && decide (b ≤ d))) := Lib.hid (by unfold bvB; rw [← hp, ← hq])
  clear hp hq
  cases p
  · have H : Hid (bvB ⟨a, b, c, d⟩ = false) := Lib.hid (by rw [Hv.out]; simp)
    go_enter Try.func35, Try.ntmps35
    go_wp2_with (first | (go_at_call 51; apply Calls.mono; (with_reducible exact point_p_e Hp.out); rintro e w' ⟨rfl, x, rfl⟩) | (go_at_call 51; apply Calls.mono; (with_reducible exact point_p_e Hq.out); rintro e w' ⟨rfl, x, rfl⟩))
    go_ret; exact ⟨ret_bool H.out.symm, by (repeat (first | exact Grew.refl _ | refine Grew.over ?_ _ | refine Grew.alloc ?_ _ | refine Grew.drew ?_ | refine Grew.drewN ?_ _))⟩
  cases q
  · have H : Hid (bvB ⟨a, b, c, d⟩ = false) := Lib.hid (by rw [Hv.out]; simp)
    go_enter Try.func35, Try.ntmps35
    go_wp2_with (first | (go_at_call 51; apply Calls.mono; (with_reducible exact point_p_e Hp.out); rintro e w' ⟨rfl, x, rfl⟩) | (go_at_call 51; apply Calls.mono; (with_reducible exact point_p_e Hq.out); rintro e w' ⟨rfl, x, rfl⟩))
    go_ret; exact ⟨ret_bool H.out.symm, by (repeat (first | exact Grew.refl _ | refine Grew.over ?_ _ | refine Grew.alloc ?_ _ | refine Grew.drew ?_ | refine Grew.drewN ?_ _))⟩
  by_cases e1 : a ≤ c
  case neg =>
    have H : Hid (bvB ⟨a, b, c, d⟩ = false) := Lib.hid (by rw [Hv.out, decide_eq_false e1]; simp)
    go_enter Try.func35, Try.ntmps35
    go_wp2_with (first | (go_at_call 51; apply Calls.mono; (with_reducible exact point_p_e Hp.out); rintro e w' ⟨rfl, x, rfl⟩) | (go_at_call 51; apply Calls.mono; (with_reducible exact point_p_e Hq.out); rintro e w' ⟨rfl, x, rfl⟩))
    go_ret; exact ⟨ret_bool H.out.symm, by (repeat (first | exact Grew.refl _ | refine Grew.over ?_ _ | refine Grew.alloc ?_ _ | refine Grew.drew ?_ | refine Grew.drewN ?_ _))⟩
  have H : Hid (bvB ⟨a, b, c, d⟩ = decide (b ≤ d)) := Lib.hid (by rw [Hv.out, decide_eq_true e1]; simp)
  go_enter Try.func35, Try.ntmps35
  go_wp2_with (first | (go_at_call 51; apply Calls.mono; (with_reducible exact point_p_e Hp.out); rintro e w' ⟨rfl, x, rfl⟩) | (go_at_call 51; apply Calls.mono; (with_reducible exact point_p_e Hq.out); rintro e w' ⟨rfl, x, rfl⟩))
  go_ret; exact ⟨ret_bool H.out.symm, by (repeat (first | exact Grew.refl _ | refine Grew.over ?_ _ | refine Grew.alloc ?_ _ | refine Grew.drew ?_ | refine Grew.drewN ?_ _))⟩
theorem box_p_e {a b c d : Int} {w : World} {r : Bool} (h : bvB ⟨a, b, c, d⟩ = r) : Calls Try.prog 35 #[.agg #[.int .i64 a, .int .i64 b, .int .i64 c, .int .i64 d]] w fun e w' => e = .returned (.bool r) ∧ Grew w w' := h ▸ box_p a b c d w

set_option maxHeartbeats 4000000 in
theorem box_r (a b c d : Int) (w : World) : Calls Try.prog 41 #[.agg #[.int .i64 a, .int .i64 b, .int .i64 c, .int .i64 d]] w fun e w' => e = .returned (.bool (bvB ⟨a, b, c, d⟩)) ∧ Grew w w' := by
  obtain ⟨p, hp⟩ : ∃ p, pvB a b = p := ⟨_, rfl⟩
  obtain ⟨q, hq⟩ : ∃ q, pvB c d = q := ⟨_, rfl⟩
  have Hp := Lib.hid hp
  have Hq := Lib.hid hq
  have Hv : Hid (bvB ⟨a, b, c, d⟩ = (p && q && decide (a ≤ c) && decide (b ≤ d))) := Lib.hid (by unfold bvB; rw [← hp, ← hq])
  clear hp hq
  cases p
  · have H : Hid (bvB ⟨a, b, c, d⟩ = false) := Lib.hid (by rw [Hv.out]; simp)
    go_enter Try.func41, Try.ntmps41
    go_wp2_with (first | (go_at_call 57; apply Calls.mono; (with_reducible exact point_r_e Hp.out); rintro e w' ⟨rfl, x, rfl⟩) | (go_at_call 57; apply Calls.mono; (with_reducible exact point_r_e Hq.out); rintro e w' ⟨rfl, x, rfl⟩))
    go_ret; exact ⟨ret_bool H.out.symm, by (repeat (first | exact Grew.refl _ | refine Grew.over ?_ _ | refine Grew.alloc ?_ _ | refine Grew.drew ?_ | refine Grew.drewN ?_ _))⟩
  cases q
  · have H : Hid (bvB ⟨a, b, c, d⟩ = false) := Lib.hid (by rw [Hv.out]; simp)
    go_enter Try.func41, Try.ntmps41
    go_wp2_with (first | (go_at_call 57; apply Calls.mono; (with_reducible exact point_r_e Hp.out); rintro e w' ⟨rfl, x, rfl⟩) | (go_at_call 57; apply Calls.mono; (with_reducible exact point_r_e Hq.out); rintro e w' ⟨rfl, x, rfl⟩))
    go_ret; exact ⟨ret_bool H.out.symm, by (repeat (first | exact Grew.refl _ | refine Grew.over ?_ _ | refine Grew.alloc ?_ _ | refine Grew.drew ?_ | refine Grew.drewN ?_ _))⟩
  by_cases e1 : a ≤ c
  case neg =>
    have H : Hid (bvB ⟨a, b, c, d⟩ = false) := Lib.hid (by rw [Hv.out, decide_eq_false e1]; simp)
    go_enter Try.func41, Try.ntmps41
    go_wp2_with (first | (go_at_call 57; apply Calls.mono; (with_reducible exact point_r_e Hp.out); rintro e w' ⟨rfl, x, rfl⟩) | (go_at_call 57; apply Calls.mono; (with_reducible exact point_r_e Hq.out); rintro e w' ⟨rfl, x, rfl⟩))
    go_ret; exact ⟨ret_bool H.out.symm, by (repeat (first | exact Grew.refl _ | refine Grew.over ?_ _ | refine Grew.alloc ?_ _ | refine Grew.drew ?_ | refine Grew.drewN ?_ _))⟩
  have H : Hid (bvB ⟨a, b, c, d⟩ = decide (b ≤ d)) := Lib.hid (by rw [Hv.out, decide_eq_true e1]; simp)
  go_enter Try.func41, Try.ntmps41
  go_wp2_with (first | (go_at_call 57; apply Calls.mono; (with_reducible exact point_r_e Hp.out); rintro e w' ⟨rfl, x, rfl⟩) | (go_at_call 57; apply Calls.mono; (with_reducible exact point_r_e Hq.out); rintro e w' ⟨rfl, x, rfl⟩))
  go_ret; exact ⟨ret_bool H.out.symm, by (repeat (first | exact Grew.refl _ | refine Grew.over ?_ _ | refine Grew.alloc ?_ _ | refine Grew.drew ?_ | refine Grew.drewN ?_ _))⟩
theorem box_r_e {a b c d : Int} {w : World} {r : Bool} (h : bvB ⟨a, b, c, d⟩ = r) : Calls Try.prog 41 #[.agg #[.int .i64 a, .int .i64 b, .int .i64 c, .int .i64 d]] w fun e w' => e = .returned (.bool r) ∧ Grew w w' := h ▸ box_r a b c d w

set_option maxHeartbeats 8000000 in
theorem over_p (a b c d a2 b2 c2 d2 : Int) (w : World) : Calls Try.prog 48 #[.agg #[.int .i64 a, .int .i64 b, .int .i64 c, .int .i64 d], .agg #[.int .i64 a2, .int .i64 b2, .int .i64 c2, .int .i64 d2]] w fun e w' => e = .returned (.bool (ovB ⟨a, b, c, d⟩ ⟨a2, b2, c2, d2⟩)) ∧ Grew w w' := by
  obtain ⟨p, hp⟩ : ∃ p, bvB ⟨a, b, c, d⟩ = p := ⟨_, rfl⟩
  obtain ⟨q, hq⟩ : ∃ q, bvB ⟨a2, b2, c2, d2⟩ = q := ⟨_, rfl⟩
  have Hp := Lib.hid hp
  have Hq := Lib.hid hq
  obtain ⟨m1, h1⟩ : ∃ m, (if a < a2 then a2 else a) = m := ⟨_, rfl⟩
  obtain ⟨m2, h2⟩ : ∃ m, (if c2 < c then c2 else c) = m := ⟨_, rfl⟩
  obtain ⟨m3, h3⟩ : ∃ m, (if b < b2 then b2 else b) = m := ⟨_, rfl⟩
  obtain ⟨m4, h4⟩ : ∃ m, (if d2 < d then d2 else d) = m := ⟨_, rfl⟩
  have Hv : Hid (ovB ⟨a, b, c, d⟩ ⟨a2, b2, c2, d2⟩ = (p && q && decide (m1 < m2) && decide (m3 < m4))) := Lib.hid (by unfold ovB mxI mnI; rw [← hp, ← hq, ← h1, ← h2, ← h3, ← h4])
  clear hp hq
  cases p
  · have H : Hid (ovB ⟨a, b, c, d⟩ ⟨a2, b2, c2, d2⟩ = false) := Lib.hid (by rw [Hv.out]; simp)
    go_enter Try.func48, Try.ntmps48
    go_wp2_with (first | (go_at_call 35; apply Calls.mono; (with_reducible exact box_p_e Hp.out); rintro e w' ⟨rfl, x, rfl⟩) | (go_at_call 35; apply Calls.mono; (with_reducible exact box_p_e Hq.out); rintro e w' ⟨rfl, x, rfl⟩))
    go_ret; exact ⟨ret_bool H.out.symm, by (repeat (first | exact Grew.refl _ | refine Grew.over ?_ _ | refine Grew.alloc ?_ _ | refine Grew.drew ?_ | refine Grew.drewN ?_ _))⟩

  cases q
  · have H : Hid (ovB ⟨a, b, c, d⟩ ⟨a2, b2, c2, d2⟩ = false) := Lib.hid (by rw [Hv.out]; simp)
    go_enter Try.func48, Try.ntmps48
    go_wp2_with (first | (go_at_call 35; apply Calls.mono; (with_reducible exact box_p_e Hp.out); rintro e w' ⟨rfl, x, rfl⟩) | (go_at_call 35; apply Calls.mono; (with_reducible exact box_p_e Hq.out); rintro e w' ⟨rfl, x, rfl⟩))
    go_ret; exact ⟨ret_bool H.out.symm, by (repeat (first | exact Grew.refl _ | refine Grew.over ?_ _ | refine Grew.alloc ?_ _ | refine Grew.drew ?_ | refine Grew.drewN ?_ _))⟩

  by_cases e1 : m1 < m2
  case neg =>
    have H : Hid (ovB ⟨a, b, c, d⟩ ⟨a2, b2, c2, d2⟩ = false) := Lib.hid (by rw [Hv.out, decide_eq_false e1]; simp)
    go_enter Try.func48, Try.ntmps48
    go_wp2_with (first | (go_at_call 35; apply Calls.mono; (with_reducible exact box_p_e Hp.out); rintro e w' ⟨rfl, x, rfl⟩) | (go_at_call 35; apply Calls.mono; (with_reducible exact box_p_e Hq.out); rintro e w' ⟨rfl, x, rfl⟩))
    go_ret; exact ⟨ret_bool H.out.symm, by (repeat (first | exact Grew.refl _ | refine Grew.over ?_ _ | refine Grew.alloc ?_ _ | refine Grew.drew ?_ | refine Grew.drewN ?_ _))⟩

  have H : Hid (ovB ⟨a, b, c, d⟩ ⟨a2, b2, c2, d2⟩ = decide (m3 < m4)) := Lib.hid (by rw [Hv.out, decide_eq_true e1]; simp)
  go_enter Try.func48, Try.ntmps48
  go_wp2_with (first | (go_at_call 35; apply Calls.mono; (with_reducible exact box_p_e Hp.out); rintro e w' ⟨rfl, x, rfl⟩) | (go_at_call 35; apply Calls.mono; (with_reducible exact box_p_e Hq.out); rintro e w' ⟨rfl, x, rfl⟩))
  go_ret; exact ⟨ret_bool H.out.symm, by (repeat (first | exact Grew.refl _ | refine Grew.over ?_ _ | refine Grew.alloc ?_ _ | refine Grew.drew ?_ | refine Grew.drewN ?_ _))⟩
theorem over_p_e {a b c d a2 b2 c2 d2 : Int} {w : World} {r : Bool} (h : ovB ⟨a, b, c, d⟩ ⟨a2, b2, c2, d2⟩ = r) : Calls Try.prog 48 #[.agg #[.int .i64 a, .int .i64 b, .int .i64 c, .int .i64 d], .agg #[.int .i64 a2, .int .i64 b2, .int .i64 c2, .int .i64 d2]] w fun e w' => e = .returned (.bool r) ∧ Grew w w' := h ▸ over_p a b c d a2 b2 c2 d2 w

set_option maxHeartbeats 8000000 in
theorem over_r (a b c d a2 b2 c2 d2 : Int) (w : World) : Calls Try.prog 42 #[.agg #[.int .i64 a, .int .i64 b, .int .i64 c, .int .i64 d], .agg #[.int .i64 a2, .int .i64 b2, .int .i64 c2, .int .i64 d2]] w fun e w' => e = .returned (.bool (ovB ⟨a, b, c, d⟩ ⟨a2, b2, c2, d2⟩)) ∧ Grew w w' := by
  obtain ⟨p, hp⟩ : ∃ p, bvB ⟨a, b, c, d⟩ = p := ⟨_, rfl⟩
  obtain ⟨q, hq⟩ : ∃ q, bvB ⟨a2, b2, c2, d2⟩ = q := ⟨_, rfl⟩
  have Hp := Lib.hid hp
  have Hq := Lib.hid hq
  obtain ⟨m1, h1⟩ : ∃ m, (if a < a2 then a2 else a) = m := ⟨_, rfl⟩
  obtain ⟨m2, h2⟩ : ∃ m, (if c2 < c then c2 else c) = m := ⟨_, rfl⟩
  obtain ⟨m3, h3⟩ : ∃ m, (if b < b2 then b2 else b) = m := ⟨_, rfl⟩
  obtain ⟨m4, h4⟩ : ∃ m, (if d2 < d then d2 else d) = m := ⟨_, rfl⟩
  have Hv : Hid (ovB ⟨a, b, c, d⟩ ⟨a2, b2, c2, d2⟩ = (p && q && decide (m1 < m2) && decide (m3 < m4))) := Lib.hid (by unfold ovB mxI mnI; rw [← hp, ← hq, ← h1, ← h2, ← h3, ← h4])
  clear hp hq
  cases p
  · have H : Hid (ovB ⟨a, b, c, d⟩ ⟨a2, b2, c2, d2⟩ = false) := Lib.hid (by rw [Hv.out]; simp)
    go_enter Try.func42, Try.ntmps42
    go_wp2_with (first | (go_at_call 41; apply Calls.mono; (with_reducible exact box_r_e Hp.out); rintro e w' ⟨rfl, x, rfl⟩) | (go_at_call 41; apply Calls.mono; (with_reducible exact box_r_e Hq.out); rintro e w' ⟨rfl, x, rfl⟩))
    go_ret; exact ⟨ret_bool H.out.symm, by (repeat (first | exact Grew.refl _ | refine Grew.over ?_ _ | refine Grew.alloc ?_ _ | refine Grew.drew ?_ | refine Grew.drewN ?_ _))⟩

  cases q
  · have H : Hid (ovB ⟨a, b, c, d⟩ ⟨a2, b2, c2, d2⟩ = false) := Lib.hid (by rw [Hv.out]; simp)
    go_enter Try.func42, Try.ntmps42
    go_wp2_with (first | (go_at_call 41; apply Calls.mono; (with_reducible exact box_r_e Hp.out); rintro e w' ⟨rfl, x, rfl⟩) | (go_at_call 41; apply Calls.mono; (with_reducible exact box_r_e Hq.out); rintro e w' ⟨rfl, x, rfl⟩))
    go_ret; exact ⟨ret_bool H.out.symm, by (repeat (first | exact Grew.refl _ | refine Grew.over ?_ _ | refine Grew.alloc ?_ _ | refine Grew.drew ?_ | refine Grew.drewN ?_ _))⟩

  by_cases e1 : m1 < m2
  case neg =>
    have H : Hid (ovB ⟨a, b, c, d⟩ ⟨a2, b2, c2, d2⟩ = false) := Lib.hid (by rw [Hv.out, decide_eq_false e1]; simp)
    go_enter Try.func42, Try.ntmps42
    go_wp2_with (first | (go_at_call 41; apply Calls.mono; (with_reducible exact box_r_e Hp.out); rintro e w' ⟨rfl, x, rfl⟩) | (go_at_call 41; apply Calls.mono; (with_reducible exact box_r_e Hq.out); rintro e w' ⟨rfl, x, rfl⟩))
    go_ret; exact ⟨ret_bool H.out.symm, by (repeat (first | exact Grew.refl _ | refine Grew.over ?_ _ | refine Grew.alloc ?_ _ | refine Grew.drew ?_ | refine Grew.drewN ?_ _))⟩

  have H : Hid (ovB ⟨a, b, c, d⟩ ⟨a2, b2, c2, d2⟩ = decide (m3 < m4)) := Lib.hid (by rw [Hv.out, decide_eq_true e1]; simp)
  go_enter Try.func42, Try.ntmps42
  go_wp2_with (first | (go_at_call 41; apply Calls.mono; (with_reducible exact box_r_e Hp.out); rintro e w' ⟨rfl, x, rfl⟩) | (go_at_call 41; apply Calls.mono; (with_reducible exact box_r_e Hq.out); rintro e w' ⟨rfl, x, rfl⟩))
  go_ret; exact ⟨ret_bool H.out.symm, by (repeat (first | exact Grew.refl _ | refine Grew.over ?_ _ | refine Grew.alloc ?_ _ | refine Grew.drew ?_ | refine Grew.drewN ?_ _))⟩
theorem over_r_e {a b c d a2 b2 c2 d2 : Int} {w : World} {r : Bool} (h : ovB ⟨a, b, c, d⟩ ⟨a2, b2, c2, d2⟩ = r) : Calls Try.prog 42 #[.agg #[.int .i64 a, .int .i64 b, .int .i64 c, .int .i64 d], .agg #[.int .i64 a2, .int .i64 b2, .int .i64 c2, .int .i64 d2]] w fun e w' => e = .returned (.bool r) ∧ Grew w w' := h ▸ over_r a b c d a2 b2 c2 d2 w
end Go.Proofs.Ytdenjldadlgniaa
