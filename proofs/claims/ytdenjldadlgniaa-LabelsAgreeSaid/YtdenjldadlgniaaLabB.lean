/- Searches in slices of boxes and of numbers; candidates, priced, free of the program; boxes, numbers of the reference. -/
import Derived.Test.YtdenjldadlgniaaLabP
set_option linter.unusedSimpArgs false
set_option linter.unusedVariables false
namespace Go.Proofs.Ytdenjldadlgniaa
open Go.RowKit
attribute [local go_sem ↓] Go.wp_at_zero Go.wp_at_succ

theorem any_bK {l : List Bx} {pr : Bx → Bool} : l.any pr = true ↔ ∃ k, k < l.length ∧ pr (bK l k) = true := by
  rw [List.any_eq_true]
  constructor
  · rintro ⟨b, hb, h⟩
    obtain ⟨k, hk, rfl⟩ := List.getElem_of_mem hb
    exact ⟨k, hk, by rw [bK_eq l hk]; exact h⟩
  · rintro ⟨k, hk, h⟩
    rw [bK_eq l hk] at h
    exact ⟨_, List.getElem_mem hk, h⟩
theorem any_none {l : List Bx} {pr : Bx → Bool} (h : ∀ k, k < l.length → pr (bK l k) = false) : l.any pr = false := by
  rw [← Bool.not_eq_true, any_bK]
  rintro ⟨k, hk, h2⟩
  rw [h k hk] at h2
  cases h2
def idxO (l : List Bx) (pr : Bx → Bool) (r : Int) : Prop := (r = -1 ∧ l.any pr = false) ∨ ∃ k : Nat, r = (k : Int) ∧ l.any pr = true

set_option maxHeartbeats 2000000 in
theorem index_cand (p : Option Addr) (n cap : Nat) (l : List Bx) (pr : Bx → Bool) (w : World) (hI : Bxs w p l) (hn : l.length = n)
    (hcl : ∀ (a b c d : Int) (W : World), Grew w W → Calls Try.prog 44 #[.agg #[.int .i64 a, .int .i64 b, .int .i64 c, .int .i64 d]] W fun e w' => e = .returned (.bool (pr ⟨a, b, c, d⟩)) ∧ Grew W w') :
    Calls Try.prog 50 #[.slice p n cap, .func (.func 44) #[] #[]] w fun e w' => (∃ r : Int, e = .returned (.int .i64 r) ∧ idxO l pr r) ∧ Grew w w' := by
  subst hn
  have hm := hI.1
  have HI := Lib.hid hI
  have Hcl := Lib.hid hcl
  clear hcl hI
  go_enter Try.func50, Try.ntmps50
  go_wp2
  go_loopw [5, 8] (fun _ i wr => ∃ k : Nat, k ≤ l.length ∧ i = .int .i64 k ∧ (∀ j, j < k → pr (bK l j) = false) ∧ Grew w wr) (fun _ i _ => l.length - (intOf i).toNat)
  case atStart => exact ⟨0, Nat.zero_le _, rfl, fun j hj => by omega, Grew.refl _⟩
  case round =>
    obtain ⟨k, hk, rfl, hall, hg⟩ := hrel
    have Hall := Lib.hid hall
    have Hg := Lib.hid hg
    clear hall hg
    by_cases hlt : k < l.length
    · obtain ⟨_, bb, o, h3, h4⟩ := HI.out.grew Hg.out
      obtain ⟨rfl, hb⟩ := h3 (by omega)
      obtain ⟨c0, c1, c2, c3⟩ := h4 k hlt
      obtain ⟨⟨a, b, c, d⟩, hx⟩ : ∃ x, bK l k = x := ⟨_, rfl⟩
      rw [hx] at c0 c1 c2 c3
      dsimp only at c0 c1 c2 c3
      have Hx := Lib.hid hx
      clear h3 h4 hx
      cases he : pr ⟨a, b, c, d⟩
      · have He : Hid (pr (bK l k) = false) := Lib.hid (by rw [Hx.out]; exact he)
        go_wp2_with (go_at_call 44; apply Calls.mono; (with_reducible exact Hcl.out a b c d _ (Hg.out.trans (by (repeat (first | exact Grew.refl _ | refine Grew.over ?_ _ | refine Grew.alloc ?_ _ | refine Grew.drew ?_ | refine Grew.drewN ?_ _))))); rw [he]; rintro e w2 ⟨rfl, hg2⟩; have Hg2 := Lib.hid (Hg.out.trans (Grew.trans (by (repeat (first | exact Grew.refl _ | refine Grew.over ?_ _ | refine Grew.alloc ?_ _ | refine Grew.drew ?_ | refine Grew.drewN ?_ _))) hg2)); clear hg2)
        go_roundw
        case rel => exact ⟨k + 1, by omega, by go_num, fun j hj => (by
          by_cases h : j = k
          · rw [h]; exact He.out
          · exact Hall.out j (by omega)), Hg2.out⟩
        case measure => simp [intOf]; omega
      · have He : Hid (l.any pr = true) := Lib.hid (any_bK.2 ⟨k, hlt, by rw [Hx.out]; exact he⟩)
        go_wp2_with (go_at_call 44; apply Calls.mono; (with_reducible exact Hcl.out a b c d _ (Hg.out.trans (by (repeat (first | exact Grew.refl _ | refine Grew.over ?_ _ | refine Grew.alloc ?_ _ | refine Grew.drew ?_ | refine Grew.drewN ?_ _))))); rw [he]; rintro e w2 ⟨rfl, hg2⟩; have Hg2 := Lib.hid (Hg.out.trans (Grew.trans (by (repeat (first | exact Grew.refl _ | refine Grew.over ?_ _ | refine Grew.alloc ?_ _ | refine Grew.drew ?_ | refine Grew.drewN ?_ _))) hg2)); clear hg2)
        go_ret
        exact ⟨⟨k, rfl, Or.inr ⟨k, rfl, He.out⟩⟩, Hg2.out⟩
    · have Hf := Lib.hid (any_none (pr := pr) (l := l) (fun i hi => Hall.out i (by omega)))
      go_wp2
      go_ret
      exact ⟨⟨-1, rfl, Or.inl ⟨rfl, Hf.out⟩⟩, Hg.out⟩
set_option maxHeartbeats 2000000 in
theorem contains_cand (p : Option Addr) (n cap : Nat) (l : List Bx) (pr : Bx → Bool) (w : World) (hI : Bxs w p l) (hn : l.length = n)
    (hcl : ∀ (a b c d : Int) (W : World), Grew w W → Calls Try.prog 44 #[.agg #[.int .i64 a, .int .i64 b, .int .i64 c, .int .i64 d]] W fun e w' => e = .returned (.bool (pr ⟨a, b, c, d⟩)) ∧ Grew W w') :
    Calls Try.prog 33 #[.slice p n cap, .func (.func 44) #[] #[]] w fun e w' => e = .returned (.bool (l.any pr)) ∧ Grew w w' := by
  have Hcl := Lib.hid hcl
  have HI := Lib.hid hI
  clear hcl hI
  go_enter Try.func33, Try.ntmps33
  go_wp2_with (go_at_call 50; apply Calls.mono; (with_reducible exact index_cand _ _ _ _ pr _ HI.out hn Hcl.out); rintro e w' ⟨⟨r, rfl, hr⟩, hg⟩; have Hr := Lib.hid hr; have Hg := Lib.hid hg; clear hr hg)
  rcases Hr.out with ⟨rfl, h⟩ | ⟨k, rfl, h⟩
  · have H := Lib.hid h
    clear h
    go_wp2
    go_ret
    exact ⟨ret_bool H.out.symm, Hg.out⟩
  · have hk : (0 : Int) ≤ k := Int.natCast_nonneg k
    have H := Lib.hid h
    clear h
    go_wp2
    go_ret
    exact ⟨ret_bool H.out.symm, Hg.out⟩

set_option maxHeartbeats 2000000 in
theorem index_slot (p : Option Addr) (n cap : Nat) (l : List Bx) (pr : Bx → Bool) (w : World) (hI : Bxs w p l) (hn : l.length = n)
    (hcl : ∀ (a b c d : Int) (W : World), Grew w W → Calls Try.prog 34 #[.agg #[.int .i64 a, .int .i64 b, .int .i64 c, .int .i64 d]] W fun e w' => e = .returned (.bool (pr ⟨a, b, c, d⟩)) ∧ Grew W w') :
    Calls Try.prog 50 #[.slice p n cap, .func (.func 34) #[] #[]] w fun e w' => (∃ r : Int, e = .returned (.int .i64 r) ∧ idxO l pr r) ∧ Grew w w' := by
  subst hn
  have hm := hI.1
  have HI := Lib.hid hI
  have Hcl := Lib.hid hcl
  clear hcl hI
  go_enter Try.func50, Try.ntmps50
  go_wp2
  go_loopw [5, 8] (fun _ i wr => ∃ k : Nat, k ≤ l.length ∧ i = .int .i64 k ∧ (∀ j, j < k → pr (bK l j) = false) ∧ Grew w wr) (fun _ i _ => l.length - (intOf i).toNat)
  case atStart => exact ⟨0, Nat.zero_le _, rfl, fun j hj => by omega, Grew.refl _⟩
  case round =>
    obtain ⟨k, hk, rfl, hall, hg⟩ := hrel
    have Hall := Lib.hid hall
    have Hg := Lib.hid hg
    clear hall hg
    by_cases hlt : k < l.length
    · obtain ⟨_, bb, o, h3, h4⟩ := HI.out.grew Hg.out
      obtain ⟨rfl, hb⟩ := h3 (by omega)
      obtain ⟨c0, c1, c2, c3⟩ := h4 k hlt
      obtain ⟨⟨a, b, c, d⟩, hx⟩ : ∃ x, bK l k = x := ⟨_, rfl⟩
      rw [hx] at c0 c1 c2 c3
      dsimp only at c0 c1 c2 c3
      have Hx := Lib.hid hx
      clear h3 h4 hx
      cases he : pr ⟨a, b, c, d⟩
      · have He : Hid (pr (bK l k) = false) := Lib.hid (by rw [Hx.out]; exact he)
        go_wp2_with (go_at_call 34; apply Calls.mono; (with_reducible exact Hcl.out a b c d _ (Hg.out.trans (by (repeat (first | exact Grew.refl _ | refine Grew.over ?_ _ | refine Grew.alloc ?_ _ | refine Grew.drew ?_ | refine Grew.drewN ?_ _))))); rw [he]; rintro e w2 ⟨rfl, hg2⟩; have Hg2 := Lib.hid (Hg.out.trans (Grew.trans (by (repeat (first | exact Grew.refl _ | refine Grew.over ?_ _ | refine Grew.alloc ?_ _ | refine Grew.drew ?_ | refine Grew.drewN ?_ _))) hg2)); clear hg2)
        go_roundw
        case rel => exact ⟨k + 1, by omega, by go_num, fun j hj => (by
          by_cases h : j = k
          · rw [h]; exact He.out
          · exact Hall.out j (by omega)), Hg2.out⟩
        case measure => simp [intOf]; omega
      · have He : Hid (l.any pr = true) := Lib.hid (any_bK.2 ⟨k, hlt, by rw [Hx.out]; exact he⟩)
        go_wp2_with (go_at_call 34; apply Calls.mono; (with_reducible exact Hcl.out a b c d _ (Hg.out.trans (by (repeat (first | exact Grew.refl _ | refine Grew.over ?_ _ | refine Grew.alloc ?_ _ | refine Grew.drew ?_ | refine Grew.drewN ?_ _))))); rw [he]; rintro e w2 ⟨rfl, hg2⟩; have Hg2 := Lib.hid (Hg.out.trans (Grew.trans (by (repeat (first | exact Grew.refl _ | refine Grew.over ?_ _ | refine Grew.alloc ?_ _ | refine Grew.drew ?_ | refine Grew.drewN ?_ _))) hg2)); clear hg2)
        go_ret
        exact ⟨⟨k, rfl, Or.inr ⟨k, rfl, He.out⟩⟩, Hg2.out⟩
    · have Hf := Lib.hid (any_none (pr := pr) (l := l) (fun i hi => Hall.out i (by omega)))
      go_wp2
      go_ret
      exact ⟨⟨-1, rfl, Or.inl ⟨rfl, Hf.out⟩⟩, Hg.out⟩
set_option maxHeartbeats 2000000 in
theorem contains_slot (p : Option Addr) (n cap : Nat) (l : List Bx) (pr : Bx → Bool) (w : World) (hI : Bxs w p l) (hn : l.length = n)
    (hcl : ∀ (a b c d : Int) (W : World), Grew w W → Calls Try.prog 34 #[.agg #[.int .i64 a, .int .i64 b, .int .i64 c, .int .i64 d]] W fun e w' => e = .returned (.bool (pr ⟨a, b, c, d⟩)) ∧ Grew W w') :
    Calls Try.prog 33 #[.slice p n cap, .func (.func 34) #[] #[]] w fun e w' => e = .returned (.bool (l.any pr)) ∧ Grew w w' := by
  have Hcl := Lib.hid hcl
  have HI := Lib.hid hI
  clear hcl hI
  go_enter Try.func33, Try.ntmps33
  go_wp2_with (go_at_call 50; apply Calls.mono; (with_reducible exact index_slot _ _ _ _ pr _ HI.out hn Hcl.out); rintro e w' ⟨⟨r, rfl, hr⟩, hg⟩; have Hr := Lib.hid hr; have Hg := Lib.hid hg; clear hr hg)
  rcases Hr.out with ⟨rfl, h⟩ | ⟨k, rfl, h⟩
  · have H := Lib.hid h
    clear h
    go_wp2
    go_ret
    exact ⟨ret_bool H.out.symm, Hg.out⟩
  · have hk : (0 : Int) ≤ k := Int.natCast_nonneg k
    have H := Lib.hid h
    clear h
    go_wp2
    go_ret
    exact ⟨ret_bool H.out.symm, Hg.out⟩

set_option maxHeartbeats 2000000 in
theorem index_free (p : Option Addr) (n cap : Nat) (l : List Bx) (q : Value) (pr : Bx → Bool) (w : World) (hI : Bxs w p l) (hn : l.length = n)
    (hcl : ∀ (a b c d : Int) (W : World), Grew w W → Calls Try.prog 47 #[.agg #[.int .i64 a, .int .i64 b, .int .i64 c, .int .i64 d], q] W fun e w' => e = .returned (.bool (pr ⟨a, b, c, d⟩)) ∧ Grew W w') :
    Calls Try.prog 50 #[.slice p n cap, .func (.func 47) #[] #[q]] w fun e w' => (∃ r : Int, e = .returned (.int .i64 r) ∧ idxO l pr r) ∧ Grew w w' := by
  subst hn
  have hm := hI.1
  have HI := Lib.hid hI
  have Hcl := Lib.hid hcl
  clear hcl hI
  go_enter Try.func50, Try.ntmps50
  go_wp2
  go_loopw [5, 8] (fun _ i wr => ∃ k : Nat, k ≤ l.length ∧ i = .int .i64 k ∧ (∀ j, j < k → pr (bK l j) = false) ∧ Grew w wr) (fun _ i _ => l.length - (intOf i).toNat)
  case atStart => exact ⟨0, Nat.zero_le _, rfl, fun j hj => by omega, Grew.refl _⟩
  case round =>
    obtain ⟨k, hk, rfl, hall, hg⟩ := hrel
    have Hall := Lib.hid hall
    have Hg := Lib.hid hg
    clear hall hg
    by_cases hlt : k < l.length
    · obtain ⟨_, bb, o, h3, h4⟩ := HI.out.grew Hg.out
      obtain ⟨rfl, hb⟩ := h3 (by omega)
      obtain ⟨c0, c1, c2, c3⟩ := h4 k hlt
      obtain ⟨⟨a, b, c, d⟩, hx⟩ : ∃ x, bK l k = x := ⟨_, rfl⟩
      rw [hx] at c0 c1 c2 c3
      dsimp only at c0 c1 c2 c3
      have Hx := Lib.hid hx
      clear h3 h4 hx
      cases he : pr ⟨a, b, c, d⟩
      · have He : Hid (pr (bK l k) = false) := Lib.hid (by rw [Hx.out]; exact he)
        go_wp2_with (go_at_call 47; apply Calls.mono; (with_reducible exact Hcl.out a b c d _ (Hg.out.trans (by (repeat (first | exact Grew.refl _ | refine Grew.over ?_ _ | refine Grew.alloc ?_ _ | refine Grew.drew ?_ | refine Grew.drewN ?_ _))))); rw [he]; rintro e w2 ⟨rfl, hg2⟩; have Hg2 := Lib.hid (Hg.out.trans (Grew.trans (by (repeat (first | exact Grew.refl _ | refine Grew.over ?_ _ | refine Grew.alloc ?_ _ | refine Grew.drew ?_ | refine Grew.drewN ?_ _))) hg2)); clear hg2)
        go_roundw
        case rel => exact ⟨k + 1, by omega, by go_num, fun j hj => (by
          by_cases h : j = k
          · rw [h]; exact He.out
          · exact Hall.out j (by omega)), Hg2.out⟩
        case measure => simp [intOf]; omega
      · have He : Hid (l.any pr = true) := Lib.hid (any_bK.2 ⟨k, hlt, by rw [Hx.out]; exact he⟩)
        go_wp2_with (go_at_call 47; apply Calls.mono; (with_reducible exact Hcl.out a b c d _ (Hg.out.trans (by (repeat (first | exact Grew.refl _ | refine Grew.over ?_ _ | refine Grew.alloc ?_ _ | refine Grew.drew ?_ | refine Grew.drewN ?_ _))))); rw [he]; rintro e w2 ⟨rfl, hg2⟩; have Hg2 := Lib.hid (Hg.out.trans (Grew.trans (by (repeat (first | exact Grew.refl _ | refine Grew.over ?_ _ | refine Grew.alloc ?_ _ | refine Grew.drew ?_ | refine Grew.drewN ?_ _))) hg2)); clear hg2)
        go_ret
        exact ⟨⟨k, rfl, Or.inr ⟨k, rfl, He.out⟩⟩, Hg2.out⟩
    · have Hf := Lib.hid (any_none (pr := pr) (l := l) (fun i hi => Hall.out i (by omega)))
      go_wp2
      go_ret
      exact ⟨⟨-1, rfl, Or.inl ⟨rfl, Hf.out⟩⟩, Hg.out⟩
set_option maxHeartbeats 2000000 in
theorem contains_free (p : Option Addr) (n cap : Nat) (l : List Bx) (q : Value) (pr : Bx → Bool) (w : World) (hI : Bxs w p l) (hn : l.length = n)
    (hcl : ∀ (a b c d : Int) (W : World), Grew w W → Calls Try.prog 47 #[.agg #[.int .i64 a, .int .i64 b, .int .i64 c, .int .i64 d], q] W fun e w' => e = .returned (.bool (pr ⟨a, b, c, d⟩)) ∧ Grew W w') :
    Calls Try.prog 33 #[.slice p n cap, .func (.func 47) #[] #[q]] w fun e w' => e = .returned (.bool (l.any pr)) ∧ Grew w w' := by
  have Hcl := Lib.hid hcl
  have HI := Lib.hid hI
  clear hcl hI
  go_enter Try.func33, Try.ntmps33
  go_wp2_with (go_at_call 50; apply Calls.mono; (with_reducible exact index_free _ _ _ _ _ pr _ HI.out hn Hcl.out); rintro e w' ⟨⟨r, rfl, hr⟩, hg⟩; have Hr := Lib.hid hr; have Hg := Lib.hid hg; clear hr hg)
  rcases Hr.out with ⟨rfl, h⟩ | ⟨k, rfl, h⟩
  · have H := Lib.hid h
    clear h
    go_wp2
    go_ret
    exact ⟨ret_bool H.out.symm, Hg.out⟩
  · have hk : (0 : Int) ≤ k := Int.natCast_nonneg k
    have H := Lib.hid h
    clear h
    go_wp2
    go_ret
    exact ⟨ret_bool H.out.symm, Hg.out⟩

set_option maxHeartbeats 1000000 in
theorem cand1_p (a b c d : Int) (w : World) : Calls Try.prog 44 #[.agg #[.int .i64 a, .int .i64 b, .int .i64 c, .int .i64 d]] w fun e w' => e = .returned (.bool (!bvB ⟨a, b, c, d⟩)) ∧ Grew w w' := by
  go_enter Try.func44, Try.ntmps44
  go_wp2_with (go_at_call 35; apply Calls.mono; (with_reducible exact box_p a b c d _); rintro e w' ⟨rfl, x, rfl⟩)
  go_ret
  exact ⟨rfl, by (repeat (first | exact Grew.refl _ | refine Grew.over ?_ _ | refine Grew.alloc ?_ _ | refine Grew.drew ?_ | refine Grew.drewN ?_ _))⟩

set_option maxHeartbeats 1000000 in
theorem slot1_p (a b c d : Int) (w : World) : Calls Try.prog 34 #[.agg #[.int .i64 a, .int .i64 b, .int .i64 c, .int .i64 d]] w fun e w' => e = .returned (.bool (!bvB ⟨a, b, c, d⟩)) ∧ Grew w w' := by
  go_enter Try.func34, Try.ntmps34
  go_wp2_with (go_at_call 35; apply Calls.mono; (with_reducible exact box_p a b c d _); rintro e w' ⟨rfl, x, rfl⟩)
  go_ret
  exact ⟨rfl, by (repeat (first | exact Grew.refl _ | refine Grew.over ?_ _ | refine Grew.alloc ?_ _ | refine Grew.drew ?_ | refine Grew.drewN ?_ _))⟩

set_option maxHeartbeats 1000000 in
theorem free1_p (a b c d a2 b2 c2 d2 : Int) (t : Nat) (w : World) (h0 : w.cell? ⟨t, 0, none⟩ = some (.int .i64 a2)) (h1 : w.cell? ⟨t, 1, none⟩ = some (.int .i64 b2)) (h2 : w.cell? ⟨t, 2, none⟩ = some (.int .i64 c2)) (h3 : w.cell? ⟨t, 3, none⟩ = some (.int .i64 d2)) :
    Calls Try.prog 47 #[.agg #[.int .i64 a, .int .i64 b, .int .i64 c, .int .i64 d], .pointer (some ⟨t, 0, none⟩)] w fun e w' => e = .returned (.bool (ovB ⟨a, b, c, d⟩ ⟨a2, b2, c2, d2⟩)) ∧ Grew w w' := by
  have hb : t < w.heap.size := World.block_lt_of_cell? w _ h0
  go_enter Try.func47, Try.ntmps47
  go_wp2_with (go_at_call 48; apply Calls.mono; (with_reducible exact over_p a b c d a2 b2 c2 d2 _); rintro e w' ⟨rfl, x, rfl⟩)
  go_ret
  exact ⟨rfl, by (repeat (first | exact Grew.refl _ | refine Grew.over ?_ _ | refine Grew.alloc ?_ _ | refine Grew.drew ?_ | refine Grew.drewN ?_ _))⟩
/-- A box overlaps none of a list. -/
def frB (l : List Bx) (b : Bx) : Bool := !(l.any fun x => ovB x b)
set_option maxHeartbeats 1000000 in
theorem free_p (p : Option Addr) (n cap : Nat) (l : List Bx) (a b c d : Int) (w : World) (hI : Bxs w p l) (hn : l.length = n) :
    Calls Try.prog 28 #[.slice p n cap, .agg #[.int .i64 a, .int .i64 b, .int .i64 c, .int .i64 d]] w fun e w' => e = .returned (.bool (frB l ⟨a, b, c, d⟩)) ∧ Grew w w' := by
  have HI := Lib.hid hI
  clear hI
  have Hf : Hid (frB l ⟨a, b, c, d⟩ = !(l.any fun x => ovB x ⟨a, b, c, d⟩)) := Lib.hid rfl
  obtain ⟨r, hr⟩ : ∃ r, (l.any fun x => ovB x ⟨a, b, c, d⟩) = r := ⟨_, rfl⟩
  have Hr := Lib.hid hr
  clear hr
  go_enter Try.func28, Try.ntmps28
  go_wp2_with (go_at_call 33; apply Calls.mono; (with_reducible exact contains_free _ _ _ l _ (fun x => ovB x ⟨a, b, c, d⟩) _ (HI.out.grew (by (repeat (first | exact Grew.refl _ | refine Grew.over ?_ _ | refine Grew.alloc ?_ _ | refine Grew.drew ?_ | refine Grew.drewN ?_ _)))) hn (fun a' b' c' d' W hW => free1_p a' b' c' d' a b c d _ W (hW.cellEq (by simp [go_sem])) (hW.cellEq (by simp [go_sem])) (hW.cellEq (by simp [go_sem])) (hW.cellEq (by simp [go_sem])))); rw [Hr.out]; rintro e w' ⟨rfl, x, rfl⟩)
  go_ret
  refine ⟨ret_bool ?_, by (repeat (first | exact Grew.refl _ | refine Grew.over ?_ _ | refine Grew.alloc ?_ _ | refine Grew.drew ?_ | refine Grew.drewN ?_ _))⟩
  rw [Hf.out, Hr.out]
theorem free_e {p : Option Addr} {n cap : Nat} {l : List Bx} {a b c d : Int} {w : World} {r : Bool} (h : frB l ⟨a, b, c, d⟩ = r) (hI : Bxs w p l) (hn : l.length = n) :
    Calls Try.prog 28 #[.slice p n cap, .agg #[.int .i64 a, .int .i64 b, .int .i64 c, .int .i64 d]] w fun e w' => e = .returned (.bool r) ∧ Grew w w' := h ▸ free_p p n cap l a b c d w hI hn

set_option maxHeartbeats 1000000 in
theorem index_pri (p : Option Addr) (n cap : Nat) (xs : List Int)  (pr : Int → Bool) (w : World) (hI : Ints w p xs) (hn : xs.length = n)
    (hcl : ∀ c : Int, Calls Try.prog 46 #[.int .i64 c] w fun e w' => e = .returned (.bool (pr c)) ∧ w = w') :
    Calls Try.prog 59 #[.slice p n cap, .func (.func 46) #[] #[]] w fun e w' => e = .returned (.int .i64 (idxF pr xs)) ∧ w = w' := by
  subst hn
  obtain ⟨hm, _, b, o, h3, h4⟩ := hI
  have Hcl := Lib.hid hcl
  clear hcl
  go_enter Try.func59, Try.ntmps59
  go_wp2
  go_loop [5, 8] (fun _ i => ∃ k : Nat, k ≤ xs.length ∧ i = .int .i64 k ∧ ∀ j, j < k → pr (ge xs j) = false) (fun _ i => xs.length - (intOf i).toNat)
  case atStart => exact ⟨0, Nat.zero_le _, rfl, fun j hj => by omega⟩
  case round =>
    obtain ⟨k, hk, rfl, hall⟩ := hrel
    have Hall := Lib.hid hall
    clear hall
    by_cases hlt : k < xs.length
    · obtain ⟨rfl, hb⟩ := h3 (by omega)
      have hc := h4 k hlt
      clear h3 h4
      cases he : pr (ge xs k)
      · have He := Lib.hid he
        go_wp2_with ((go_at_call 46; apply Calls.mono; (with_reducible exact Hcl.out _); rintro e w' ⟨rfl, rfl⟩))
        go_round
        case rel => exact ⟨k + 1, by omega, by go_num, fun j hj => by
          by_cases h : j = k
          · rw [h]; exact He.out
          · exact Hall.out j (by omega)⟩
        case measure => simp [intOf]; omega
      · have Hf := Lib.hid (idxF_first k hlt Hall.out he)
        go_wp2_with ((go_at_call 46; apply Calls.mono; (with_reducible exact Hcl.out _); rintro e w' ⟨rfl, rfl⟩))
        go_ret
        exact ⟨ret_int Hf.out.symm, rfl⟩
    · have Hf := Lib.hid (idxF_none (pr := pr) (xs := xs) (fun i hi => Hall.out i (by omega)))
      go_wp2
      go_ret
      exact ⟨ret_int Hf.out.symm, rfl⟩

set_option maxHeartbeats 1000000 in
theorem contains_pri (p : Option Addr) (n cap : Nat) (xs : List Int)  (pr : Int → Bool) (w : World) (hI : Ints w p xs) (hn : xs.length = n)
    (hcl : ∀ c : Int, Calls Try.prog 46 #[.int .i64 c] w fun e w' => e = .returned (.bool (pr c)) ∧ w = w') :
    Calls Try.prog 45 #[.slice p n cap, .func (.func 46) #[] #[]] w fun e w' => e = .returned (.bool (xs.any pr)) ∧ w = w' := by
  have Hcl := Lib.hid hcl
  clear hcl
  go_enter Try.func45, Try.ntmps45
  go_wp2_with ((go_at_call 59; apply Calls.mono; (with_reducible exact index_pri _ _ _ _  pr _ hI hn Hcl.out); rintro e w' ⟨rfl, rfl⟩))
  go_ret
  refine ⟨ret_bool ?_, rfl⟩
  rw [Bool.eq_iff_iff]
  simp [idxF_any]


def badP (c : Int) : Bool := decide (c < 0 ∨ 1000000 < c)
set_option maxHeartbeats 1000000 in
theorem priced1_p (c : Int) (w : World) : Calls Try.prog 46 #[.int .i64 c] w fun e w' => e = .returned (.bool (badP c)) ∧ w = w' := by
  by_cases h0 : c < 0
  · have H : Hid (badP c = true) := Lib.hid (decide_eq_true (Or.inl h0))
    go_enter Try.func46, Try.ntmps46
    go_wp2
    go_ret
    exact ⟨ret_bool H.out.symm, rfl⟩
  · have H : Hid (badP c = decide (1000000 < c)) := Lib.hid (by unfold badP; simp [h0])
    go_enter Try.func46, Try.ntmps46
    go_wp2
    go_ret
    exact ⟨ret_bool H.out.symm, rfl⟩
end Go.Proofs.Ytdenjldadlgniaa
