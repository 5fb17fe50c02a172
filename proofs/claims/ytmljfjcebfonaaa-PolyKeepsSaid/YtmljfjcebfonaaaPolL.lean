/- Orthogonal of the program. -/
import Derived.Test.YtmljfjcebfonaaaPolK
set_option linter.unusedSimpArgs false
set_option linter.unusedVariables false
namespace Go.Proofs.Ytmljfjcebfonaaa
open Go.RowKit Go.Shelf
attribute [local go_sem] Oper.semAt_some

theorem orthF_sg {E : List (Int × Int)} (hv : vPB E = true) : orthF E = (sgK E (E.length - 1)).all fun x => hvB x.1 x.2 := by
  unfold orthF sgK
  rw [hv, Bool.true_and, List.all_map]
  rfl

set_option maxRecDepth 100000 in
set_option maxHeartbeats 4000000 in
theorem orth_l (p : Option Addr) (n c : Nat) (E : List (Int × Int)) (w : World) (hP : Prs w p E) (hn : E.length = n) :
    Calls Try.prog 17 #[.slice p n c] w fun e w' => e = .returned (.bool (orthF E)) ∧ Grew w w' := by
  subst hn
  have HP := Lib.hid hP
  cases hv : vPB E
  case false =>
    have Hv := Lib.hid hv
    have Hf : Hid (orthF E = false) := Lib.hid (by unfold orthF; rw [hv]; rfl)
    clear hP hv
    go_enter Try.func17, Try.ntmps17
    go_wp2_with (go_at_call 9; apply Calls.mono; (with_reducible exact valid_pe Hv.out (HP.out.grew (by (repeat (first | exact Grew.refl _ | refine Grew.over ?_ _ | refine Grew.alloc ?_ _ | refine Grew.drew ?_ | refine Grew.drewN ?_ _)))) rfl); rintro e w' ⟨rfl, x, rfl⟩)
    refine bodyPost_ret (v := .bool false) (by simp [results, Try.results17, go_sem, ↓IntWalk.iteOmega]) rfl ⟨by rw [Hf.out], by (repeat (first | exact Grew.refl _ | refine Grew.over ?_ _ | refine Grew.alloc ?_ _ | refine Grew.drew ?_ | refine Grew.drewN ?_ _))⟩
  have Hv := Lib.hid hv
  have hV := vPB_iff.1 hv
  have Hf := Lib.hid (orthF_sg hv)
  clear hP hv
  refine (callsIn_wide (n := 10)).1 ?_
  refine callsIn_of_wp_marks Try.func17 rfl trivial ?_ rfl
  simp only [Try.ntmps17, List.size_toArray, List.length_cons, List.length_nil, Nat.reduceAdd, Nat.reduceSub, Array.replicate_succ, Array.replicate_zero, List.push_toArray, List.append_toArray, List.nil_append, List.cons_append]
  gi_wp2_with (first
    | (refine ⟨trivial, ?_⟩; gi_at_call 9; refine (callsIn_wide.2 (valid_pe Hv.out (HP.out.grew (by (repeat (first | exact Grew.refl _ | refine Grew.over ?_ _ | refine Grew.alloc ?_ _ | refine Grew.drew ?_ | refine Grew.drewN ?_ _)))) rfl)).mono ?_; rintro e w1 ⟨rfl, hg1⟩; have Hg1 := Lib.hid hg1; clear hg1)
    | (gi_at_call 9; refine (callsIn_wide.2 (valid_pe Hv.out (HP.out.grew (by (repeat (first | exact Grew.refl _ | refine Grew.over ?_ _ | refine Grew.alloc ?_ _ | refine Grew.drew ?_ | refine Grew.drewN ?_ _)))) rfl)).mono ?_; rintro e w1 ⟨rfl, hg1⟩; have Hg1 := Lib.hid hg1; clear hg1))
  refine ⟨trivial, ?_⟩
  refine (segs_in Fence.wide _ trivial rfl p E.length c _).mono ?_
  rintro e w' ⟨rfl, rfl⟩
  gi_wp2
  have hB1 : Below w.heap.size w w1 := ((Below.refl _ w).alloc (Nat.le_refl _) (.cells #[.bool false] 4)).trans (Hg1.out.below.mono (by simp))
  have hs1 : w.heap.size + 1 ≤ w1.heap.size := by have := Hg1.out.below.size; simpa using this
  have bR := (boxed_grew (Boxed.new w 4 (.bool false)) Hg1.out).alloc (.cells #[.slice p E.length c] 22)
  have bA := Boxed.new w1 22 (.slice p E.length c)
  have hB0 : Below w.heap.size w (w1.alloc (.cells #[.slice p E.length c] 22)) := hB1.alloc hB1.size _
  have hsz : (w1.alloc (.cells #[.slice p E.length c] 22)).heap.size = w1.heap.size + 1 := by simp
  obtain ⟨W0, hW0⟩ : ∃ W0, w1.alloc (.cells #[.slice p E.length c] 22) = W0 := ⟨_, rfl⟩
  rw [hW0] at bR bA hB0 hsz ⊢
  clear hW0
  refine wpIn_rangeFunc_ownH (F := Fence.wide) rfl (by decide) (gf := 42) (lb := #[.pointer (some ⟨w1.heap.size, 0, none⟩)]) rfl trivial (enters_of Try.func42 (by kernel_rfl) rfl)
    (segs_stops 9 (by decide) w1.heap.size w.heap.size c p E hV W0 w HP.out (Nat.le_refl _) hB0 (by omega) (by omega) bA.cell) KpS.trans (kpS_b (by omega) (by omega)) (Below.refl _ _) (fun _ => rfl)
    (fun pre W => ((Boxed W w.heap.size 4 (.bool false) ∧ Boxed W w1.heap.size 22 (.slice p E.length c)) ∧ (∀ x ∈ pre, hvB x.1 x.2 = true)) ∧ Below w.heap.size w W)
    (fun c pre W => (Boxed W w.heap.size 4 (.bool false) ∧ (c = .ret ∧ ∃ x ∈ pre, hvB x.1 x.2 = false)) ∧ Below w.heap.size w W)
    (OwnFrom.and (OwnFrom.and (OwnFrom.and (Own.from (boxed_own _ _ _) _) (Own.from (boxed_own _ _ _) _)) (fun _ _ _ _ hs _ _ => hs)) (ownFrom_below (Nat.le_refl _) (by omega)))
    (fun c => OwnFrom.and (OwnFrom.and (Own.from (boxed_own _ _ _) _) (fun _ _ _ _ hs _ _ => hs)) (ownFrom_below (Nat.le_refl _) (by omega)))
    ⟨⟨⟨bR, bA⟩, fun x hx => (by cases hx)⟩, hB0⟩
    (fun x a' W => ∃ Bx, w1.heap.size < Bx ∧ BoxedS W Bx x ∧ a' = { tmps := #[.slice p E.length c, undef, .pointer (some ⟨w.heap.size, 0, none⟩), .pointer (some ⟨Bx, 0, none⟩), .slice p E.length c, .bool true, .bool false, .slice p E.length c, .func (.func 42) #[] #[.pointer (some ⟨w1.heap.size, 0, none⟩)], sgW x, undef, undef, undef, undef, undef, undef, undef, undef, undef, undef, undef, undef, undef, undef, undef, undef], defers := [] })
    (fun x a' _ X Y row hs hg hr => by obtain ⟨Bx, h1, h2, h3⟩ := hs; exact ⟨Bx, h1, boxedS_own (β := Unit) Bx x () X Y row h2 hg (fun r e => (hr r e).2), h3⟩)
    ?assign ?body ?done ?stop
  case assign =>
    rintro l pre x W K ⟨⟨⟨bR1, bA1⟩, hp⟩, hB1⟩ hK
    have hlt := bA1.lt
    gi_wp2
    exact hK _ _ ((KeepsOthers.alloc _ _).from _) (kpS_of ((Below.refl _ W).alloc hB1.size _) bA1 (bA1.alloc _)) ⟨⟨⟨bR1.alloc _, bA1.alloc _⟩, hp⟩, hB1.alloc hB1.size _⟩ ⟨W.heap.size, hlt, BoxedS.new W x, rfl⟩
  case body =>
    rintro l pre x a' W hl ⟨r, hr⟩ ⟨⟨⟨bR1, bA1⟩, hp⟩, hB1⟩ ⟨Bx, hBx, bX, rfl⟩ hlt
    have cR := bR1.cell
    have fR := bR1.frozen
    obtain ⟨x1, x2, x3, x4⟩ := bX.cells
    have hh : hvB x.1 x.2 = (decide (x.1.1 = x.2.1) || decide (x.1.2 = x.2.2)) := rfl
    by_cases h1 : x.1.1 = x.2.1
    · have h1' : (x.1.1 != x.2.1) = false := by rw [h1]; simp
      have hx : hvB x.1 x.2 = true := by rw [hh]; simp [h1]
      clear h1 hh
      gi_wp2
      exact ⟨KeepsFrom.refl _ _, KpS.refl _ _ _, ⟨⟨bR1, bA1⟩, fun y hy => (List.mem_append.1 hy).elim (hp y) (fun e => by rw [List.mem_singleton.1 e]; exact hx)⟩, hB1⟩
    · have h1' : (x.1.1 != x.2.1) = true := by rw [bne_iff_ne]; exact h1
      by_cases h2 : x.1.2 = x.2.2
      · have h2' : (x.1.2 != x.2.2) = false := by rw [h2]; simp
        have hx : hvB x.1 x.2 = true := by rw [hh]; simp [h2]
        clear h1 h2 hh
        gi_wp2
        exact ⟨KeepsFrom.refl _ _, KpS.refl _ _ _, ⟨⟨bR1, bA1⟩, fun y hy => (List.mem_append.1 hy).elim (hp y) (fun e => by rw [List.mem_singleton.1 e]; exact hx)⟩, hB1⟩
      · have h2' : (x.1.2 != x.2.2) = true := by rw [bne_iff_ne]; exact h2
        have hx : hvB x.1 x.2 = false := by rw [hh]; simp [h1, h2]
        clear h1 h2 hh
        gi_wp2
        exact ⟨(KeepsOthers.setCell _ _ _).from _, ⟨bR1.set _, rfl, x, List.mem_append.2 (Or.inr (by simp)), hx⟩, hB1.setCell (p := ⟨w.heap.size, 0, none⟩) (Nat.le_refl _) _⟩
  case done =>
    rintro D ys W hD rfl ⟨⟨⟨bR1, bA1⟩, hp⟩, hB1⟩ hK
    have cR := bR1.cell
    have fR := bR1.frozen
    gi_wp2
    have hK' := (KeepsOthers.setCell W ⟨w.heap.size, 0, none⟩ (.bool true)).same D _ hK rfl
    refine ⟨by simp, .inl ⟨_, _, rfl, run_takeDeferred hK', ?_⟩⟩
    have hc5 := cell_kept (World.cell?_setCell_same' W ⟨w.heap.size, 0, none⟩ (.bool true) (by rw [cR]; rfl)) (grownBy_putObj' _ D (.deferred none)) (fun r e => by cases e; exact ⟨_, hK', rfl⟩)
    refine ⟨.bool true, ?_, ?_, Grew.of_below ((hB1.setCell (p := ⟨w.heap.size, 0, none⟩) (by simp) _).trans (belowK_b (w := w) (Nat.le_refl _) _ D _ _ (by omega) hK' rfl rfl))⟩
    · simp [results, Try.f17, go_sem, hc5]
    · rw [Hf.out, List.all_eq_true.2 hp]
  case stop =>
    rintro D c pre W hD ⟨k, hk, rfl⟩ ⟨⟨bR1, rfl, hin⟩, hB1⟩ hK
    have cR := bR1.cell
    gi_wp2
    refine ⟨by simp, .inl ⟨_, _, rfl, run_takeDeferred hK, ?_⟩⟩
    have hc5 := cell_kept cR (grownBy_putObj' _ D (.deferred none)) (fun r e => by cases e; exact ⟨_, hK, rfl⟩)
    refine ⟨.bool false, ?_, ?_, Grew.of_below (hB1.trans (belowK_b (w := w) (Nat.le_refl _) W D _ _ (by omega) hK rfl rfl))⟩
    · simp [results, Try.f17, go_sem, hc5]
    · obtain ⟨x, hx, hxf⟩ := hin
      have hx2 : x ∈ sgK E (E.length - 1) := by
        simp only [sgK, List.mem_map, List.mem_range] at hx ⊢
        obtain ⟨j, hj, e⟩ := hx
        exact ⟨j, by omega, e⟩
      have hno : ((sgK E (E.length - 1)).all fun x => hvB x.1 x.2) = false := Bool.eq_false_iff.2 fun h => by
        have := List.all_eq_true.1 h x hx2
        rw [hxf] at this
        cases this
      rw [Hf.out, hno]
theorem orth_pe {p : Option Addr} {n c : Nat} {E : List (Int × Int)} {w : World} {b : Bool} (h : orthF E = b) (hP : Prs w p E) (hn : E.length = n) :
    Calls Try.prog 17 #[.slice p n c] w fun e w' => e = .returned (.bool b) ∧ Grew w w' := h ▸ orth_l p n c E w hP hn
end Go.Proofs.Ytmljfjcebfonaaa
