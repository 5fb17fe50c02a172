/- slices.Clone and slices.Compact at points. -/
import Derived.Test.YtmljfjcebfonaaaPolQ
set_option linter.unusedSimpArgs false
set_option linter.unusedVariables false
namespace Go.Proofs.Ytmljfjcebfonaaa
open Go.RowKit
attribute [local go_sem ↓] Go.wp_at_zero Go.wp_at_succ

/-! ### What is written into a block -/
theorem heap_setCells {g : Nat} {e : TypeId} : ∀ (vs : List Value) (o : Nat) (w : World) (cur : Array Value), w.heap[g]? = some (.cells cur e (0, 0)) → o + vs.length ≤ cur.size →
    (w.setCells g o vs).heap[g]? = some (.cells (cur.toList.take o ++ vs ++ cur.toList.drop (o + vs.length)).toArray e (0, 0))
  | [], o, w, cur, h, _ => by simp [World.setCells, h]
  | v :: r, o, w, cur, h, hl => by
    simp only [List.length_cons] at hl
    have h1 := heap_setCell_same w g o cur e v h
    have h2 := heap_setCells r (o + 1) _ _ h1 (by simp; omega)
    show ((w.setCell ⟨g, o, none⟩ v).setCells g (o + 1) r).heap[g]? = _
    rw [h2]
    congr 3
    have ho : o < cur.toList.length := by simp; omega
    rw [Array.toList_setIfInBounds, List.take_succ_eq_append_getElem (by simpa using ho), List.getElem_set_self, List.take_set_of_le (Nat.le_refl _), List.drop_set_of_lt (by omega)]
    rw [List.length_cons, show o + 1 + r.length = o + (r.length + 1) by omega]
    simp
theorem setCells_grownBy {g : Nat} : ∀ (vs : List Value) (o : Nat) (w : World), w.grownBy (w.setCells g o vs) (some g)
  | [], _, w => ⟨rfl, rfl, rfl, Nat.le_refl _, fun _ _ _ => rfl⟩
  | v :: r, o, w => by
    have h := setCells_grownBy (g := g) r (o + 1) (w.setCell ⟨g, o, none⟩ v)
    have hs : (w.setCell ⟨g, o, none⟩ v).heap.size = w.heap.size := by simp [World.setCell]
    refine ⟨h.os, h.tape, h.output, by rw [← hs]; exact h.size, fun k hk hne => (h.block k (by rw [hs]; exact hk) hne).trans ?_⟩
    exact heap_setCell_other w ⟨g, o, none⟩ k v (fun e => hne (by rw [e]))

theorem Gr.stay {ex : Nat → Prop} {w0 w w' : World} (hg : Gr ex w w') (h : Grew w0 w) (hx : ∀ k, ex k → w0.heap.size ≤ k) : Grew w0 w' :=
  (((Gr.of_grew ex h).trans hg).mono (fun k hk e => absurd (hx k e) (by omega))).grew

/-! ### Clone -/
set_option maxHeartbeats 1000000 in
theorem clone_pt (p : Option Addr) (n cap : Nat) (E : List (Int × Int)) (w : World) (hE : Prs w p E) (he : E.length ≤ 512) (hn : E.length = n) (h0 : 0 < n) :
    Calls Try.prog 35 #[.slice p n cap] w fun e w' => Grew w w' ∧ ∃ q c, e = .returned (.slice (some ⟨q, 0, none⟩) n c) ∧ Owns w' w.heap.size [ptRow (.slice (some ⟨q, 0, none⟩) n c) E] := by
  subst hn
  obtain ⟨b, o, rfl, hb, _⟩ := hE.cells h0
  have HE := Lib.hid hE
  clear hE
  have heq := fun W => Lib.run_eql_slice_nil (P := Try.prog) W 22 32 (some ⟨b, o, none⟩) E.length cap 0 0 Try.underlying22
  go_enter Try.func35, Try.ntmps35
  go_wp2_with (at_builtin; refine wp_append_owns rfl _ _ 22 rfl 32 2 16 (.agg #[.int .i64 0, .int .i64 0]) Try.underlying22 Try.infoPt rfl (by decide) w.heap.size _ 0 _ _ _ ((Owns.nil w w.heap.size).made (Nat.le_refl _) #[] 32 2 0 w.heap.size rfl (by decide) rfl) rfl rfl _ E.length cap rfl (prVs E) (prVs_len E) (fun h => by cases h) (HE.out.news (by (repeat (first | exact Grew.refl _ | refine Grew.over ?_ _ | refine Grew.alloc ?_ _ | refine Grew.drew ?_ | refine Grew.drewN ?_ _)))) (prVs_one E) (by simp only [maxLen]; omega) (by omega) (by first | rfl | omega | (simp <;> omega)) ?_; intro v1 w1 hO1 hg1 hb1 hv1; have Hg1 := Lib.hid (Grew.grownBy (w0 := w) (by (repeat (first | exact Grew.refl _ | refine Grew.over ?_ _ | refine Grew.alloc ?_ _ | refine Grew.drew ?_ | refine Grew.drewN ?_ _))) hg1 (fun g h => hb1 g h)); have HO1 := Lib.hid hO1; clear hO1 hg1 hb1 hv1)
  go_ret
  have h := HO1.out
  simp only [List.set_cons_zero, Nat.zero_add, List.nil_append] at h
  obtain ⟨g, c, rfl, _⟩ := h.some (k := 0) rfl h0
  exact ⟨Hg1.out, g, c, rfl, h⟩

/-! ### Compact -/
theorem zeros_pt (r : Nat) : (Builtin.zeroCells (Value.agg #[.int .i64 0, .int .i64 0]).cells r).toList = List.replicate (r * 2) (.int .i64 0) := by
  have e : (Value.agg #[.int .i64 0, .int .i64 0]).cells = #[.int .i64 0, .int .i64 0] := by kernel_rfl
  rw [e]
  unfold Builtin.zeroCells
  apply List.ext_getElem
  · simp
  · intro i h1 h2
    simp only [List.size_toArray, List.length_cons, List.length_nil, Array.toList_map, List.getElem_map, List.getElem_replicate]
    have : ∀ j, j % 2 = 0 ∨ j % 2 = 1 := fun j => by omega
    generalize hx : (Array.range (r * (0 + 1 + 1))).toList[i]'(by simpa using h1) = x
    rcases this x with h | h <;> simp [h]

theorem run_clear_pts (w : World) (ty : TypeId) (b o n c : Nat) (hn : 0 < n) (hc : ∀ j, j < n * 2 → (w.cell? ⟨b, o + j, none⟩).isSome = true) (hf : ∀ j, j < n * 2 → w.frozen? ⟨b, o + j, none⟩ = false) :
    (Builtin.clear_ #[22] ty #[.slice (some ⟨b, o, none⟩) n c]).run Try.prog w = .ok (.tuple #[]) (w.setCells b o (List.replicate (n * 2) (.int .i64 0))) := by
  have hz : ∀ w, (zeroValue 32).run Try.prog w = .ok (.agg #[.int .i64 0, .int .i64 0]) w := by
    intro w
    obtain ⟨i0, hi, hz0, hz1, hz2⟩ := info_parts Try.infoPt
    simp [zeroValue, typeInfo, hi, hz0]
  have hst := run_storeCells_cells (P := Try.prog) b o (List.replicate (n * 2) (.int .i64 0)) 0 w (by simpa using hc) (by simpa using hf) (by intro v hv; rw [List.eq_of_mem_replicate hv]; rfl)
  simp only [Nat.add_zero] at hst
  obtain ⟨m, rfl⟩ : ∃ m, n = m + 1 := ⟨n - 1, by omega⟩
  simp [Builtin.clear_, run_underlying Try.underlying22, hz, zeros_pt, hst]

/-- The tail of a row, cleared. -/
theorem clear_tail {w : World} {B g cap m : Nat} {M : List (Int × Int)} (hO : Owns w B [ptRow (.slice (some ⟨g, 0, none⟩) M.length cap) M]) (hm : m < M.length) :
    ∃ W, (∀ ty, (Builtin.clear_ #[22] ty #[.slice (some ⟨g, m * 2, none⟩) (M.length - m) (cap - m)]).run Try.prog w = .ok (.tuple #[]) W) ∧ Gr (fun k => k = g) w W ∧
      Owns W B [ptRow (.slice (some ⟨g, 0, none⟩) m cap) (M.take m)] := by
  obtain ⟨r1, r2⟩ := hO.1 0 _ rfl
  rcases r2 with ⟨h2, _⟩ | ⟨g', cap', cur, hv', hb, hh, hle, hmx, hsz, htk⟩
  · cases h2
  cases hv'
  dsimp only at hle htk hh hsz
  have hl : (List.replicate ((M.length - m) * 2) (Value.int .i64 0)).length = (M.length - m) * 2 := List.length_replicate
  have k1 := heap_setCells (List.replicate ((M.length - m) * 2) (Value.int .i64 0)) (m * 2) w cur hh (by rw [hl, hsz]; omega)
  have g1 := setCells_grownBy (g := g) (List.replicate ((M.length - m) * 2) (Value.int .i64 0)) (m * 2) w
  refine ⟨_, fun ty => run_clear_pts w ty g (m * 2) (M.length - m) (cap - m) (by omega) (fun j hj => ?_) (fun j hj => frozen_of_row w g _ cur _ hh), (Gr.of_grownBy g1).mono (fun k _ e => by cases e; rfl), ?_⟩
  · rw [cell_of_row w g _ cur _ (0, 0) hh]
    have : m * 2 + j < cur.size := by rw [hsz]; omega
    rw [Array.getElem?_eq_getElem this]
    rfl
  · refine Owns.cons (Owns.nil _ _) ⟨prVs_len _, Or.inr ⟨g, cap, _, ?_, hb, k1, ?_, hmx, ?_, ?_⟩⟩ (fun k x h => by simp at h)
    · show Value.slice _ m cap = Value.slice _ (M.take m).length cap
      rw [List.length_take, Nat.min_eq_left (by omega)]
    · show (M.take m).length ≤ cap
      rw [List.length_take]
      omega
    · simp only [List.size_toArray, List.length_append, List.length_take, List.length_drop, Array.length_toList, hsz, hl]
      omega
    · show List.take ((M.take m).length * 2) _ = prVs (M.take m)
      rw [List.length_take, Nat.min_eq_left (by omega), ← prVs_take M (by omega), ← htk, List.take_take, Nat.min_eq_left (by omega), List.append_assoc]
      have e2 : (cur.toList.take (m * 2)).length = m * 2 := by rw [List.length_take, Array.length_toList, hsz]; omega
      conv => lhs; rw [← e2]
      rw [e2]
      exact List.take_left' e2

theorem prVs_set (E : List (Int × Int)) : ∀ (i : Nat) (x y : Int), ((prVs E).set (i * 2) (.int .i64 x)).set (i * 2 + 1) (.int .i64 y) = prVs (E.set i (x, y)) := by
  induction E with
  | nil => intro i x y; simp [prVs]
  | cons a E ih =>
    intro i x y
    cases i with
    | zero => simp [prVs]
    | succ i =>
      have := ih i x y
      rw [show (i + 1) * 2 = i * 2 + 1 + 1 by omega]
      simp only [prVs, List.flatMap_cons, List.set_cons_succ, List.cons_append, List.nil_append] at this ⊢
      rw [this]

end Go.Proofs.Ytmljfjcebfonaaa
