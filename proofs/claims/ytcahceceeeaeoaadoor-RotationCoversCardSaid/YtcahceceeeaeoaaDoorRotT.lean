/- slices.Clone and slices.Delete at the list of edges. -/
import Derived.Test.YtcahceceeeaeoaaDoorRotS
import Derived.Lib.SliceRun
import Derived.Deep.RegionLaw
set_option linter.unusedSimpArgs false
set_option linter.unusedVariables false
namespace Go.Proofs.YtcahceceeeaeoaaDoor
open Go.RowKit
attribute [local go_sem ↓] Go.wp_at_zero Go.wp_at_succ

/-- The cells of a list of pairs. -/
def prVs (E : List (Int × Int)) : List Value := E.flatMap fun a => [.int .i64 a.1, .int .i64 a.2]
theorem prVs_app (a b : List (Int × Int)) : prVs (a ++ b) = prVs a ++ prVs b := by simp [prVs]
theorem prVs_len (E : List (Int × Int)) : (prVs E).length = E.length * 2 := by
  induction E with
  | nil => rfl
  | cons a E ih => simp only [prVs, List.flatMap_cons, List.length_append] at ih ⊢; simp [ih]; omega
theorem prVs_one (E : List (Int × Int)) : ∀ u ∈ prVs E, u.oneCell' = true := by
  intro u hu
  obtain ⟨a, _, hu⟩ := List.mem_flatMap.1 hu
  simp at hu
  rcases hu with rfl | rfl <;> rfl
theorem prVs_get (E : List (Int × Int)) : ∀ i, i < E.length → (prVs E)[i * 2]? = some (.int .i64 (pr E i).1) ∧ (prVs E)[i * 2 + 1]? = some (.int .i64 (pr E i).2) := by
  induction E with
  | nil => intro i hi; simp at hi
  | cons a E ih =>
    intro i hi
    cases i with
    | zero => exact ⟨rfl, rfl⟩
    | succ i =>
      have := ih i (by simpa using hi)
      have e1 : (i + 1) * 2 = i * 2 + 1 + 1 := by omega
      rw [e1]
      exact this
theorem prVs_take (E : List (Int × Int)) {i : Nat} (hi : i ≤ E.length) : (prVs E).take (i * 2) = prVs (E.take i) := by
  conv => lhs; rw [← List.take_append_drop i E, prVs_app]
  have : i * 2 = (prVs (E.take i)).length := by rw [prVs_len, List.length_take]; omega
  rw [this, List.take_left]
theorem prVs_drop (E : List (Int × Int)) {i : Nat} (hi : i ≤ E.length) : (prVs E).drop (i * 2) = prVs (E.drop i) := by
  conv => lhs; rw [← List.take_append_drop i E, prVs_app]
  have : i * 2 = (prVs (E.take i)).length := by rw [prVs_len, List.length_take]; omega
  rw [this, List.drop_left]
/-- The cells of a list of pairs in memory. -/
theorem Prs.news {w : World} {p : Option Addr} {E : List (Int × Int)} (h : Prs w p E) {w' : World} (hg : Grew w w') : ∀ b, p = some b → ∀ j u, (prVs E)[j]? = some u → w'.cell? (b.add j) = some u := by
  intro b hb j u hu
  have hj := (List.getElem?_eq_some_iff.1 hu).1
  rw [prVs_len] at hj
  obtain ⟨_, b', o, h3, h4⟩ := h.grew hg
  obtain ⟨e, _⟩ := h3 (by omega)
  rw [e] at hb
  cases hb
  obtain ⟨i, hi⟩ : ∃ i, j = i * 2 ∨ j = i * 2 + 1 := ⟨j / 2, by omega⟩
  obtain ⟨g1, g2⟩ := prVs_get E i (by omega)
  obtain ⟨c1, c2⟩ := h4 i (by omega)
  rw [Addr.add_lit]
  rcases hi with rfl | rfl
  · rw [g1] at hu
    cases hu
    exact c1
  · rw [g2] at hu
    cases hu
    exact c2
/-- A row of pairs, read. -/
theorem prs_of_owns {w : World} {B : Nat} {rs : List Row} {k : Nat} {v : Value} {e : TypeId} {n : Nat} {E : List (Int × Int)} (h : Owns w B rs) (hk : rs[k]? = some ⟨v, e, 2, n, prVs E⟩) : ∃ q cap, v = .slice q n cap ∧ E.length = n ∧ Prs w q E := by
  obtain ⟨h1, h2⟩ := h.get hk
  rw [prVs_len] at h1
  have hn : E.length = n := by omega
  rcases h2 with ⟨rfl, rfl⟩ | ⟨g, cap, rfl, hB, hg, hle, hmx, _, hc⟩
  · exact ⟨none, 0, rfl, hn, by omega, 0, 0, fun h => by omega, fun i hi => by omega⟩
  · refine ⟨some ⟨g, 0, none⟩, cap, rfl, hn, by simp only [maxLen] at hmx; omega, g, 0, fun _ => ⟨rfl, hg⟩, fun i hi => ?_⟩
    obtain ⟨g1, g2⟩ := prVs_get E i hi
    rw [Nat.zero_add]
    exact ⟨hc _ _ g1, hc _ _ g2⟩

theorem Tryd.infoArc : (Tryd.prog.info? 41).map (fun i => (i.zero, i.size, i.bytes)) = some (some (.agg #[.int .i64 0, .int .i64 0]), 2, 16) := by kernel_rfl

set_option maxHeartbeats 1000000 in
theorem clone_p (p : Option Addr) (n cap : Nat) (E : List (Int × Int)) (w : World) (hE : Prs w p E) (he : E.length ≤ 100) (hn : E.length = n) (h0 : 0 < n) :
    Calls Tryd.prog 37 #[.slice p n cap] w fun e w' => Grew w w' ∧ ∃ q c, e = .returned (.slice (some ⟨q, 0, none⟩) n c) ∧ Owns w' w.heap.size [⟨.slice (some ⟨q, 0, none⟩) n c, 41, 2, n, prVs E⟩] := by
  subst hn
  obtain ⟨b, o, rfl, hb, _⟩ := hE.cells h0
  have HE := Lib.hid hE
  clear hE
  have heq := fun W => Lib.run_eql_slice_nil (P := Tryd.prog) W 22 41 (some ⟨b, o, none⟩) E.length cap 0 0 Tryd.underlying22
  go_enter Tryd.func37, Tryd.ntmps37
  go_wp2_with (at_builtin; refine wp_append_owns rfl _ _ 22 rfl 41 2 16 (.agg #[.int .i64 0, .int .i64 0]) Tryd.underlying22 Tryd.infoArc rfl (by decide) w.heap.size _ 0 _ _ _ ((Owns.nil w w.heap.size).made (Nat.le_refl _) #[] 41 2 0 w.heap.size rfl (by decide) rfl) rfl rfl _ E.length cap rfl (prVs E) (prVs_len E) (fun h => by cases h) (HE.out.news (by (repeat (first | exact Grew.refl _ | refine Grew.over ?_ _ | refine Grew.alloc ?_ _ | refine Grew.drew ?_ | refine Grew.drewN ?_ _)))) (prVs_one E) (by simp only [maxLen]; omega) (by omega) (by first | rfl | omega | (simp <;> omega)) ?_; intro v1 w1 hO1 hg1 hb1 hv1; have Hg1 := Lib.hid (Grew.grownBy (w0 := w) (by (repeat (first | exact Grew.refl _ | refine Grew.over ?_ _ | refine Grew.alloc ?_ _ | refine Grew.drew ?_ | refine Grew.drewN ?_ _))) hg1 (fun g h => hb1 g h)); have HO1 := Lib.hid hO1; clear hO1 hg1 hb1 hv1)
  go_ret
  have h := HO1.out
  simp only [List.set_cons_zero, Nat.zero_add, List.nil_append] at h
  obtain ⟨g, c, rfl, _⟩ := h.some (k := 0) rfl h0
  exact ⟨Hg1.out, g, c, rfl, h⟩

/-! ### What is written into a block -/
theorem heap_setCells {g : Nat} {e : TypeId} : ∀ (vs : List Value) (o : Nat) (w : World) (cur : Array Value), w.heap[g]? = some (.cells cur e (0, 0)) → o + vs.length ≤ cur.size →
    (w.setCells g o vs).heap[g]? = some (.cells (cur.toList.take o ++ vs ++ cur.toList.drop (o + vs.length)).toArray e (0, 0))
  | [], o, w, cur, h, _ => by simp [World.setCells, h]
  | v :: r, o, w, cur, h, hl => by
    simp only [List.length_cons] at hl
    have h1 := heap_setCell_same w g o cur e v h
    have h2 := heap_setCells r (o + 1) _ _ h1 (by simp; omega)
    show ((w.setCell ⟨g, o, none⟩ v).setCells g (o + 1) r).heap[g]? = _
    rw [h2]
    congr 3
    have ho : o < cur.toList.length := by simp; omega
    rw [Array.toList_setIfInBounds, List.take_succ_eq_append_getElem (by simpa using ho), List.getElem_set_self, List.take_set_of_le (Nat.le_refl _), List.drop_set_of_lt (by omega)]
    rw [List.length_cons, show o + 1 + r.length = o + (r.length + 1) by omega]
    simp
theorem setCells_grownBy {g : Nat} : ∀ (vs : List Value) (o : Nat) (w : World), w.grownBy (w.setCells g o vs) (some g)
  | [], _, w => ⟨rfl, rfl, rfl, Nat.le_refl _, fun _ _ _ => rfl⟩
  | v :: r, o, w => by
    have h := setCells_grownBy (g := g) r (o + 1) (w.setCell ⟨g, o, none⟩ v)
    have hs : (w.setCell ⟨g, o, none⟩ v).heap.size = w.heap.size := by simp [World.setCell]
    refine ⟨h.os, h.tape, h.output, by rw [← hs]; exact h.size, fun k hk hne => (h.block k (by rw [hs]; exact hk) hne).trans ?_⟩
    exact heap_setCell_other w ⟨g, o, none⟩ k v (fun e => hne (by rw [e]))

end Go.Proofs.YtcahceceeeaeoaaDoor
