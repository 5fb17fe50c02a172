/- The state of the branch and bound in memory. -/
import Derived.Test.YtnodgagmnekliaaBoundP3
import Derived.Test.YtnodgagmnekliaaSep
set_option linter.unusedSimpArgs false
set_option linter.unusedVariables false
namespace Go.Proofs.Ytnodgagmnekliaa
open Go.RowKit

/-- Block S holds the search: the matrix, the order, the best order so far and its cost. -/
def SOK (w : World) (S : Nat) (ms : Value) (n : Nat) (ord : List Int) (st : Option (List Nat × Int)) : Prop :=
  ∃ vo vb least, w.heap[S]? = some (.cells #[ms, vo, vb, .int .i64 least] 41 (0, 0)) ∧ Own w (S + 1) vo ord ∧ (∀ g, vo.ownBlock = some g → vb.ownBlock ≠ some g) ∧
    ((st = none ∧ vb = .slice none 0 0 ∧ least = 0) ∨ ∃ o c, st = some (o, c) ∧ 0 ≤ c ∧ c ≤ 64000000 ∧ Own w (S + 1) vb (intL o) ∧ (vb ≠ .slice none 0 0 ∨ n = 0) ∧ least = c)

theorem cell_of_heap {w : World} {S : Nat} {cs : Array Value} {t : TypeId} (h : w.heap[S]? = some (.cells cs t (0, 0))) (i : Nat) : w.cell? ⟨S, i, none⟩ = cs[i]? := by
  simp [World.cell?, h]
theorem free_of_heap {w : World} {S : Nat} {cs : Array Value} {t : TypeId} (h : w.heap[S]? = some (.cells cs t (0, 0))) (i : Nat) : w.frozen? ⟨S, i, none⟩ = false := by
  simp [World.frozen?, h]
theorem lt_of_heap {w : World} {S : Nat} {o : Obj} (h : w.heap[S]? = some o) : S < w.heap.size := by
  rcases Nat.lt_or_ge S w.heap.size with h' | h'
  · exact h'
  · rw [Array.getElem?_eq_none h'] at h; cases h
theorem heap_setCell_same {w : World} {S : Nat} {cs : Array Value} {t : TypeId} (h : w.heap[S]? = some (.cells cs t (0, 0))) (i : Nat) (v : Value) :
    (w.setCell ⟨S, i, none⟩ v).heap[S]? = some (.cells (cs.setIfInBounds i v) t (0, 0)) := by
  simp only [World.setCell, Array.getElem?_modify, h]
  simp

theorem Own.lt {w : World} {B : Nat} {v : Value} {xs : List Int} (h : Own w B v xs) : ∀ g, v.ownBlock = some g → B ≤ g ∧ g < w.heap.size := World.ownsRow.lt h
/-- What is owned stays owned while another block is written. -/
theorem Own.far {w w' : World} {B : Nat} {v : Value} {xs : List Int} {row : Option Nat} (h : Own w B v xs) (hg : w.grownBy w' row) (hne : v.ownBlock = none ∨ v.ownBlock ≠ row) : Own w' B v xs := World.ownsRow.kept h hg hne
theorem Own.setCell {w : World} {B S i : Nat} {v u : Value} {xs : List Int} (h : Own w B v xs) (hS : S < B) : Own (w.setCell ⟨S, i, none⟩ u) B v xs := ownsRow_setCell_below h hS u
theorem Own.drew {w : World} {B : Nat} {v : Value} {xs : List Int} (h : Own w B v xs) : Own w.drew B v xs := h
theorem Own.base {w : World} {B B' : Nat} {v : Value} {xs : List Int} (h : Own w B v xs) (hB : B' ≤ B) : Own w B' v xs := by
  obtain ⟨h1, h2⟩ := h
  exact ⟨h1, h2.imp id fun ⟨g, cap, cur, e1, e2, e3⟩ => ⟨g, cap, cur, e1, Nat.le_trans hB e2, e3⟩⟩
/-- The slice value behind an owned list of at least one element; cut at its end it owns one element fewer. -/
theorem Own.cut {w : World} {B : Nat} {v : Value} {xs : List Int} {y : Int} (h : Own w B v (xs ++ [y])) :
    ∃ g cap, v = .slice (some ⟨g, 0, none⟩) (xs.length + 1) cap ∧ xs.length + 1 ≤ cap ∧ cap ≤ 9223372036854775807 ∧ Own w B (.slice (some ⟨g, 0, none⟩) xs.length cap) xs := by
  obtain ⟨h1, h2⟩ := h
  rcases h2 with ⟨_, h3⟩ | ⟨g, cap, cur, hv, hb, hh, hle, hm, hs, ht⟩
  · simp at h3
  · simp only [List.length_append, List.length_cons, List.length_nil, Nat.zero_add] at hv hle ht
    refine ⟨g, cap, hv, hle, by simp only [maxLen] at hm; omega, ?_, Or.inr ⟨g, cap, cur, rfl, hb, hh, by omega, hm, hs, ?_⟩⟩
    · simp
    · have := congrArg (List.take xs.length) ht
      rw [List.take_take, Nat.min_eq_left (by omega), List.map_append, List.take_left' (by simp)] at this
      simpa using this

theorem Own.wf {xs : List Int} {n : Nat} (hn : n ≤ 8) (h : ∀ x ∈ xs, 0 ≤ x ∧ x < (n : Int)) : ∀ x ∈ xs, -9223372036854775808 ≤ x ∧ x ≤ 9223372036854775807 := fun x hx => by
  have := h x hx
  omega

/-- A world in which the search's block alone was written at the end, the old memory below it being kept. -/
theorem Grew.setAt {w0 w : World} {i : Nat} {u : Value} (h : Grew w0 w) : Grew w0 (w.setCell ⟨w0.heap.size, i, none⟩ u) := h.setCell (Nat.le_refl _) u
theorem Grew.grown {w0 w w' : World} {row : Option Nat} (h : Grew w0 w) (hg : w.grownBy w' row) (hr : ∀ k, row = some k → w0.heap.size ≤ k) : Grew w0 w' :=
  .of_below (h.below.grown hg h.below.size hr)

end Go.Proofs.Ytnodgagmnekliaa
