/- Slices of integers of the call's own: what an append leaves. -/
import Derived.Test.YtnodgagmnekliaaInts
import Derived.Laws.AppendOwnNone
set_option linter.unusedSimpArgs false
set_option linter.unusedVariables false
namespace Go.Proofs.Ytnodgagmnekliaa
open Go.RowKit

theorem Try.infoInt : (Try.prog.info? 3).map (fun i => (i.zero, i.size, i.bytes)) = some (some (.int .i64 0), 1, 8) := by kernel_rfl

/-- The slice value v owns the numbers xs, in a block from B on. -/
def Own (w : World) (B : Nat) (v : Value) (xs : List Int) : Prop := w.ownsRow B 3 1 v xs.length (xs.map (Value.int .i64))

theorem Own.nil (w : World) (B : Nat) : Own w B (.slice none 0 0) [] := World.ownsRow_nil w B _ 1

theorem Own.grew {w w' : World} {B : Nat} {v : Value} {xs : List Int} (h : Own w B v xs) (hg : Grew w w') : Own w' B v xs := by
  obtain ⟨h1, h2⟩ := h
  refine ⟨h1, ?_⟩
  rcases h2 with h2 | ⟨g, cap, cur, hv, hb, hh, r⟩
  · exact Or.inl h2
  · refine Or.inr ⟨g, cap, cur, hv, hb, ?_, r⟩
    have hlt : g < w.heap.size := by
      rcases Nat.lt_or_ge g w.heap.size with h | h
      · exact h
      · rw [Array.getElem?_eq_none h] at hh; cases hh
    rw [hg.below.block g hlt]
    exact hh

theorem Own.empty (w : World) (B b : Nat) (hB : B ≤ w.heap.size) (hb : b = w.heap.size) : Own (w.alloc (.cells #[] 3)) B (.slice (some ⟨b, 0, none⟩) 0 0) [] := by
  subst hb
  refine ⟨by simp, Or.inr ⟨w.heap.size, 0, #[], rfl, hB, ?_, Nat.le_refl _, Nat.zero_le _, rfl, rfl⟩⟩
  rw [heap_alloc_if]
  simp

/-- Read as a slice. -/
theorem Own.ints {w : World} {B : Nat} {v : Value} {xs : List Int} (h : Own w B v xs) (hw : ∀ x ∈ xs, -9223372036854775808 ≤ x ∧ x ≤ 9223372036854775807) :
    ∃ p cap, v = .slice p xs.length cap ∧ xs.length ≤ cap ∧ (p = none → cap = 0) ∧ Ints w p xs := by
  obtain ⟨h1, h2⟩ := h
  rcases h2 with ⟨h2, h3⟩ | ⟨g, cap, cur, hv, hb, hh, hle, hm, hs, ht⟩
  · have : xs = [] := List.length_eq_zero_iff.1 h3
    subst this
    exact ⟨none, 0, h2, Nat.le_refl _, fun _ => rfl, Ints.nil w none⟩
  · refine ⟨some ⟨g, 0, none⟩, cap, hv, hle, (fun h => by cases h), ?_, hw, g, 0, fun _ => ⟨rfl, ?_⟩, fun i hi => ?_⟩
    · simp only [maxLen] at hm; omega
    · rcases Nat.lt_or_ge g w.heap.size with h | h
      · exact h
      · rw [Array.getElem?_eq_none h] at hh; cases hh
    · have e : cur[i]? = some (.int .i64 (ge xs i)) := by
        have := congrArg (fun l : List Value => l[i]?) ht
        simp only [List.getElem?_take, List.getElem?_map, Array.getElem?_toList] at this
        rw [if_pos (by omega)] at this
        rw [this, List.getElem?_eq_getElem hi, ge_eq xs hi]
        rfl
      simp only [World.cell?, hh]
      simpa using e

theorem Ints.one (W : World) (t : TypeId) (v : Int) (b : Nat) (hb : b = W.heap.size) (hw : -9223372036854775808 ≤ v ∧ v ≤ 9223372036854775807) : Ints (W.alloc (.cells #[.int .i64 v] t)) (some ⟨b, 0, none⟩) [v] := by
  subst hb
  refine ⟨by simp, fun x hx => by simp at hx; subst hx; exact hw, W.heap.size, 0, fun _ => ⟨rfl, by simp⟩, fun i hi => ?_⟩
  simp at hi
  subst hi
  simp [ge]

/-- Append to a slice of the call's own: the world has grown out of wb. -/
theorem wp_append_ints {ops : Array Oper} {rest : List Oper} {o : Oper} {a : Act} {Q : Exit → Act → World → Prop} {w : World} (hgd : o.guard = none) (s x : Operand)
    (ho : o.op = .call { callee := .builtin .append, args := #[s, x], argTypes := #[25, 25] })
    (wb : World) (hwb : Grew wb w) (v : Value) (xs ys : List Int) (hs : a.eval s = v) (hown : Own w wb.heap.size v xs) (q : Option Addr) (m c : Nat) (hx : a.eval x = .slice q m c) (hy : Ints w q ys) (hm : ys.length = m)
    (hnil : q = none → c = 0) (hlen : xs.length + ys.length ≤ 1000000000)
    (h : ∀ v' x', Own (over wb x') wb.heap.size v' (xs ++ ys) → (v' = .slice none 0 0 → v = .slice none 0 0) → wpList Try.prog ops Q rest (a.put o.dst v') (over wb x')) : wpList Try.prog ops Q (o :: rest) a w := by
  obtain ⟨i0, hi, hz0, hz1, hz2⟩ := info_parts Try.infoInt
  subst hm
  cases q with
  | none =>
    have h0 : ys = [] := by
      obtain ⟨_, _, b, o', h3, _⟩ := hy
      cases ys with
      | nil => rfl
      | cons y l => exact absurd (h3 (by simp)).1 (by simp)
    subst h0
    rw [hnil rfl] at hx
    refine wpList_append_own_none hgd s x 25 ho wb.heap.size 3 i0 1 Try.underlying25 hi v xs.length (xs.map (Value.int .i64)) hs hown hx ?_
    obtain ⟨x', rfl⟩ := hwb
    have := h v x' (by simpa using hown) id
    exact this
  | some ad =>
    refine wpList_append_own _ hgd s x 25 ho wb.heap.size 3 i0 (.int .i64 0) 1 8 Try.underlying25 hi hz0 hz1 hz2 rfl (by decide) v xs.length (xs.map (Value.int .i64)) hs hown ad ys.length c (ys.map (Value.int .i64)) hx (by simp) ?_ ?_ ?_ ?_ hwb.below.size ?_
    · intro j u hj
      obtain ⟨_, _, b, o', h3, h4⟩ := hy
      simp only [List.getElem?_map, Option.map_eq_some_iff] at hj
      obtain ⟨y, hy1, rfl⟩ := hj
      have hjl : j < ys.length := (List.getElem?_eq_some_iff.1 hy1).1
      have hp := (h3 (by omega)).1
      cases hp
      rw [Addr.add_lit, h4 j hjl, ge_eq ys hjl]
      have := (List.getElem?_eq_some_iff.1 hy1).2
      rw [this]
    · intro u hu
      obtain ⟨y, _, rfl⟩ := List.mem_map.1 hu
      rfl
    · simp only [maxLen]; omega
    · omega
    · intro v' w' h1 h2 h3
      have hg : Grew wb w' := .of_below (hwb.below.grown h2 hwb.below.size (fun k hk => (World.ownsRow.lt hown k hk).1))
      obtain ⟨x', rfl⟩ := hg
      refine h v' x' ?_ (fun e => (h3.1 e).1)
      unfold Own
      rw [List.length_append, List.map_append]
      exact h1

end Go.Proofs.Ytnodgagmnekliaa
