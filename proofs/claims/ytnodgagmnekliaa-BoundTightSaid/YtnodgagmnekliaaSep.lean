/- An append on a slice of the call's own, told apart from the call's other blocks. -/
import Derived.Test.YtnodgagmnekliaaOwn
import Derived.ArgAppend
import Derived.OwnWalk
set_option linter.unusedSimpArgs false
set_option linter.unusedVariables false
namespace Go.Proofs.Ytnodgagmnekliaa
open Go.RowKit

theorem wp_append_sep {ops : Array Oper} {rest : List Oper} {o : Oper} {a : Act} {Q : Exit → Act → World → Prop} {w : World} (hgd : o.guard = none) (s x : Operand)
    (ho : o.op = .call { callee := .builtin .append, args := #[s, x], argTypes := #[25, 25] })
    (B : Nat) (v : Value) (xs ys : List Int) (hs : a.eval s = v) (hown : Own w B v xs) (ad : Addr) (m c : Nat) (hx : a.eval x = .slice (some ad) m c) (hy : Ints w (some ad) ys) (hm : ys.length = m) (hpos : 0 < m)
    (hlen : xs.length + ys.length ≤ 1000000000) (hB : B ≤ w.heap.size)
    (h : ∀ v' w', Own w' B v' (xs ++ ys) → w.grownBy w' v.ownBlock → (∀ g, v'.ownBlock = some g → v.ownBlock = some g ∨ w.heap.size ≤ g) → wpList Try.prog ops Q rest (a.put o.dst v') w') : wpList Try.prog ops Q (o :: rest) a w := by
  obtain ⟨i0, hi, hz0, hz1, hz2⟩ := info_parts Try.infoInt
  subst hm
  have hnews : ∀ (j : Nat) (u : Value), (ys.map (Value.int .i64))[j]? = some u → w.cell? (ad.add j) = some u := by
    intro j u hj
    obtain ⟨_, _, b, o', h3, h4⟩ := hy
    simp only [List.getElem?_map, Option.map_eq_some_iff] at hj
    obtain ⟨y, hy1, rfl⟩ := hj
    have hjl : j < ys.length := (List.getElem?_eq_some_iff.1 hy1).1
    have hp := (h3 (by omega)).1
    cases hp
    rw [Addr.add_lit, h4 j hjl, ge_eq ys hjl]
    have := (List.getElem?_eq_some_iff.1 hy1).2
    rw [this]
  have h1 : ∀ u ∈ ys.map (Value.int .i64), u.oneCell' = true := by
    intro u hu
    obtain ⟨y, _, rfl⟩ := List.mem_map.1 hu
    rfl
  have hml : xs.length + ys.length ≤ maxLen := by simp only [maxLen]; omega
  have hgrows : ∀ (ao : Option Addr) (cap : Nat), v = .slice ao xs.length cap → (ao = none → xs.length = 0 ∧ cap = 0) → cap < xs.length + ys.length → wpList Try.prog ops Q (o :: rest) a w := by
    intro ao cap hv hnone hfull
    have hown' := hown
    refine wpList_append_grows w hgd s x 25 ho 3 i0 (.int .i64 0) 1 8 Try.underlying25 hi hz0 hz1 hz2 rfl (by decide) ao xs.length cap (xs.map (Value.int .i64)) (by rw [hs, hv]) hnone (by simp) ?_
      ad ys.length c (ys.map (Value.int .i64)) hx (by simp) hnews h1 hfull hml (by omega) ?_
    · intro b hb j u hj
      subst hb
      obtain ⟨_, h2⟩ := hown'
      rcases h2 with ⟨h2, _⟩ | ⟨g, cap', cur, hv', hb, hh, hle, hmx, hsz, ht⟩
      · rw [hv] at h2; cases h2
      · rw [hv] at hv'
        cases hv'
        rw [Addr.add_lit, Nat.zero_add]
        have := congrArg (fun l : List Value => l[j]?) ht
        simp only [List.getElem?_take, Array.getElem?_toList] at this
        rw [hj] at this
        have hjl : j < xs.length * 1 := by
          have := (List.getElem?_eq_some_iff.1 hj).1
          simpa using this
        rw [if_pos hjl] at this
        simp only [World.cell?, hh]
        simpa using this
    · intro v' w' g1 g2
      refine h v' w' ?_ ?_ ?_
      · unfold Own
        rw [List.length_append, List.map_append]
        obtain ⟨k1, k2⟩ := g1
        refine ⟨k1, k2.imp id fun ⟨g, cap', cur, e1, e2, e3⟩ => ⟨g, cap', cur, e1, Nat.le_trans hB e2, e3⟩⟩
      · exact ⟨g2.os, g2.tape, g2.output, g2.size, fun k hk _ => g2.block k hk (by simp)⟩
      · intro g hg
        exact Or.inr (World.ownsRow.lt g1 g hg).1
  obtain ⟨_, h2⟩ := id hown
  rcases h2 with ⟨h2, h3⟩ | ⟨g, cap, cur, hv, hb, hh, hle, hmx, hsz, ht⟩
  · exact hgrows none 0 (by rw [h2, h3]) (fun _ => ⟨h3, rfl⟩) (by omega)
  · by_cases hfit : xs.length + ys.length ≤ cap
    · subst hv
      refine wpList_append_fits w hgd s x 25 ho B 3 i0 1 Try.underlying25 hi hz1 g xs.length cap (xs.map (Value.int .i64)) hs hown ad ys.length c (ys.map (Value.int .i64)) hx (by simp) hnews h1 hfit ?_
      intro w' g1 g2
      refine h _ w' ?_ g2 (fun g' hg' => Or.inl hg')
      unfold Own
      rw [List.length_append, List.map_append]
      exact g1
    · exact hgrows (some ⟨g, 0, none⟩) cap hv (fun h => by cases h) (by omega)

end Go.Proofs.Ytnodgagmnekliaa
