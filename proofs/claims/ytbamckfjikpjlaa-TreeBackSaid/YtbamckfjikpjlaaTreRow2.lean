/- Layer 7: the law TreeRenames as the statement says it: it returns true for every input, and the input reads as before. No conditions. -/
import Derived.Test.YtbamckfjikpjlaaTreZa
import Derived.Test.YtbamckfjikpjlaaTreRow
set_option linter.unusedSimpArgs false
set_option linter.unusedVariables false
namespace Go.Proofs.Ytbamckfjikpjlaa
open Go.RowKit Go.ChangeShapes Go.WideShapes

/-- An argument that is a text. -/
theorem arg_str {H : Type} {enc : TypeId × Value → H} {w : World} {r : Reach} {base n : Nat} {v : Value} {x : DataW H × List MemPlace} (hok : Value.okWide Try.prog w r base 9 v)
    (h : DataW.trod enc Try.prog w 0 (fun _ => true) true n 9 v.cells.toList = some x) : ∃ s, v = .string s ∧ s.size ≤ maxLen := by
  obtain ⟨s, hs, hm⟩ := opens_str Try.underlying9 _ _ _ _ _ _ h
  rw [okWide_strc Try.underlying9 hok] at hs
  simp at hs
  exact ⟨s, hs, hm⟩

theorem TreeRenames_row : Rows.TreeRenamesSaid :=
  OpenClaim.holds_of_wide 4 Try.f4 rfl rfl rfl rfl rfl rfl rfl ⟨rfl, rfl, rfl, rfl, rfl⟩ rfl rfl rfl rfl rfl (by kernel_rfl) Try.func4 (by kernel_rfl)
    (of_decide_eq_true (by kernel_rfl)) (by unfold Func.isWrapper; first | (rw [if_pos (by decide +kernel)]; kernel_rfl) | (rw [if_neg (by decide +kernel)]; exact ⟨rfl, rfl⟩))
    (fun os started H enc _ => by
      refine law_lifted (C := Try.checked) (s := Rows.treeRenamesSpec) Try.own started (by kernel_rfl) Try.func4
        (ChangeSpec.witness6 (enc := enc) (C := Try.checked) false ⟨#[], #[.agg #[.string ⟨#[]⟩, .bool false, .slice none 0 0], .string ⟨#[]⟩, .string ⟨#[]⟩], []⟩ 8 (by kernel_rfl) (by kernel_rfl) (by kernel_rfl) (by kernel_rfl))
        Try.laidOut rfl Try.underlying4 (by kernel_rfl) rfl ?_ ?_
      · intro ds hds
        match ds, hds with
        | [_, _, _], _ => exact ⟨rfl, rfl, rfl⟩
      · intro W base args ds ps hval hA
        have hA' := hA
        rw [Try.params4] at hA'
        obtain ⟨v0, v1, v2, rfl, ⟨n0, y0, h0⟩, ⟨n1, y1, h1⟩, ⟨n2, y2, h2⟩⟩ := trodAll_split3 hA'
        obtain ⟨name, dir, p, l, cap, N, rfl, hS⟩ := arg_tree (hval 0 _ _ rfl rfl) h0
        obtain ⟨f, rfl, _⟩ := arg_str (hval 1 _ _ rfl rfl) h1
        obtain ⟨t, rfl, _⟩ := arg_str (hval 2 _ _ rfl rfl) h2
        exact renames_l _ _ _ _ _ _ _ _ _ _ hS rfl)

end Go.Proofs.Ytbamckfjikpjlaa
