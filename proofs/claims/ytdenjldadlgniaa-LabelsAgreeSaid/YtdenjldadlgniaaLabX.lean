/- LabelsAgree: what Slots and Place answer. -/
import Derived.Test.YtdenjldadlgniaaLabW
set_option linter.unusedSimpArgs false
set_option linter.unusedVariables false
namespace Go.Proofs.Ytdenjldadlgniaa

theorem okS_bv {s : List Bx} {c : List (List Int)} (h : okS s c = true) : ∀ u, u < s.length → bvB (bK s u) = true := fun u hu => by
  cases e : bvB (bK s u)
  · rw [okS_sl hu e] at h; cases h
  · rfl
theorem lco_cost {c : List (List Int)} {a : List Nat} (h : a.length = c.length) : lco c a = costN c a := by
  unfold lco costN
  rw [h]
theorem agree_det (s : List Bx) (c : List (List Int)) (hp : ∀ u, u < s.length → posB (bK s u)) :
    (∃ er : Int, er ≠ 0 ∧ er ≠ 15 ∧ ∀ w e w', SlotsPost s c w e w' → Grew w w' ∧ e = .returned (.tuple #[.slice none 0 0, .int .i64 0, .int .i64 er])) ∨
    (vLB (List.replicate c.length s) c = false) ∨
    (∃ z er : Int, (er = 0 ∨ er = 15) ∧ (∀ w e w', SlotsPost s c w e w' → Grew w w' ∧ ∃ q k cp, e = .returned (.tuple #[.slice q k cp, .int .i64 z, .int .i64 er])) ∧
      (∀ w e w', PlaceW (List.replicate c.length s) c w e w' → Grew w w' ∧ ∃ q k cp, e = .returned (.tuple #[.slice q k cp, .int .i64 z, .int .i64 er]))) := by
  cases h : okS s c
  · refine Or.inl ⟨1, by decide, by decide, fun w e w' ⟨hg, hq⟩ => ⟨hg, ?_⟩⟩
    rcases hq with ⟨_, g⟩ | ⟨g, _⟩ | ⟨g, _⟩ | ⟨g, _⟩
    · exact g
    all_goals (rw [h] at g; cases g)
  by_cases hn : NoOv s
  case neg =>
    refine Or.inl ⟨14, by decide, by decide, fun w e w' ⟨hg, hq⟩ => ⟨hg, ?_⟩⟩
    rcases hq with ⟨g, _⟩ | ⟨_, _, g⟩ | ⟨_, g, _⟩ | ⟨_, g, _⟩
    · rw [h] at g; cases g
    · exact g
    · exact absurd g hn
    · exact absurd g hn
  cases hv : vLB (List.replicate c.length s) c
  · exact Or.inr (Or.inl rfl)
  refine Or.inr (Or.inr ?_)
  have hV := vLB_iff.1 hv
  have iff := cm_asg hn (okS_bv h) hp hV
  have hml : (List.replicate c.length s).length = c.length := by simp
  rcases best_or c with ⟨a, ha⟩ | hno
  · refine ⟨costN c a, 0, Or.inl rfl, fun w e w' ⟨hg, hq⟩ => ⟨hg, ?_⟩, fun w e w' ⟨hg, hq⟩ => ⟨hg, ?_⟩⟩
    · rcases hq with ⟨g, _⟩ | ⟨_, g, _⟩ | ⟨_, _, g, _⟩ | ⟨_, _, a', q, cp, g1, g2, g3, _⟩
      · rw [h] at g; cases g
      · exact absurd hn g
      · exact absurd ha.asg (g a)
      · have e := g1.unique ha
        subst e
        exact ⟨q, _, cp, g2⟩
    · rcases hq with ⟨g, _⟩ | ⟨_, g, _⟩ | ⟨_, a', q, cp, g1, g2, g3, _⟩
      · rw [hv] at g; cases g
      · exact absurd ((iff a).2 ha.asg) (g a)
      · have h1 := (iff a').1 g1.1
        have h2 := ha.le a' h1
        have e1 := lco_cost (c := c) h1.l
        have e2 := lco_cost (c := c) ha.asg.l
        have h3 : lco c a' ≤ lco c a := by
          rcases g1.2 a ((iff a).2 ha.asg) with g | ⟨g, _⟩ <;> omega
        have e : lco c a' = costN c a := by omega
        rw [e] at g2
        exact ⟨q, _, cp, g2⟩
  · refine ⟨0, 15, Or.inr rfl, fun w e w' ⟨hg, hq⟩ => ⟨hg, ?_⟩, fun w e w' ⟨hg, hq⟩ => ⟨hg, ?_⟩⟩
    · rcases hq with ⟨g, _⟩ | ⟨_, g, _⟩ | ⟨_, _, _, g⟩ | ⟨_, _, a', q, cp, g1, _⟩
      · rw [h] at g; cases g
      · exact absurd hn g
      · exact ⟨none, 0, 0, g⟩
      · exact absurd g1.asg (hno a')
    · rcases hq with ⟨g, _⟩ | ⟨_, _, g⟩ | ⟨_, a', q, cp, g1, _⟩
      · rw [hv] at g; cases g
      · exact ⟨none, 0, 0, g⟩
      · exact absurd ((iff a').1 g1.1) (hno a')
end Go.Proofs.Ytdenjldadlgniaa
