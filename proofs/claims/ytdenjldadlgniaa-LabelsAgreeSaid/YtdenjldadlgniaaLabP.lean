/- Choices of boxes, plain: completions, costs, the best one; branch and bound. -/
import Derived.Test.YtdenjldadlgniaaLabA
set_option linter.unusedSimpArgs false
set_option linter.unusedVariables false
namespace Go.Proofs.Ytdenjldadlgniaa

def bxAt (m : List (List Bx)) (u k : Nat) : Bx := bK (bRow m u) k
/-- A choice for the first labels. -/
structure Ch (m : List (List Bx)) (l : List Nat) : Prop where
  le : l.length ≤ m.length
  lt : ∀ i, i < l.length → gn l i < (bRow m i).length
  fr : ∀ i, i < l.length → ∀ j, j < i → ovB (bxAt m j (gn l j)) (bxAt m i (gn l i)) = false
/-- A placement. -/
def Cm (m : List (List Bx)) (b : List Nat) : Prop := Ch m b ∧ b.length = m.length
def lco (c : List (List Int)) (l : List Nat) : Int := sumN (fun i => at2 c i (gn l i)) l.length
/-- Box k for the next label overlaps none of the chosen ones. -/
def Fr (m : List (List Bx)) (l : List Nat) (k : Nat) : Prop := ∀ j, j < l.length → ovB (bxAt m j (gn l j)) (bxAt m l.length k) = false
theorem Ch.nil (m : List (List Bx)) : Ch m [] := ⟨Nat.zero_le _, fun i h => by simp at h, fun i h => by simp at h⟩
theorem Ch.snoc {m : List (List Bx)} {l : List Nat} {k : Nat} (h : Ch m l) (hl : l.length < m.length) (hk : k < (bRow m l.length).length) (hf : Fr m l k) : Ch m (l ++ [k]) := by
  refine ⟨by simp; omega, fun i hi => ?_, fun i hi j hj => ?_⟩
  · simp at hi
    rw [gn_app]
    by_cases e : i < l.length
    · rw [if_pos e]; exact h.lt i e
    · have : i = l.length := by omega
      subst this
      rw [if_neg e, if_pos rfl]; exact hk
  · simp at hi
    rw [gn_app, gn_app, if_pos (show j < l.length by omega)]
    by_cases e : i < l.length
    · rw [if_pos e]; exact h.fr i e j hj
    · have : i = l.length := by omega
      subst this
      rw [if_neg e, if_pos rfl]; exact hf j hj
theorem Cm.fr {m : List (List Bx)} {b l : List Nat} {k : Nat} (h : Cm m b) (hp : Pre (l ++ [k]) b) (hl : l.length < m.length) : Fr m l k := by
  intro j hj
  obtain ⟨h1, h2⟩ := pre_snoc.1 hp
  have := h.1.fr l.length (by rw [h.2]; exact hl) j hj
  rw [h1 j hj, h2] at this
  exact this
theorem lco_snoc (c : List (List Int)) (l : List Nat) (k : Nat) : lco c (l ++ [k]) = lco c l + at2 c l.length k := by
  unfold lco
  rw [List.length_append]
  show sumN _ (l.length + 1) = _
  rw [sumN, gn_app, if_neg (Nat.lt_irrefl _), if_pos rfl]
  congr 1
  exact sumN_congr fun i hi => by rw [gn_app, if_pos hi]
/-! ### The best one -/
def Bst (c : List (List Int)) (n : Nat) (P : List Nat → Prop) (a : List Nat) : Prop := P a ∧ ∀ b, P b → lco c a < lco c b ∨ (lco c a = lco c b ∧ (a = b ∨ lexN n a b))
theorem Bst.unique {c : List (List Int)} {n : Nat} {P : List Nat → Prop} {a b : List Nat} (ha : Bst c n P a) (hb : Bst c n P b) : a = b := by
  rcases ha.2 b hb.1 with h1 | ⟨h1, h2⟩
  · rcases hb.2 a ha.1 with h3 | ⟨h3, _⟩ <;> omega
  · rcases h2 with h2 | h2
    · exact h2
    · rcases hb.2 a ha.1 with h3 | ⟨_, h3⟩
      · omega
      · rcases h3 with h3 | h3
        · exact h3.symm
        · exact (lexN_asymm h2 h3).elim
theorem Bst.congr {c : List (List Int)} {n : Nat} {P Q : List Nat → Prop} {a : List Nat} (h : Bst c n P a) (e : ∀ b, P b ↔ Q b) : Bst c n Q a := ⟨(e a).1 h.1, fun b hb => h.2 b ((e b).2 hb)⟩
/-- What a search has found among P. -/
def SS (c : List (List Int)) (n : Nat) (P : List Nat → Prop) (found : Bool) (a : List Nat) (z : Int) : Prop := (found = false ∧ ∀ b, ¬ P b) ∨ (found = true ∧ Bst c n P a ∧ z = lco c a)
theorem SS.congr {c : List (List Int)} {n : Nat} {P Q : List Nat → Prop} {f : Bool} {a : List Nat} {z : Int} (h : SS c n P f a z) (e : ∀ b, P b ↔ Q b) : SS c n Q f a z := by
  rcases h with ⟨h1, h2⟩ | ⟨h1, h2, h3⟩
  · exact Or.inl ⟨h1, fun b hb => h2 b ((e b).2 hb)⟩
  · exact Or.inr ⟨h1, h2.congr e, h3⟩
/-- Placements that come before all those that begin with l. -/
def Bef (m : List (List Bx)) (l b : List Nat) : Prop := Cm m b ∧ ∃ u, u < l.length ∧ (∀ t, t < u → gn b t = gn l t) ∧ gn b u < gn l u
def Upt (m : List (List Bx)) (l b : List Nat) : Prop := Bef m l b ∨ (Cm m b ∧ Pre l b)
theorem Bef.nil {m : List (List Bx)} {b : List Nat} : ¬ Bef m [] b := fun ⟨_, u, hu, _⟩ => by simp at hu
theorem bef_snoc {m : List (List Bx)} {l b : List Nat} {k : Nat} : Bef m (l ++ [k]) b ↔ Bef m l b ∨ (Cm m b ∧ Pre l b ∧ gn b l.length < k) := by
  constructor
  · rintro ⟨h, u, hu, h1, h2⟩
    rw [gn_app] at h2
    by_cases e : u < l.length
    · rw [if_pos e] at h2
      exact Or.inl ⟨h, u, e, fun t ht => by have := h1 t ht; rwa [gn_app, if_pos (by omega)] at this, h2⟩
    · have : u = l.length := by simp at hu; omega
      subst this
      rw [if_neg e, if_pos rfl] at h2
      exact Or.inr ⟨h, fun t ht => by have := h1 t ht; rwa [gn_app, if_pos ht] at this, h2⟩
  · rintro (⟨h, u, hu, h1, h2⟩ | ⟨h, h1, h2⟩)
    · exact ⟨h, u, by simp; omega, fun t ht => by rw [gn_app, if_pos (by omega)]; exact h1 t ht, by rw [gn_app, if_pos hu]; exact h2⟩
    · exact ⟨h, l.length, by simp, fun t ht => by rw [gn_app, if_pos ht]; exact h1 t ht, by rw [gn_app, if_neg (Nat.lt_irrefl _), if_pos rfl]; exact h2⟩
theorem upt_snoc {m : List (List Bx)} {l : List Nat} {k : Nat} (b : List Nat) : Upt m (l ++ [k]) b ↔ Bef m (l ++ [k + 1]) b := by
  unfold Upt
  rw [bef_snoc, bef_snoc]
  constructor
  · rintro ((h | ⟨h1, h2, h3⟩) | ⟨h1, h2⟩)
    · exact Or.inl h
    · exact Or.inr ⟨h1, h2, by omega⟩
    · obtain ⟨h3, h4⟩ := pre_snoc.1 h2
      exact Or.inr ⟨h1, h3, by omega⟩
  · rintro (h | ⟨h1, h2, h3⟩)
    · exact Or.inl (Or.inl h)
    · by_cases e : gn b l.length = k
      · exact Or.inr ⟨h1, pre_snoc.2 ⟨h2, e⟩⟩
      · exact Or.inl (Or.inr ⟨h1, h2, by omega⟩)
theorem bef_zero {m : List (List Bx)} {l : List Nat} (b : List Nat) : Bef m l b ↔ Bef m (l ++ [0]) b := by
  rw [bef_snoc]
  exact ⟨Or.inl, fun h => h.resolve_right fun h => by omega⟩
theorem bef_skip {m : List (List Bx)} {l : List Nat} {k : Nat} (hl : l.length < m.length) (hf : ¬ Fr m l k) (b : List Nat) : Bef m (l ++ [k]) b ↔ Bef m (l ++ [k + 1]) b := by
  rw [← upt_snoc]
  exact ⟨Or.inl, fun h => h.resolve_right fun h => hf (h.1.fr h.2 hl)⟩
theorem bef_all {m : List (List Bx)} {l : List Nat} (hl : l.length < m.length) (b : List Nat) : Bef m (l ++ [(bRow m l.length).length]) b ↔ Upt m l b := by
  rw [bef_snoc]
  unfold Upt
  exact ⟨fun h => h.imp id fun h => ⟨h.1, h.2.1⟩, fun h => h.imp id fun h => ⟨h.1, h.2, h.1.1.lt _ (by rw [h.1.2]; exact hl)⟩⟩
/-! ### The bound -/
theorem sumN_split (f : Nat → Int) (a : Nat) : ∀ d, sumN f (a + d) = sumN f a + sumN (fun j => f (a + j)) d
  | 0 => by rw [Nat.add_zero, sumN]; omega
  | d + 1 => by
    rw [← Nat.add_assoc, sumN, sumN_split f a d, sumN]
    omega
def mnL : List Int → Int
  | [] => 0
  | [x] => x
  | x :: y :: l => mnI x (mnL (y :: l))
theorem mnL_le : ∀ {xs : List Int} {i : Nat}, i < xs.length → mnL xs ≤ ge xs i
  | [], _, h => by simp at h
  | [x], i, h => by
    have : i = 0 := by simpa using h
    subst this
    exact Int.le_refl _
  | x :: y :: l, 0, _ => by
    show mnI x (mnL (y :: l)) ≤ x
    unfold mnI
    split <;> omega
  | x :: y :: l, i + 1, h => by
    have := mnL_le (xs := y :: l) (i := i) (by simpa using h)
    show mnI x (mnL (y :: l)) ≤ ge (x :: y :: l) (i + 1)
    rw [ge_cons_succ]
    unfold mnI
    split <;> omega
def rstS (c : List (List Int)) (i : Nat) : Int := sumN (fun j => mnL (rowOf c (i + j))) (c.length - i)
theorem rst_end (c : List (List Int)) : rstS c c.length = 0 := by unfold rstS; rw [Nat.sub_self]; rfl
theorem sumN_first (f : Nat → Int) (d : Nat) : sumN f (d + 1) = f 0 + sumN (fun j => f (1 + j)) d := by
  rw [Nat.add_comm d 1, sumN_split f 1 d]
  simp [sumN]
theorem rst_step {c : List (List Int)} {i : Nat} (hi : i < c.length) : rstS c i = rstS c (i + 1) + mnL (rowOf c i) := by
  unfold rstS
  obtain ⟨d, hd⟩ : ∃ d, c.length - i = d + 1 := ⟨c.length - i - 1, by omega⟩
  rw [hd, sumN_first, show c.length - (i + 1) = d by omega, Nat.add_zero, Int.add_comm]
  congr 1
  exact sumN_congr fun j _ => by rw [Nat.add_assoc]
/-- Candidates and costs that fit each other. -/
structure vL (m : List (List Bx)) (c : List (List Int)) : Prop where
  n : m.length ≤ 8
  cn : c.length = m.length
  bx : ∀ u, u < m.length → (bRow m u).length ≤ 16 ∧ ∀ k, k < (bRow m u).length → bvB (bxAt m u k) = true
  co : ∀ u, u < m.length → (rowOf c u).length = (bRow m u).length
  cb : ∀ u, u < m.length → ∀ k, k < (rowOf c u).length → 0 ≤ at2 c u k ∧ at2 c u k ≤ 1000000
theorem bound {m : List (List Bx)} {c : List (List Int)} (hV : vL m c) {l b : List Nat} (hb : Cm m b) (hl : l.length ≤ m.length) (hp : Pre l b) : lco c l + rstS c l.length ≤ lco c b := by
  have e : b.length = l.length + (c.length - l.length) := by rw [hb.2, hV.cn]; omega
  unfold lco
  rw [e, sumN_split]
  have h1 : sumN (fun i => at2 c i (gn b i)) l.length = sumN (fun i => at2 c i (gn l i)) l.length := sumN_congr fun i hi => by rw [hp i hi]
  rw [h1]
  have h2 : rstS c l.length ≤ sumN (fun j => at2 c (l.length + j) (gn b (l.length + j))) (c.length - l.length) := sumN_le fun j hj => by
    have hu : l.length + j < m.length := by have := hV.cn; omega
    have := hb.1.lt (l.length + j) (by rw [hb.2]; exact hu)
    exact mnL_le (by rw [hV.co _ hu]; exact this)
  omega
theorem SS.prune {m : List (List Bx)} {c : List (List Int)} (hV : vL m c) {l a : List Nat} {z : Int} (hl : l.length ≤ m.length) (h : SS c m.length (Bef m l) true a z) (hz : z ≤ lco c l + rstS c l.length) : SS c m.length (Upt m l) true a z := by
  rcases h with ⟨h, _⟩ | ⟨_, ⟨h1, h2⟩, h3⟩
  · cases h
  refine Or.inr ⟨rfl, ⟨Or.inl h1, fun b hb => ?_⟩, h3⟩
  rcases hb with hb | ⟨hb, hp⟩
  · exact h2 b hb
  · have hbd := bound hV hb hl hp
    by_cases e : lco c a < lco c b
    · exact Or.inl e
    · refine Or.inr ⟨by omega, Or.inr ?_⟩
      obtain ⟨_, u, hu, g1, g2⟩ := h1
      exact ⟨u, by omega, fun t ht => by rw [g1 t ht, hp t (by omega)], by rw [hp u hu]; exact g2⟩
theorem SS.leaf {m : List (List Bx)} {c : List (List Int)} {l a : List Nat} {z : Int} {f : Bool} (hl : Cm m l) (h : SS c m.length (Bef m l) f a z) (hz : f = true → lco c l < z) : SS c m.length (Upt m l) true l (lco c l) := by
  have hpre : ∀ b, Cm m b → Pre l b → l = b := fun b hb hp => (gn_ext (by rw [hl.2, hb.2]) (fun i hi => (hp i hi).symm))
  refine Or.inr ⟨rfl, ⟨Or.inr ⟨hl, fun u _ => rfl⟩, fun b hb => ?_⟩, rfl⟩
  rcases hb with hb | ⟨hb, hp⟩
  · rcases h with ⟨_, h2⟩ | ⟨h1, ⟨_, h2⟩, h3⟩
    · exact absurd hb (h2 b)
    · have := hz h1
      rcases h2 b hb with g | ⟨g, _⟩
      · left; omega
      · left; omega
  · exact Or.inr ⟨by rw [hpre b hb hp], Or.inl (hpre b hb hp)⟩
theorem upt_nil {m : List (List Bx)} (b : List Nat) : Upt m [] b ↔ Cm m b := ⟨fun h => h.elim (fun h => absurd h Bef.nil) (fun h => h.1), fun h => Or.inr ⟨h, fun u hu => by simp at hu⟩⟩
/-! ### The exhaustive search -/
def Sub (m : List (List Bx)) (l : List Nat) (b : List Nat) : Prop := Cm m b ∧ Pre l b
def SubK (m : List (List Bx)) (l : List Nat) (k : Nat) (b : List Nat) : Prop := Cm m b ∧ Pre l b ∧ gn b l.length < k
theorem subK_zero {m : List (List Bx)} {l b : List Nat} : ¬ SubK m l 0 b := fun h => by have := h.2.2; omega
theorem subK_skip {m : List (List Bx)} {l : List Nat} {k : Nat} (hno : ∀ b, ¬ Sub m (l ++ [k]) b) (b : List Nat) : SubK m l k b ↔ SubK m l (k + 1) b := by
  refine ⟨fun h => ⟨h.1, h.2.1, by have := h.2.2; omega⟩, fun h => ⟨h.1, h.2.1, ?_⟩⟩
  have h1 := h.2.2
  by_cases e : gn b l.length = k
  · exact absurd ⟨h.1, pre_snoc.2 ⟨h.2.1, e⟩⟩ (hno b)
  · omega
theorem subK_all {m : List (List Bx)} {l : List Nat} (hl : l.length < m.length) (b : List Nat) : SubK m l (bRow m l.length).length b ↔ Sub m l b :=
  ⟨fun h => ⟨h.1, h.2.1⟩, fun h => ⟨h.1, h.2, h.1.1.lt _ (by rw [h.1.2]; exact hl)⟩⟩
theorem subK_split {m : List (List Bx)} {l : List Nat} {k : Nat} {b : List Nat} (h : SubK m l (k + 1) b) : SubK m l k b ∨ Sub m (l ++ [k]) b := by
  by_cases e : gn b l.length = k
  · exact Or.inr ⟨h.1, pre_snoc.2 ⟨h.2.1, e⟩⟩
  · exact Or.inl ⟨h.1, h.2.1, by have := h.2.2; omega⟩
theorem sub_in {m : List (List Bx)} {l : List Nat} {k : Nat} {b : List Nat} (h : Sub m (l ++ [k]) b) : SubK m l (k + 1) b := by
  obtain ⟨h1, h2⟩ := pre_snoc.1 h.2
  exact ⟨h.1, h1, by omega⟩
theorem SS.better {m : List (List Bx)} {c : List (List Int)} {l a a' : List Nat} {z z' : Int} {k : Nat} {f : Bool} (h : SS c m.length (SubK m l k) f a z) (h' : SS c m.length (Sub m (l ++ [k])) true a' z') (hz : f = true → z' < z) : SS c m.length (SubK m l (k + 1)) true a' z' := by
  rcases h' with ⟨h', _⟩ | ⟨_, ⟨h1, h2⟩, h3⟩
  · cases h'
  refine Or.inr ⟨rfl, ⟨sub_in h1, fun b hb => ?_⟩, h3⟩
  rcases subK_split hb with g | g
  · rcases h with ⟨_, g2⟩ | ⟨g1, ⟨_, g2⟩, g3⟩
    · exact absurd g (g2 b)
    · have := hz g1
      rcases g2 b g with e | ⟨e, _⟩ <;> (left; omega)
  · exact h2 b g
theorem SS.keep {m : List (List Bx)} {c : List (List Int)} {l a a' : List Nat} {z z' : Int} {k : Nat} {f' : Bool} (hl : l.length < m.length) (h : SS c m.length (SubK m l k) true a z) (h' : SS c m.length (Sub m (l ++ [k])) f' a' z') (hz : f' = true → z ≤ z') : SS c m.length (SubK m l (k + 1)) true a z := by
  rcases h with ⟨h, _⟩ | ⟨_, ⟨h1, h2⟩, h3⟩
  · cases h
  refine Or.inr ⟨rfl, ⟨⟨h1.1, h1.2.1, by have := h1.2.2; omega⟩, fun b hb => ?_⟩, h3⟩
  rcases subK_split hb with g | g
  · exact h2 b g
  · rcases h' with ⟨_, g2⟩ | ⟨g1, ⟨_, g2⟩, g3⟩
    · exact absurd g (g2 b)
    · have hz := hz g1
      have hle : lco c a ≤ lco c b := by
        rcases g2 b g with e | ⟨e, _⟩ <;> omega
      by_cases e : lco c a < lco c b
      · exact Or.inl e
      · obtain ⟨p1, p2⟩ := pre_snoc.1 g.2
        refine Or.inr ⟨by omega, Or.inr ⟨l.length, hl, fun t ht => by rw [h1.2.1 t ht, p1 t ht], by rw [p2]; exact h1.2.2⟩⟩
theorem SS.none {c : List (List Int)} {n : Nat} {P : List Nat → Prop} {a : List Nat} {z : Int} (h : SS c n P false a z) : ∀ b, ¬ P b := by
  rcases h with ⟨_, h⟩ | ⟨h, _⟩
  · exact h
  · cases h
theorem sub_leaf {m : List (List Bx)} {c : List (List Int)} {l : List Nat} (hl : Cm m l) : SS c m.length (Sub m l) true l (lco c l) := by
  refine Or.inr ⟨rfl, ⟨⟨hl, fun u _ => rfl⟩, fun b hb => ?_⟩, rfl⟩
  have e : l = b := gn_ext (by rw [hl.2, hb.1.2]) (fun i hi => (hb.2 i hi).symm)
  exact Or.inr ⟨by rw [e], Or.inl e⟩
theorem sub_nil {m : List (List Bx)} (b : List Nat) : Sub m [] b ↔ Cm m b := ⟨fun h => h.1, fun h => ⟨h, fun u hu => by simp at hu⟩⟩
theorem SS.same {c : List (List Int)} {n : Nat} {P : List Nat → Prop} {f f' : Bool} {a a' : List Nat} {z z' : Int} (h : SS c n P f a z) (h' : SS c n P f' a' z') : f = f' ∧ (f = true → a = a' ∧ z = z') := by
  rcases h with ⟨h1, h2⟩ | ⟨h1, h2, h3⟩
  · rcases h' with ⟨g1, _⟩ | ⟨g1, g2, _⟩
    · exact ⟨by rw [h1, g1], fun e => by rw [h1] at e; cases e⟩
    · exact absurd g2.1 (h2 _)
  · rcases h' with ⟨g1, g2⟩ | ⟨g1, g2, g3⟩
    · exact absurd h2.1 (g2 _)
    · have e := h2.unique g2
      exact ⟨by rw [h1, g1], fun _ => ⟨e, by rw [h3, g3, e]⟩⟩
end Go.Proofs.Ytdenjldadlgniaa
