/- The best assignment, plain: rows are bound one by one. -/
import Derived.Test.YtdenjldadlgniaaHunD
set_option linter.unusedSimpArgs false
set_option linter.unusedVariables false
namespace Go.Proofs.Ytdenjldadlgniaa

def lexN (n : Nat) (a b : List Nat) : Prop := ∃ u, u < n ∧ (∀ t, t < u → gn a t = gn b t) ∧ gn a u < gn b u
structure BestA (m : List (List Int)) (a : List Nat) : Prop where
  asg : Asg m a
  le : ∀ b, Asg m b → costN m a ≤ costN m b
  lex : ∀ b, Asg m b → costN m b = costN m a → b = a ∨ lexN m.length a b
theorem lexN_asymm {n : Nat} {a b : List Nat} (h : lexN n a b) (h2 : lexN n b a) : False := by
  obtain ⟨u, _, e1, l1⟩ := h
  obtain ⟨v, _, e2, l2⟩ := h2
  rcases Nat.lt_trichotomy u v with g | g | g
  · have := e2 u g; omega
  · subst g; omega
  · have := e1 v g; omega
theorem BestA.unique {m : List (List Int)} {a b : List Nat} (ha : BestA m a) (hb : BestA m b) : a = b := by
  have h1 := ha.le b hb.asg
  have h2 := hb.le a ha.asg
  rcases ha.lex b hb.asg (by omega) with h | h
  · exact h.symm
  · rcases hb.lex a ha.asg (by omega) with h' | h'
    · exact h'
    · exact (lexN_asymm h h').elim

theorem gn_ext {a b : List Nat} (hl : a.length = b.length) (h : ∀ i, i < a.length → gn a i = gn b i) : a = b :=
  List.ext_getElem hl fun i h1 h2 => by
    have := h i h1
    unfold gn at this
    simpa [h1, h2] using this
theorem gn_app (l : List Nat) (c u : Nat) : gn (l ++ [c]) u = if u < l.length then gn l u else if u = l.length then c else 0 := by
  unfold gn
  rw [List.getD_eq_getElem?_getD, List.getD_eq_getElem?_getD]
  by_cases h : u < l.length
  · rw [if_pos h, List.getElem?_append_left h]
  · rw [if_neg h, List.getElem?_append_right (by omega)]
    by_cases h2 : u = l.length
    · rw [if_pos h2, h2, Nat.sub_self]; rfl
    · rw [if_neg h2, List.getElem?_eq_none (by simp; omega)]; rfl

/-! ### A matrix whose first rows are bound -/
def onlyR (K c : Nat) (x : Int) : List Int := (List.replicate K (-1)).set c x
theorem onlyR_len (K c : Nat) (x : Int) : (onlyR K c x).length = K := by simp [onlyR]
theorem ge_onlyR {K c v : Nat} (x : Int) (hc : c < K) (hv : v < K) : ge (onlyR K c x) v = if v = c then x else -1 := by
  unfold onlyR
  rw [ge_set _ (by simpa using hc)]
  split
  · rfl
  · unfold ge
    rw [List.getD_eq_getElem?_getD, List.getElem?_replicate, if_pos hv]
    rfl
def bd (m : List (List Int)) (l : List Nat) : List (List Int) := (List.range m.length).map fun u => if u < l.length then onlyR (kO m) (gn l u) (at2 m u (gn l u)) else rowOf m u
theorem bd_length (m : List (List Int)) (l : List Nat) : (bd m l).length = m.length := by simp [bd]
theorem rowOf_bd (m : List (List Int)) (l : List Nat) {u : Nat} (hu : u < m.length) : rowOf (bd m l) u = if u < l.length then onlyR (kO m) (gn l u) (at2 m u (gn l u)) else rowOf m u := by
  rw [rowOf_eq _ (by rw [bd_length]; exact hu)]
  unfold bd
  rw [List.getElem_map, List.getElem_range]
theorem rowlen_bd {m : List (List Int)} (hV : vA m) (l : List Nat) {u : Nat} (hu : u < m.length) : (rowOf (bd m l) u).length = kO m := by
  rw [rowOf_bd m l hu]
  split
  · exact onlyR_len _ _ _
  · exact hV.sq u hu
theorem kO_bd {m : List (List Int)} (hV : vA m) (l : List Nat) (h0 : 0 < m.length) : kO (bd m l) = kO m := rowlen_bd hV l h0
/-- A list of columns that rows may be bound to. -/
structure LOK (m : List (List Int)) (l : List Nat) : Prop where
  le : l.length ≤ m.length
  lt : ∀ u, u < l.length → gn l u < kO m
  ok : ∀ u, u < l.length → 0 ≤ at2 m u (gn l u)
theorem at2_bd {m : List (List Int)} {l : List Nat} (hL : LOK m l) {u v : Nat} (hu : u < m.length) (hv : v < kO m) :
    at2 (bd m l) u v = if u < l.length then (if v = gn l u then at2 m u v else -1) else at2 m u v := by
  unfold at2
  rw [rowOf_bd m l hu]
  split
  · rename_i h
    rw [ge_onlyR _ (hL.lt u h) hv]
    split
    · rename_i e; rw [e]; rfl
    · rfl
  · rfl
theorem vA_bd {m : List (List Int)} (hV : vA m) {l : List Nat} (hL : LOK m l) : vA (bd m l) := by
  by_cases h0 : m.length = 0
  · have hb : (bd m l).length = 0 := by rw [bd_length]; exact h0
    exact ⟨by omega, fun u hu => by omega, fun h => by omega, fun h => by omega, fun u hu => by omega⟩
  · have hk := kO_bd hV l (by omega)
    refine ⟨by rw [bd_length]; exact hV.n16, fun u hu => ?_, fun _ => ?_, fun _ => ?_, fun u hu v hv => ?_⟩
    · rw [bd_length] at hu; rw [hk]; exact rowlen_bd hV l hu
    · rw [hk]; exact hV.k64 (by omega)
    · rw [hk, bd_length]; exact hV.nk (by omega)
    · rw [bd_length] at hu
      rw [hk] at hv
      rw [at2_bd hL hu hv]
      have := hV.b u hu v hv
      split
      · split
        · exact this
        · omega
      · exact this
def Pre (l a : List Nat) : Prop := ∀ u, u < l.length → gn a u = gn l u
theorem asg_bd {m : List (List Int)} (hV : vA m) {l : List Nat} (hL : LOK m l) {a : List Nat} : Asg (bd m l) a ↔ Asg m a ∧ Pre l a := by
  constructor
  · intro h
    have hl := h.l
    rw [bd_length] at hl
    have hlt : ∀ i, i < m.length → gn a i < kO m := fun i hi => by
      have := h.lt i (by rw [bd_length]; exact hi)
      rwa [kO_bd hV l (by omega)] at this
    have hok : ∀ i, i < m.length → 0 ≤ at2 (bd m l) i (gn a i) := fun i hi => h.ok i (by rw [bd_length]; exact hi)
    have hpre : Pre l a := fun u hu => by
      have hum : u < m.length := Nat.lt_of_lt_of_le hu hL.le
      have := hok u hum
      rw [at2_bd hL hum (hlt u hum), if_pos hu] at this
      by_cases e : gn a u = gn l u
      · exact e
      · rw [if_neg e] at this; omega
    refine ⟨⟨hl, fun i j hi hj => h.nd i j (by rw [bd_length]; exact hi) (by rw [bd_length]; exact hj), hlt, fun i hi => ?_⟩, hpre⟩
    have := hok i hi
    rw [at2_bd hL hi (hlt i hi)] at this
    split at this
    · split at this
      · exact this
      · omega
    · exact this
  · intro ⟨h, hp⟩
    refine ⟨by rw [bd_length]; exact h.l, fun i j hi hj => h.nd i j (by rw [bd_length] at hi; exact hi) (by rw [bd_length] at hj; exact hj), fun i hi => ?_, fun i hi => ?_⟩
    · rw [bd_length] at hi
      rw [kO_bd hV l (by omega)]
      exact h.lt i hi
    · rw [bd_length] at hi
      rw [at2_bd hL hi (h.lt i hi)]
      split
      · rename_i hu
        rw [if_pos (hp i hu)]
        exact h.ok i hi
      · exact h.ok i hi
theorem cost_bd {m : List (List Int)} {l : List Nat} (hL : LOK m l) {a : List Nat} (h : Asg m a) (hp : Pre l a) : costN (bd m l) a = costN m a := by
  unfold costN
  rw [bd_length]
  refine sumN_congr fun i hi => ?_
  rw [at2_bd hL hi (h.lt i hi)]
  split
  · rename_i hu
    rw [if_pos (hp i hu)]
  · rfl

/-! ### The state: the first rows are bound to the columns of l -/
structure StA (m : List (List Int)) (z : Int) (l : List Nat) : Prop where
  ok : LOK m l
  ex : ∃ a, Asg m a ∧ costN m a = z ∧ Pre l a
  lex : ∀ b, Asg m b → costN m b = z → Pre l b ∨ ∃ u, u < l.length ∧ (∀ t, t < u → gn l t = gn b t) ∧ gn l u < gn b u
def NoA (m : List (List Int)) (z : Int) (l : List Nat) (c : Nat) : Prop := ¬ ∃ a, Asg m a ∧ costN m a = z ∧ Pre l a ∧ gn a l.length = c
theorem StA.begin {m : List (List Int)} {z : Int} (h : ∃ a, Asg m a ∧ costN m a = z) : StA m z [] := by
  obtain ⟨a, h1, h2⟩ := h
  exact ⟨⟨Nat.zero_le _, fun u hu => by simp at hu, fun u hu => by simp at hu⟩, ⟨a, h1, h2, fun u hu => by simp at hu⟩, fun b _ _ => Or.inl fun u hu => by simp at hu⟩
theorem pre_snoc {l a : List Nat} {c : Nat} : Pre (l ++ [c]) a ↔ Pre l a ∧ gn a l.length = c := by
  constructor
  · intro h
    refine ⟨fun u hu => ?_, ?_⟩
    · have := h u (by simp; omega)
      rwa [gn_app, if_pos hu] at this
    · have := h l.length (by simp)
      rwa [gn_app, if_neg (by omega), if_pos rfl] at this
  · intro ⟨h1, h2⟩ u hu
    rw [gn_app]
    by_cases e : u < l.length
    · rw [if_pos e]; exact h1 u e
    · simp at hu
      have e2 : u = l.length := by omega
      rw [if_neg e, if_pos e2, e2]; exact h2
theorem LOK.snoc {m : List (List Int)} {l : List Nat} {c : Nat} (h : LOK m l) (hl : l.length < m.length) (hc : c < kO m) (hp : 0 ≤ at2 m l.length c) : LOK m (l ++ [c]) := by
  refine ⟨by simp; omega, fun u hu => ?_, fun u hu => ?_⟩
  · rw [gn_app]
    by_cases e : u < l.length
    · rw [if_pos e]; exact h.lt u e
    · simp at hu
      rw [if_neg e, if_pos (by omega)]; exact hc
  · rw [gn_app]
    by_cases e : u < l.length
    · rw [if_pos e]; exact h.ok u e
    · simp at hu
      have e2 : u = l.length := by omega
      rw [if_neg e, if_pos e2, e2]; exact hp
/-- The column is kept. -/
theorem StA.next {m : List (List Int)} (hV : vA m) {z : Int} {l : List Nat} {c : Nat} (h : StA m z l) (hz : z < (1099511627776 : Int)) (hl : l.length < m.length) (hc : c < kO m) (hp : 0 ≤ at2 m l.length c)
    (hno : ∀ c', c' < c → NoA m z l c') (hL : LeastV (bd m (l ++ [c])) z) : StA m z (l ++ [c]) := by
  have hok := h.ok.snoc hl hc hp
  obtain ⟨_, ⟨a, h1, h2⟩, _⟩ | ⟨h1, _⟩ := hL
  · obtain ⟨h3, h4⟩ := (asg_bd hV hok).1 h1
    rw [cost_bd hok h3 h4] at h2
    refine ⟨hok, ⟨a, h3, h2, h4⟩, fun b hb hbz => ?_⟩
    rcases h.lex b hb hbz with g | ⟨u, g1, g2, g3⟩
    · by_cases e : gn b l.length = c
      · exact Or.inl (pre_snoc.2 ⟨g, e⟩)
      · have : ¬ gn b l.length < c := fun hlt => hno _ hlt ⟨b, hb, hbz, g, rfl⟩
        refine Or.inr ⟨l.length, by simp, fun t ht => ?_, ?_⟩
        · rw [gn_app, if_pos ht]; exact (g t ht).symm
        · rw [gn_app, if_neg (by omega), if_pos rfl]; omega
    · refine Or.inr ⟨u, by simp; omega, fun t ht => ?_, ?_⟩
      · rw [gn_app, if_pos (by omega)]; exact g2 t ht
      · rw [gn_app, if_pos g1]; exact g3
  · omega
/-- The column does not keep the least cost. -/
theorem NoA.other {m : List (List Int)} (hV : vA m) {z z' : Int} {l : List Nat} {c : Nat} (hL0 : LOK m l) (hmin : ∀ b, Asg m b → z ≤ costN m b) (hl : l.length < m.length) (hc : c < kO m) (hp : 0 ≤ at2 m l.length c)
    (hL : LeastV (bd m (l ++ [c])) z') (hne : z' ≠ z) : NoA m z l c := by
  have hok := hL0.snoc hl hc hp
  rintro ⟨a, h1, h2, h3, h4⟩
  have hpre := pre_snoc.2 ⟨h3, h4⟩
  have hA := (asg_bd hV hok).2 ⟨h1, hpre⟩
  obtain ⟨_, ⟨b, g1, g2⟩, g3⟩ | ⟨_, g⟩ := hL
  · have e1 := g3 a hA
    rw [cost_bd hok h1 hpre, h2] at e1
    obtain ⟨g4, g5⟩ := (asg_bd hV hok).1 g1
    rw [cost_bd hok g4 g5] at g2
    have := hmin b g4
    omega
  · exact g a hA
theorem NoA.neg {m : List (List Int)} {z : Int} {l : List Nat} {c : Nat} (hl : l.length < m.length) (hn : at2 m l.length c < 0) : NoA m z l c := by
  rintro ⟨a, h1, _, _, h4⟩
  have := h1.ok l.length hl
  rw [h4] at this
  omega
theorem NoA.used {m : List (List Int)} {z : Int} {l : List Nat} {c : Nat} (hl : l.length < m.length) (hc : c ∈ l) : NoA m z l c := by
  rintro ⟨a, h1, _, h3, h4⟩
  obtain ⟨u, hu, e⟩ := List.getElem_of_mem hc
  have e2 : gn l u = c := by unfold gn; simp [hu, e]
  have := h1.nd u l.length (by omega) hl (by rw [h3 u hu, e2, h4])
  omega
/-- One of the columns keeps it. -/
theorem StA.some {m : List (List Int)} {z : Int} {l : List Nat} (h : StA m z l) (hl : l.length < m.length) (hno : ∀ c', c' < kO m → NoA m z l c') : False := by
  obtain ⟨a, h1, h2, h3⟩ := h.ex
  exact hno _ (h1.lt l.length hl) ⟨a, h1, h2, h3, rfl⟩
theorem StA.done {m : List (List Int)} {z : Int} {l : List Nat} (h : StA m z l) (hl : l.length = m.length) (hmin : ∀ b, Asg m b → z ≤ costN m b) : BestA m l ∧ costN m l = z := by
  obtain ⟨a, h1, h2, h3⟩ := h.ex
  have e : a = l := gn_ext (by rw [h1.l, hl]) fun i hi => h3 i (by rw [h1.l] at hi; omega)
  subst e
  refine ⟨⟨h1, fun b hb => by rw [h2]; exact hmin b hb, fun b hb hbz => ?_⟩, h2⟩
  rcases h.lex b hb (by omega) with g | ⟨u, g1, g2, g3⟩
  · exact Or.inl (gn_ext (by rw [hb.l, hl]) fun i hi => g i (by rw [hb.l] at hi; omega))
  · exact Or.inr ⟨u, by omega, g2, g3⟩

theorem bd_set_self {m : List (List Int)} {l : List Nat} (hl : l.length < m.length) : (bd m l).set l.length (rowOf m l.length) = bd m l := by
  have h := rowOf_bd m l hl
  rw [if_neg (by omega), rowOf_eq _ (by rw [bd_length]; exact hl)] at h
  rw [← h]
  exact List.set_getElem_self _
theorem bd_set_next {m : List (List Int)} {l : List Nat} (hl : l.length < m.length) (c : Nat) : (bd m l).set l.length (onlyR (kO m) c (at2 m l.length c)) = bd m (l ++ [c]) := by
  apply List.ext_getElem (by rw [List.length_set, bd_length, bd_length])
  intro u h1 h2
  rw [List.length_set, bd_length] at h1
  rw [← rowOf_eq _ h2, rowOf_bd _ _ h1, List.getElem_set]
  by_cases e : l.length = u
  · subst e
    rw [if_pos rfl, if_pos (by simp), gn_app, if_neg (by omega), if_pos rfl]
  · rw [if_neg e, ← rowOf_eq _ (by rw [bd_length]; exact h1), rowOf_bd _ _ h1]
    by_cases g : u < l.length
    · rw [if_pos g, if_pos (by simp; omega), gn_app, if_pos g]
    · rw [if_neg g, if_neg (by simp; omega)]
end Go.Proofs.Ytdenjldadlgniaa
