/- The reference's search, plain: the arcs that have been followed. -/
import Derived.Test.YtgodoeefgmfpfaaFoA
set_option linter.unusedSimpArgs false
set_option linter.unusedVariables false
namespace Go.Proofs.Ytgodoeefgmfpfaa

def usedL (U : List Bool) (m : Nat) : List Nat := (List.range m).filter (gb U)
theorem usedL_set {U : List Bool} {m i : Nat} (hU : U.length = m) (hi : i < m) (h : gb U i = false) : (usedL (U.set i true) m).length = (usedL U m).length + 1 := by
  have key : ∀ k, k ≤ m → (usedL (U.set i true) k).length = (usedL U k).length + (if i < k then 1 else 0) := by
    intro k
    induction k with
    | zero => intro _; simp [usedL]
    | succ k ih =>
      intro hk
      have ih := ih (by omega)
      unfold usedL at ih ⊢
      rw [List.range_succ, List.filter_append, List.filter_append, List.length_append, List.length_append, ih]
      have e := gb_set U (i := i) (by omega) true k
      by_cases ek : k = i
      · subst ek
        rw [if_pos rfl] at e
        simp [e, h]
      · rw [if_neg ek] at e
        simp only [List.filter_cons, List.filter_nil, e]
        by_cases hik : i < k
        · rw [if_pos hik, if_pos (show i < k + 1 by omega)]; omega
        · rw [if_neg hik, if_neg (show ¬ i < k + 1 by omega)]; omega
  have := key m (Nat.le_refl _)
  rw [if_pos hi] at this
  exact this
/-- The reference's state: vertex number t is being processed, the arcs below i have been looked at. -/
structure Rf (E : List (Int × Int)) (S : BS) (t i : Nat) (U : List Bool) : Prop where
  ul : U.length = E.length
  cn : (usedL U E.length).length + S.roots = S.O.length
  en : ∀ j, j < E.length → gb U j = true → aF E j ∈ S.O ∧ aT E j ∈ S.O
  dn : ∀ j, j < E.length → ∀ x, (x < t ∨ (x = t ∧ j < i)) → x < S.O.length → (aF E j = oc S x ∨ aT E j = oc S x) → gb U j = true
theorem Rf.begin (E : List (Int × Int)) (N : Nat) : Rf E (B E N 0) 0 0 (List.replicate E.length false) := by
  have h : ∀ j, gb (List.replicate E.length false) j = false := fun j => by
    unfold gb
    rw [List.getD_eq_getElem?_getD, List.getElem?_replicate]
    split <;> rfl
  refine ⟨by simp, ?_, fun j _ hj => (by rw [h] at hj; cases hj), fun j _ x hx => (by omega)⟩
  have : usedL (List.replicate E.length false) E.length = [] := by
    unfold usedL
    rw [List.filter_eq_nil_iff]
    intro j _
    rw [h]
    simp
  rw [this]
  rfl
theorem visits_in {c : Nat} {S : BS} : ∀ {ws : List Nat}, (∀ u ∈ ws, u ∈ S.O) → visits c S ws = S
  | [], _ => rfl
  | u :: ws, h => by
    show visits c (visit c S u) ws = S
    have : visit c S u = S := by unfold visit; rw [if_pos (h u List.mem_cons_self)]
    rw [this]
    exact visits_in fun x hx => h x (List.mem_cons_of_mem _ hx)
theorem Rf.skip {E : List (Int × Int)} {S : BS} {t i : Nat} {U : List Bool} (h : Rf E S t i U) (hi : i < E.length) (hs : gb U i = true ∨ (aF E i ≠ oc S t ∧ aT E i ≠ oc S t)) : visits (oc S t) S (nearI E (oc S t) i) = S ∧ Rf E S t (i + 1) U := by
  refine ⟨visits_in fun u hu => ?_, h.ul, h.cn, h.en, fun j hj x hx hl he => ?_⟩
  · rcases hs with g | ⟨g1, g2⟩
    · obtain ⟨e1, e2⟩ := h.en i hi g
      rcases nearI_mem hu with ⟨_, e⟩ | ⟨_, e⟩
      · rw [e]; exact e2
      · rw [e]; exact e1
    · rcases nearI_mem hu with ⟨e, _⟩ | ⟨e, _⟩
      · exact absurd e g1
      · exact absurd e g2
  · by_cases e : x = t ∧ j = i
    · obtain ⟨rfl, rfl⟩ := e
      rcases hs with g | ⟨g1, g2⟩
      · exact g
      · rcases he with e | e
        · exact absurd e g1
        · exact absurd e g2
    · exact h.dn j hj x (by omega) hl he
theorem Rf.err {E : List (Int × Int)} {S : BS} {t i : Nat} {U : List Bool} (h : Rf E S t i U) (hi : i < E.length) (hu : gb U i = false) (h1 : aF E i ∈ S.O) (h2 : aT E i ∈ S.O) : ∃ T, FExt E i T S :=
  ⟨usedL U E.length, List.Nodup.sublist List.filter_sublist List.nodup_range, fun j hj => by
    unfold usedL at hj
    rw [List.mem_filter] at hj
    have hl : j < E.length := by simpa using hj.1
    exact ⟨hl, h.en j hl hj.2⟩, h.cn, hi, fun hm => (by
    unfold usedL at hm
    rw [List.mem_filter, hu] at hm
    cases hm.2), h1, h2⟩
theorem Rf.use {E : List (Int × Int)} {S : BS} {t i o : Nat} {U : List Bool} (h : Rf E S t i U) (hi : i < E.length) (hu : gb U i = false) (ht : t < S.O.length) (ho : (aF E i = oc S t ∧ o = aT E i) ∨ (aT E i = oc S t ∧ o = aF E i)) (hn : o ∉ S.O) :
    visits (oc S t) S (nearI E (oc S t) i) = ⟨S.O ++ [o], S.par.set o (oc S t : Int), S.roots⟩ ∧ Rf E ⟨S.O ++ [o], S.par.set o (oc S t : Int), S.roots⟩ t (i + 1) (U.set i true) := by
  have hc := oc_mem ht
  have hne : o ≠ oc S t := fun e => hn (by rw [e]; exact hc)
  have hnear : nearI E (oc S t) i = [o] := by
    unfold nearI
    rcases ho with ⟨e1, e2⟩ | ⟨e1, e2⟩
    · rw [if_pos e1, if_neg (fun e => hne (by rw [e2]; exact e)), e2]; rfl
    · rw [if_pos e1, if_neg (fun e => hne (by rw [e2]; exact e)), e2]; rfl
  have hoc : ∀ x, x < S.O.length → oc ⟨S.O ++ [o], S.par.set o (oc S t : Int), S.roots⟩ x = oc S x := fun x hx => oc_app rfl hx
  refine ⟨?_, by rw [List.length_set]; exact h.ul, ?_, fun j hj hg => ?_, fun j hj x hx hl he => ?_⟩
  · rw [hnear]
    show visit (oc S t) S o = _
    unfold visit
    rw [if_neg hn]
  · rw [usedL_set h.ul hi hu]
    have := h.cn
    simp
    omega
  · rw [gb_set U (by rw [h.ul]; exact hi)] at hg
    by_cases e : j = i
    · subst e
      rcases ho with ⟨e1, e2⟩ | ⟨e1, e2⟩
      · rw [e1, ← e2]; exact ⟨List.mem_append_left _ hc, by simp⟩
      · rw [e1, ← e2]; exact ⟨by simp, List.mem_append_left _ hc⟩
    · rw [if_neg e] at hg
      obtain ⟨g1, g2⟩ := h.en j hj hg
      exact ⟨List.mem_append_left _ g1, List.mem_append_left _ g2⟩
  · rw [gb_set U (by rw [h.ul]; exact hi)]
    by_cases e : j = i
    · rw [if_pos e]
    · rw [if_neg e]
      have hxl : x < S.O.length := by omega
      rw [hoc x hxl] at he
      exact h.dn j hj x (by omega) hxl he
theorem Rf.next {E : List (Int × Int)} {S : BS} {t : Nat} {U : List Bool} (h : Rf E S t E.length U) : Rf E S (t + 1) 0 U :=
  ⟨h.ul, h.cn, h.en, fun j hj x hx hl he => h.dn j hj x (by omega) hl he⟩
theorem Rf.root {E : List (Int × Int)} {S : BS} {t v : Nat} {U : List Bool} (h : Rf E S t 0 U) (ht : t = S.O.length) : Rf E ⟨S.O ++ [v], S.par, S.roots + 1⟩ t 0 U := by
  refine ⟨h.ul, ?_, fun j hj hg => ?_, fun j hj x hx hl he => ?_⟩
  · have := h.cn
    simp
    omega
  · obtain ⟨g1, g2⟩ := h.en j hj hg
    exact ⟨List.mem_append_left _ g1, List.mem_append_left _ g2⟩
  · have hxl : x < S.O.length := by omega
    have e : oc ⟨S.O ++ [v], S.par, S.roots + 1⟩ x = oc S x := oc_app rfl hxl
    rw [e] at he
    exact h.dn j hj x (by omega) hxl he
theorem Sd.all {N : Nat} {S : BS} (h : Sd N S) (hl : S.O.length = N) {u : Nat} (hu : u < N) : u ∈ S.O := by
  refine Classical.byContradiction fun hn => ?_
  have := nodup_below N (List.nodup_cons.2 ⟨hn, h.nd⟩) (fun x hx => by
    rcases List.mem_cons.1 hx with e | e
    · rw [e]; exact hu
    · exact h.lt x e)
  simp at this
  omega
theorem Rf.done {N : Int} {E : List (Int × Int)} (hV : vD N E) {S : BS} {U : List Bool} (hS : Sd N.toNat S) (hl : S.O.length = N.toNat) (h : Rf E S N.toNat 0 U) : E.length + S.roots = N.toNat := by
  have hall : ∀ j, j < E.length → gb U j = true := fun j hj => by
    have hm := hS.all hl (hV.aF hj).1
    obtain ⟨x, hx, he⟩ := List.getElem_of_mem hm
    refine h.dn j hj x (by omega) hx (Or.inl ?_)
    unfold oc
    rw [List.getD_eq_getElem?_getD, List.getElem?_eq_getElem hx, he]
    rfl
  have e : usedL U E.length = List.range E.length := by
    unfold usedL
    rw [List.filter_eq_self]
    intro j hj
    exact hall j (by simpa using hj)
  have := h.cn
  rw [e, List.length_range] at this
  omega
/-- An error in the middle of a vertex. -/
theorem FExt.near {E : List (Int × Int)} {i0 c i : Nat} {S : BS} (hc : c ∈ S.O) (h : ∃ T, FExt E i0 T (Proofs.Ytgodoeefgmfpfaa.visits c S (near E c i))) : ∀ k, i ≤ k → k ≤ E.length → ∃ T, FExt E i0 T (Proofs.Ytgodoeefgmfpfaa.visits c S (near E c k)) := by
  intro k hk hm
  induction k with
  | zero =>
    have : i = 0 := by omega
    subst this
    exact h
  | succ k ih =>
    by_cases e : i = k + 1
    · subst e; exact h
    · obtain ⟨T, h'⟩ := ih (by omega) (by omega)
      rw [near_succ, visits_app]
      obtain ⟨l, hl⟩ := visits_O c (Proofs.Ytgodoeefgmfpfaa.near E c k) S
      exact h'.visits _ (by rw [hl]; exact List.mem_append_left _ hc) fun u hu => ⟨k, by omega, hu⟩
/-- What the reference's list of parents has in common with the program's. -/
def Agr (S : BS) (out : List Int) : Prop := ∀ u ∈ S.O, ge out u = ge S.par u
theorem Agr.root {N v : Nat} {S : BS} {out : List Int} (h : Agr S out) (hS : Sd N S) (hl : out.length = N) (hv : v < N) (hn : v ∉ S.O) : Agr ⟨S.O ++ [v], S.par, S.roots + 1⟩ (out.set v (-1)) := by
  intro u hu
  show ge (out.set v (-1)) u = ge S.par u
  rw [ge_set _ (by omega)]
  by_cases e : u = v
  · rw [if_pos e, e, hS.un v hv hn]
  · rw [if_neg e]
    rcases List.mem_append.1 hu with g | g
    · exact h u g
    · simp at g; exact absurd g e
theorem Agr.use {N o c : Nat} {S : BS} {out : List Int} (h : Agr S out) (hS : Sd N S) (hl : out.length = N) (ho : o < N) : Agr ⟨S.O ++ [o], S.par.set o (c : Int), S.roots⟩ (out.set o (c : Int)) := by
  intro u hu
  show ge (out.set o (c : Int)) u = ge (S.par.set o (c : Int)) u
  rw [ge_set _ (by omega), ge_set _ (by rw [hS.pl]; exact ho)]
  by_cases e : u = o
  · rw [if_pos e, if_pos e]
  · rw [if_neg e, if_neg e]
    rcases List.mem_append.1 hu with g | g
    · exact h u g
    · simp at g; exact absurd g e
theorem Agr.done {N : Nat} {S : BS} {out : List Int} (h : Agr S out) (hS : Sd N S) (hl : out.length = N) (hn : S.O.length = N) : out = S.par := by
  refine List.ext_getElem (by rw [hl, hS.pl]) fun t h1 h2 => ?_
  have := h t (hS.all hn (by omega))
  rwa [ge_eq out h1, ge_eq _ h2] at this
end Go.Proofs.Ytgodoeefgmfpfaa
