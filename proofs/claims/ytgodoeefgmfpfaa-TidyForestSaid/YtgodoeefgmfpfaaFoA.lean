/- Breadth first search over arcs, plain. -/
import Derived.Test.YtgodoeefgmfpfaaOwnR
set_option linter.unusedSimpArgs false
set_option linter.unusedVariables false
namespace Go.Proofs.Ytgodoeefgmfpfaa

def pr (E : List (Int × Int)) (i : Nat) : Int × Int := E.getD i (0, 0)
theorem pr_eq (E : List (Int × Int)) {i : Nat} (h : i < E.length) : pr E i = E[i] := by simp [pr, h]
def aF (E : List (Int × Int)) (i : Nat) : Nat := (pr E i).1.toNat
def aT (E : List (Int × Int)) (i : Nat) : Nat := (pr E i).2.toNat
/-- A valid digraph. -/
structure vD (N : Int) (E : List (Int × Int)) : Prop where
  n0 : 0 ≤ N
  n1 : N ≤ 64
  m : E.length ≤ 256
  a : ∀ i, i < E.length → (0 ≤ (pr E i).1 ∧ (pr E i).1 < N) ∧ (0 ≤ (pr E i).2 ∧ (pr E i).2 < N)
/-- The order in which vertices are found, their parents, and the number of roots. -/
structure BS where
  O : List Nat
  par : List Int
  roots : Nat
def visit (c : Nat) (S : BS) (u : Nat) : BS := if u ∈ S.O then S else ⟨S.O ++ [u], S.par.set u (c : Int), S.roots⟩
def visits (c : Nat) (S : BS) (ws : List Nat) : BS := ws.foldl (visit c) S
def nearI (E : List (Int × Int)) (c i : Nat) : List Nat := (if aF E i = c then [aT E i] else []) ++ (if aT E i = c then [aF E i] else [])
def near (E : List (Int × Int)) (c k : Nat) : List Nat := (List.range k).flatMap (nearI E c)
theorem near_succ (E : List (Int × Int)) (c k : Nat) : near E c (k + 1) = near E c k ++ nearI E c k := by
  unfold near
  rw [List.range_succ, List.flatMap_append]
  simp
theorem visits_app (c : Nat) (S : BS) (a b : List Nat) : visits c S (a ++ b) = visits c (visits c S a) b := by
  unfold visits
  rw [List.foldl_append]
def least (N : Nat) (O : List Nat) : Nat := ((List.range N).find? fun v => decide (v ∉ O)).getD 0
theorem least_eq {N : Nat} {O : List Nat} {v : Nat} (hv : v < N) (h1 : v ∉ O) (h2 : ∀ u, u < v → u ∈ O) : least N O = v := by
  unfold least
  have : (List.range N).find? (fun v => decide (v ∉ O)) = some v := by
    rw [List.find?_range_eq_some]
    refine ⟨by simpa using h1, by simpa using hv, fun u hu => ?_⟩
    simpa using h2 u hu
  rw [this]
  rfl
def pre (N t : Nat) (S : BS) : BS := if t < S.O.length then S else ⟨S.O ++ [least N S.O], S.par, S.roots + 1⟩
def oc (S : BS) (t : Nat) : Nat := S.O.getD t 0
def step (E : List (Int × Int)) (N t : Nat) (S : BS) : BS := visits (oc (pre N t S) t) (pre N t S) (near E (oc (pre N t S) t) E.length)
def B (E : List (Int × Int)) (N : Nat) : Nat → BS
  | 0 => ⟨[], List.replicate N (-1), 0⟩
  | t + 1 => step E N t (B E N t)

/-! ### What visits keep -/
theorem visit_O (c : Nat) (S : BS) (u : Nat) : ∃ l, (visit c S u).O = S.O ++ l := by
  unfold visit
  split
  · exact ⟨[], by simp⟩
  · exact ⟨[u], rfl⟩
theorem visits_O (c : Nat) : ∀ (ws : List Nat) (S : BS), ∃ l, (visits c S ws).O = S.O ++ l
  | [], S => ⟨[], by simp [visits]⟩
  | u :: ws, S => by
    obtain ⟨l, h1⟩ := visit_O c S u
    obtain ⟨k, h2⟩ := visits_O c ws (visit c S u)
    exact ⟨l ++ k, by show (visits c (visit c S u) ws).O = _; rw [h2, h1, List.append_assoc]⟩
theorem oc_app {S : BS} {l : List Nat} {S' : BS} (h : S'.O = S.O ++ l) {t : Nat} (ht : t < S.O.length) : oc S' t = oc S t := by
  unfold oc
  rw [h, List.getD_eq_getElem?_getD, List.getD_eq_getElem?_getD, List.getElem?_append_left ht]
theorem oc_mem {S : BS} {t : Nat} (ht : t < S.O.length) : oc S t ∈ S.O := by
  unfold oc
  rw [List.getD_eq_getElem?_getD, List.getElem?_eq_getElem ht]
  exact List.getElem_mem ht
/-- The state is sound. -/
structure Sd (N : Nat) (S : BS) : Prop where
  nd : S.O.Nodup
  lt : ∀ u ∈ S.O, u < N
  pl : S.par.length = N
  pb : ∀ u, u < N → -1 ≤ ge S.par u ∧ ge S.par u < N
  un : ∀ u, u < N → u ∉ S.O → ge S.par u = -1
  rt : S.roots ≤ S.O.length
theorem Sd.len {N : Nat} {S : BS} (h : Sd N S) : S.O.length ≤ N := nodup_below N h.nd h.lt
theorem Sd.visit {N : Nat} {S : BS} (h : Sd N S) {c u : Nat} (hc : c < N) (hu : u < N) : Sd N (visit c S u) := by
  unfold Proofs.Ytgodoeefgmfpfaa.visit
  split
  · exact h
  · rename_i hn
    refine ⟨List.nodup_append.2 ⟨h.nd, by simp, fun a ha b hb e => ?_⟩, fun x hx => ?_, by rw [List.length_set]; exact h.pl, fun x hx => ?_, fun x hx hxn => ?_, by have := h.rt; simp; omega⟩
    · simp at hb
      subst hb
      subst e
      exact hn ha
    · rcases List.mem_append.1 hx with e | e
      · exact h.lt x e
      · simp at e
        subst e
        exact hu
    · rw [ge_set _ (by rw [h.pl]; exact hu)]
      split
      · omega
      · exact h.pb x hx
    · rw [ge_set _ (by rw [h.pl]; exact hu), if_neg (fun e => hxn (by subst e; simp))]
      exact h.un x hx (fun hm => hxn (List.mem_append_left _ hm))
theorem Sd.visits {N : Nat} {c : Nat} (hc : c < N) : ∀ (ws : List Nat) {S : BS}, Sd N S → (∀ u ∈ ws, u < N) → Sd N (visits c S ws)
  | [], S, h, _ => h
  | u :: ws, S, h, hw => Sd.visits hc ws (h.visit hc (hw u List.mem_cons_self)) (fun x hx => hw x (List.mem_cons_of_mem _ hx))
theorem nearI_mem {E : List (Int × Int)} {c i u : Nat} (h : u ∈ nearI E c i) : (aF E i = c ∧ u = aT E i) ∨ (aT E i = c ∧ u = aF E i) := by
  unfold nearI at h
  rcases List.mem_append.1 h with e | e
  · split at e
    · rename_i g; simp at e; exact Or.inl ⟨g, e⟩
    · simp at e
  · split at e
    · rename_i g; simp at e; exact Or.inr ⟨g, e⟩
    · simp at e
theorem vD.aF {N : Int} {E : List (Int × Int)} (h : vD N E) {i : Nat} (hi : i < E.length) : aF E i < N.toNat ∧ (pr E i).1 = (aF E i : Int) := by
  have := (h.a i hi).1
  unfold Proofs.Ytgodoeefgmfpfaa.aF
  omega
theorem vD.aT {N : Int} {E : List (Int × Int)} (h : vD N E) {i : Nat} (hi : i < E.length) : aT E i < N.toNat ∧ (pr E i).2 = (aT E i : Int) := by
  have := (h.a i hi).2
  unfold Proofs.Ytgodoeefgmfpfaa.aT
  omega
theorem near_mem {E : List (Int × Int)} {c k u : Nat} (h : u ∈ near E c k) : ∃ i, i < k ∧ u ∈ nearI E c i := by
  unfold near at h
  rw [List.mem_flatMap] at h
  obtain ⟨i, h1, h2⟩ := h
  exact ⟨i, by simpa using h1, h2⟩
theorem near_lt {N : Int} {E : List (Int × Int)} (hV : vD N E) {c k u : Nat} (hk : k ≤ E.length) (h : u ∈ near E c k) : u < N.toNat := by
  obtain ⟨i, h1, h2⟩ := near_mem h
  rcases nearI_mem h2 with ⟨_, e⟩ | ⟨_, e⟩
  · rw [e]; exact (hV.aT (by omega)).1
  · rw [e]; exact (hV.aF (by omega)).1
theorem exists_out {N : Nat} {O : List Nat} (hl : O.length < N) : ∃ v, v < N ∧ v ∉ O ∧ ∀ u, u < v → u ∈ O := by
  have h1 : ∃ v, v < N ∧ v ∉ O := by
    refine Classical.byContradiction fun h => ?_
    have hs : ∀ v, v ∈ List.range N → v ∈ O := fun v hv => Classical.byContradiction fun hn => h ⟨v, by simpa using hv, hn⟩
    have := (List.nodup_range (n := N)).length_le_of_subset hs
    simp at this
    omega
  obtain ⟨v, hv, hn⟩ := h1
  induction v using Nat.strongRecOn with
  | ind v ih =>
    by_cases h : ∃ u, u < v ∧ u ∉ O
    · obtain ⟨u, h1, h2⟩ := h
      exact ih u h1 (by omega) h2
    · exact ⟨v, hv, hn, fun u hu => Classical.byContradiction fun hh => h ⟨u, hu, hh⟩⟩
theorem Sd.pre {N t : Nat} {S : BS} (h : Sd N S) (ht : t < N) : Sd N (pre N t S) := by
  unfold Proofs.Ytgodoeefgmfpfaa.pre
  split
  · exact h
  · obtain ⟨v, h1, h2, h3⟩ := exists_out (N := N) (O := S.O) (by omega)
    rw [least_eq h1 h2 h3]
    refine ⟨List.nodup_append.2 ⟨h.nd, by simp, fun a ha b hb e => ?_⟩, fun x hx => ?_, h.pl, h.pb, fun x hx hxn => h.un x hx (fun hm => hxn (List.mem_append_left _ hm)), by have := h.rt; simp; omega⟩
    · simp at hb
      subst hb
      subst e
      exact h2 ha
    · rcases List.mem_append.1 hx with e | e
      · exact h.lt x e
      · simp at e
        subst e
        exact h1
theorem pre_len {N t : Nat} {S : BS} (h : t ≤ S.O.length) : t < (pre N t S).O.length := by
  unfold pre
  split
  · assumption
  · simp; omega
theorem pre_idem {N t : Nat} {S : BS} (h : t ≤ S.O.length) : pre N t (pre N t S) = pre N t S := by
  have := pre_len (N := N) h
  generalize pre N t S = S' at this
  unfold pre
  rw [if_pos this]
theorem B_sd {N : Int} {E : List (Int × Int)} (hV : vD N E) : ∀ t, t ≤ N.toNat → Sd N.toNat (B E N.toNat t) ∧ t ≤ (B E N.toNat t).O.length
  | 0, _ => ⟨⟨by simp [B], fun u hu => by simp [B] at hu, by simp [B], fun u hu => by
      have : ge (List.replicate N.toNat (-1)) u = -1 := by rw [ge_eq _ (by simpa using hu)]; simp
      show -1 ≤ ge (List.replicate N.toNat (-1)) u ∧ ge (List.replicate N.toNat (-1)) u < _
      rw [this]
      omega, fun u hu _ => by
      show ge (List.replicate N.toNat (-1)) u = -1
      rw [ge_eq _ (by simpa using hu)]
      simp, Nat.zero_le _⟩, Nat.zero_le _⟩
  | t + 1, ht => by
    obtain ⟨h1, h2⟩ := B_sd hV t (by omega)
    have h3 := h1.pre (t := t) (by omega)
    have h4 := pre_len (N := N.toNat) h2
    have h5 := h3.lt _ (oc_mem h4)
    refine ⟨h3.visits h5 _ fun u hu => near_lt hV (Nat.le_refl _) hu, ?_⟩
    obtain ⟨l, hl⟩ := visits_O (oc (pre N.toNat t (B E N.toNat t)) t) (near E (oc (pre N.toNat t (B E N.toNat t)) t) E.length) (pre N.toNat t (B E N.toNat t))
    show t + 1 ≤ (visits _ _ _).O.length
    rw [hl, List.length_append]
    omega

/-! ### More arcs than a forest has -/
structure FExt (E : List (Int × Int)) (i0 : Nat) (T : List Nat) (S : BS) : Prop where
  nd : T.Nodup
  en : ∀ i ∈ T, i < E.length ∧ aF E i ∈ S.O ∧ aT E i ∈ S.O
  ct : T.length + S.roots = S.O.length
  li : i0 < E.length
  n0 : i0 ∉ T
  e0 : aF E i0 ∈ S.O ∧ aT E i0 ∈ S.O
theorem FExt.visit {E : List (Int × Int)} {i0 c u i : Nat} {T : List Nat} {S : BS} (h : FExt E i0 T S) (hc : c ∈ S.O) (hi : i < E.length) (hu : u ∈ nearI E c i) : ∃ T', FExt E i0 T' (visit c S u) := by
  unfold Proofs.Ytgodoeefgmfpfaa.visit
  split
  · exact ⟨T, h⟩
  · rename_i hn
    have hend : (aF E i = u ∧ aT E i = c) ∨ (aT E i = u ∧ aF E i = c) := by
      rcases nearI_mem hu with ⟨e1, e2⟩ | ⟨e1, e2⟩
      · exact Or.inr ⟨e2.symm, e1⟩
      · exact Or.inl ⟨e2.symm, e1⟩
    have hnT : i ∉ T := fun hm => by
      obtain ⟨_, g1, g2⟩ := h.en i hm
      rcases hend with ⟨e, _⟩ | ⟨e, _⟩
      · rw [e] at g1; exact hn g1
      · rw [e] at g2; exact hn g2
    have hne : i0 ≠ i := fun e => by
      obtain ⟨g1, g2⟩ := h.e0
      rw [e] at g1 g2
      rcases hend with ⟨e, _⟩ | ⟨e, _⟩
      · rw [e] at g1; exact hn g1
      · rw [e] at g2; exact hn g2
    refine ⟨i :: T, List.nodup_cons.2 ⟨hnT, h.nd⟩, fun j hj => ?_, ?_, h.li, fun hm => ?_, List.mem_append_left _ h.e0.1, List.mem_append_left _ h.e0.2⟩
    · rcases List.mem_cons.1 hj with e | e
      · subst e
        refine ⟨hi, ?_⟩
        rcases hend with ⟨e1, e2⟩ | ⟨e1, e2⟩
        · rw [e1, e2]; exact ⟨by simp, List.mem_append_left _ hc⟩
        · rw [e1, e2]; exact ⟨List.mem_append_left _ hc, by simp⟩
      · obtain ⟨g0, g1, g2⟩ := h.en j e
        exact ⟨g0, List.mem_append_left _ g1, List.mem_append_left _ g2⟩
    · have := h.ct
      simp
      omega
    · rcases List.mem_cons.1 hm with e | e
      · exact hne e
      · exact h.n0 e
theorem FExt.visits {E : List (Int × Int)} {i0 c : Nat} : ∀ (ws : List Nat) {T : List Nat} {S : BS}, FExt E i0 T S → c ∈ S.O → (∀ u ∈ ws, ∃ i, i < E.length ∧ u ∈ nearI E c i) → ∃ T', FExt E i0 T' (visits c S ws)
  | [], T, S, h, _, _ => ⟨T, h⟩
  | u :: ws, T, S, h, hc, hw => by
    obtain ⟨i, h1, h2⟩ := hw u List.mem_cons_self
    obtain ⟨T', h'⟩ := h.visit hc h1 h2
    obtain ⟨l, hl⟩ := visit_O c S u
    exact FExt.visits ws h' (by rw [hl]; exact List.mem_append_left _ hc) (fun x hx => hw x (List.mem_cons_of_mem _ hx))
theorem FExt.pre {E : List (Int × Int)} {i0 N t : Nat} {T : List Nat} {S : BS} (h : FExt E i0 T S) : FExt E i0 T (pre N t S) := by
  unfold Proofs.Ytgodoeefgmfpfaa.pre
  split
  · exact h
  · refine ⟨h.nd, fun j hj => ?_, ?_, h.li, h.n0, List.mem_append_left _ h.e0.1, List.mem_append_left _ h.e0.2⟩
    · obtain ⟨g0, g1, g2⟩ := h.en j hj
      exact ⟨g0, List.mem_append_left _ g1, List.mem_append_left _ g2⟩
    · have := h.ct
      simp
      omega
theorem FExt.B {E : List (Int × Int)} {i0 N t : Nat} (h : ∃ T, FExt E i0 T (B E N t)) (ht : t ≤ (Proofs.Ytgodoeefgmfpfaa.B E N t).O.length) : ∃ T, FExt E i0 T (Proofs.Ytgodoeefgmfpfaa.B E N (t + 1)) := by
  obtain ⟨T, h⟩ := h
  exact (h.pre (N := N) (t := t)).visits _ (oc_mem (pre_len ht)) fun u hu => near_mem hu
theorem FExt.to {N : Int} {E : List (Int × Int)} (hV : vD N E) {i0 : Nat} : ∀ (d t : Nat), t + d = N.toNat → (∃ T, FExt E i0 T (Proofs.Ytgodoeefgmfpfaa.B E N.toNat t)) → ∃ T, FExt E i0 T (Proofs.Ytgodoeefgmfpfaa.B E N.toNat N.toNat)
  | 0, t, e, h => by have : t = N.toNat := by omega
                     subst this
                     exact h
  | d + 1, t, e, h => FExt.to hV d (t + 1) (by omega) (FExt.B h (B_sd hV t (by omega)).2)
theorem B_len {N : Int} {E : List (Int × Int)} (hV : vD N E) : (B E N.toNat N.toNat).O.length = N.toNat := by
  obtain ⟨h1, h2⟩ := B_sd hV N.toNat (Nat.le_refl _)
  have := h1.len
  omega
theorem FExt.no {N : Int} {E : List (Int × Int)} (hV : vD N E) {i0 : Nat} (h : ∃ T, FExt E i0 T (Proofs.Ytgodoeefgmfpfaa.B E N.toNat N.toNat)) : ¬ E.length + (Proofs.Ytgodoeefgmfpfaa.B E N.toNat N.toNat).roots = N.toNat := by
  obtain ⟨T, h⟩ := h
  have h1 := h.ct
  rw [B_len hV] at h1
  have h2 := nodup_below E.length (List.nodup_cons.2 ⟨h.n0, h.nd⟩) (fun u hu => by
    rcases List.mem_cons.1 hu with e | e
    · rw [e]; exact h.li
    · exact (h.en u e).1)
  simp at h2
  omega
theorem toNat_n (n : Nat) : ((n : Int)).toNat = n := Int.toNat_natCast n
theorem Bn_sd {n : Nat} {E : List (Int × Int)} (hV : vD (n : Int) E) {t : Nat} (ht : t ≤ n) : Sd n (B E n t) ∧ t ≤ (B E n t).O.length := by
  have := B_sd hV t (by rw [toNat_n]; exact ht)
  rwa [toNat_n] at this
theorem Bn_len {n : Nat} {E : List (Int × Int)} (hV : vD (n : Int) E) : (B E n n).O.length = n := by
  have := B_len hV
  rwa [toNat_n] at this
theorem pre_at {n t v : Nat} {S : BS} (ht : t = S.O.length) (hv : v < n) (h1 : v ∉ S.O) (h2 : ∀ u, u < v → u ∈ S.O) : pre n t S = ⟨S.O ++ [v], S.par, S.roots + 1⟩ := by
  unfold pre
  rw [if_neg (by omega), least_eq hv h1 h2]
theorem pre_same {n t : Nat} {S : BS} (ht : t < S.O.length) : pre n t S = S := by
  unfold pre
  rw [if_pos ht]
/-- A state at the head of a tree's loop. -/
structure Hd (E : List (Int × Int)) (n t : Nat) (S : BS) : Prop where
  tn : t ≤ n
  sd : Sd n S
  tl : t ≤ S.O.length
  eq : S = B E n t ∨ S = pre n t (B E n t)
theorem Hd.go {E : List (Int × Int)} {n t : Nat} {S : BS} (h : Hd E n t S) (ht : t < S.O.length) : S = pre n t (B E n t) := by
  rcases h.eq with e | e
  · rw [← e, pre_same ht]
  · exact e
theorem Hd.stop {E : List (Int × Int)} {n t : Nat} {S : BS} (hV : vD (n : Int) E) (h : Hd E n t S) (ht : ¬ t < S.O.length) : S = B E n t := by
  rcases h.eq with e | e
  · exact e
  · have := pre_len (N := n) (Bn_sd hV h.tn).2
    rw [← e] at this
    exact absurd this ht
theorem Hd.next {E : List (Int × Int)} {n t : Nat} {S : BS} (hV : vD (n : Int) E) (h : Hd E n t S) (ht : t < S.O.length) : visits (oc S t) S (near E (oc S t) E.length) = B E n (t + 1) ∧ Hd E n (t + 1) (B E n (t + 1)) := by
  have h1 := h.sd.len
  have h2 := Bn_sd hV (t := t + 1) (by omega)
  refine ⟨?_, by omega, h2.1, h2.2, Or.inl rfl⟩
  have e := h.go ht
  show _ = step E n t (B E n t)
  unfold step
  rw [← e]
theorem Hd.root {E : List (Int × Int)} {n t v : Nat} (hV : vD (n : Int) E) (htn : t ≤ n) (ht : t = (B E n t).O.length) (hv : v < n) (h1 : v ∉ (B E n t).O) (h2 : ∀ u, u < v → u ∈ (B E n t).O) :
    Hd E n t ⟨(B E n t).O ++ [v], (B E n t).par, (B E n t).roots + 1⟩ := by
  have e := pre_at ht hv h1 h2
  have htn : t < n := by
    have htn := htn
    refine Nat.lt_of_not_le fun hle => ?_
    have hb : n ≤ (B E n t).O.length := by omega
    have hs : Sd n (B E n t) := (Bn_sd hV htn).1
    have := nodup_below n (List.nodup_cons.2 ⟨h1, hs.nd⟩) (fun x hx => by
      rcases List.mem_cons.1 hx with g | g
      · rw [g]; exact hv
      · exact hs.lt x g)
    simp at this
    omega
  have hs := (Bn_sd hV (Nat.le_of_lt htn)).1.pre (t := t) htn
  rw [e] at hs
  exact ⟨Nat.le_of_lt htn, hs, by simp; omega, Or.inr e.symm⟩
end Go.Proofs.Ytgodoeefgmfpfaa
