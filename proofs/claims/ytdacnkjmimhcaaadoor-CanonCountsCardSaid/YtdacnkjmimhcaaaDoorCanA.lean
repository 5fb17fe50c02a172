/- Canonical orders, plain: one step of a contour, as the program and as the reference reckon it. -/
import Derived.Test.YtdacnkjmimhcaaaDoorTriF
import Derived.Test.YtdacnkjmimhcaaaDoorGen
set_option linter.unusedSimpArgs false
set_option linter.unusedVariables false
namespace Go.Proofs.YtdacnkjmimhcaaaDoor
open Go.RowKit

/-! ### The least and the greatest number of a list -/
def lo (I : List Int) : Int := I.foldl (fun f i => if f < 0 ∨ i < f then i else f) (-1)
def hi (I : List Int) : Int := I.foldl max (-1)
theorem lo_snoc (I : List Int) (i : Int) : lo (I ++ [i]) = if lo I < 0 ∨ i < lo I then i else lo I := by unfold lo; rw [List.foldl_append]; rfl
theorem hi_snoc (I : List Int) (i : Int) : hi (I ++ [i]) = max (hi I) i := by simp [hi, List.foldl_append]
theorem lo_fold : ∀ (I : List Int) (f : Int), 0 ≤ f → (∀ i ∈ I, 0 ≤ i) → (I.foldl (fun f i => if f < 0 ∨ i < f then i else f) f = f ∨ I.foldl (fun f i => if f < 0 ∨ i < f then i else f) f ∈ I) ∧
    I.foldl (fun f i => if f < 0 ∨ i < f then i else f) f ≤ f ∧ ∀ i ∈ I, I.foldl (fun f i => if f < 0 ∨ i < f then i else f) f ≤ i
  | [], f, _, _ => ⟨Or.inl rfl, Int.le_refl _, fun i h => by cases h⟩
  | x :: I, f, hf, hI => by
    have hx := hI x (List.mem_cons_self ..)
    rw [List.foldl_cons]
    obtain ⟨g, hg⟩ : ∃ g, (if f < 0 ∨ x < f then x else f) = g := ⟨_, rfl⟩
    rw [hg]
    have hg0 : 0 ≤ g := by rw [← hg]; split <;> omega
    have hgf : g ≤ f ∧ g ≤ x ∧ (g = f ∨ g = x) := by rw [← hg]; split <;> omega
    obtain ⟨h1, h2, h3⟩ := lo_fold I g hg0 (fun i hi => hI i (List.mem_cons_of_mem _ hi))
    refine ⟨?_, by omega, fun i hi => ?_⟩
    · rcases h1 with h1 | h1
      · rcases hgf.2.2 with e | e
        · exact Or.inl (h1.trans e)
        · right; rw [h1, e]; exact List.mem_cons_self ..
      · exact Or.inr (List.mem_cons_of_mem _ h1)
    · rcases List.mem_cons.1 hi with rfl | hi
      · omega
      · exact h3 i hi
theorem hi_fold : ∀ (I : List Int) (f : Int), (I.foldl max f = f ∨ I.foldl max f ∈ I) ∧ f ≤ I.foldl max f ∧ ∀ i ∈ I, i ≤ I.foldl max f
  | [], f => ⟨Or.inl rfl, Int.le_refl _, fun i h => by cases h⟩
  | x :: I, f => by
    rw [List.foldl_cons]
    obtain ⟨h1, h2, h3⟩ := hi_fold I (max f x)
    refine ⟨?_, by omega, fun i hi => ?_⟩
    · rcases h1 with h1 | h1
      · rcases (by omega : max f x = f ∨ max f x = x) with e | e
        · exact Or.inl (h1.trans e)
        · right; rw [h1, e]; exact List.mem_cons_self ..
      · exact Or.inr (List.mem_cons_of_mem _ h1)
    · rcases List.mem_cons.1 hi with rfl | hi
      · omega
      · exact h3 i hi
theorem lo_mem {I : List Int} (h : ∀ i ∈ I, 0 ≤ i) (h0 : I ≠ []) : lo I ∈ I ∧ ∀ i ∈ I, lo I ≤ i := by
  cases I with
  | nil => exact absurd rfl h0
  | cons x I =>
    have hx := h x (List.mem_cons_self ..)
    have e : lo (x :: I) = I.foldl (fun f i => if f < 0 ∨ i < f then i else f) x := by unfold lo; rw [List.foldl_cons, if_pos (by omega)]
    rw [e]
    obtain ⟨h1, h2, h3⟩ := lo_fold I x hx (fun i hi => h i (List.mem_cons_of_mem _ hi))
    refine ⟨?_, fun i hi => ?_⟩
    · rcases h1 with h1 | h1
      · rw [h1]; exact List.mem_cons_self ..
      · exact List.mem_cons_of_mem _ h1
    · rcases List.mem_cons.1 hi with rfl | hi
      · exact h2
      · exact h3 i hi
theorem hi_mem {I : List Int} (h : ∀ i ∈ I, 0 ≤ i) (h0 : I ≠ []) : hi I ∈ I ∧ ∀ i ∈ I, i ≤ hi I := by
  obtain ⟨h1, h2, h3⟩ := hi_fold I (-1)
  refine ⟨?_, h3⟩
  rcases h1 with h1 | h1
  · exfalso
    obtain ⟨x, hx⟩ := List.exists_mem_of_ne_nil _ h0
    have a := h x hx
    have b := h3 x hx
    omega
  · exact h1
theorem lo_range {I : List Int} {n : Int} (h : ∀ i ∈ I, 0 ≤ i ∧ i < n) (hn : 0 ≤ n) : -1 ≤ lo I ∧ lo I < n + 1 ∧ -1 ≤ hi I ∧ hi I < n + 1 := by
  by_cases h0 : I = []
  · subst h0; simp [lo, hi]; omega
  · have a := (lo_mem (fun i hi => (h i hi).1) h0).1
    have b := (hi_mem (fun i hi => (h i hi).1) h0).1
    have := h _ a
    have := h _ b
    omega
theorem lo_congr {I J : List Int} (h : ∀ i ∈ I, 0 ≤ i) (hm : ∀ i, i ∈ I ↔ i ∈ J) : lo I = lo J ∧ hi I = hi J := by
  have hJ : ∀ i ∈ J, 0 ≤ i := fun i hi => h i ((hm i).2 hi)
  by_cases h0 : I = []
  · subst h0
    have : J = [] := List.eq_nil_iff_forall_not_mem.2 (fun i hi => by have := (hm i).2 hi; cases this)
    subst this
    exact ⟨rfl, rfl⟩
  · have h0' : J ≠ [] := fun e => h0 (List.eq_nil_iff_forall_not_mem.2 (fun i hi => by have := (hm i).1 hi; rw [e] at this; cases this))
    obtain ⟨a1, a2⟩ := lo_mem h h0
    obtain ⟨b1, b2⟩ := lo_mem hJ h0'
    obtain ⟨c1, c2⟩ := hi_mem h h0
    obtain ⟨d1, d2⟩ := hi_mem hJ h0'
    have := a2 _ ((hm _).2 b1)
    have := b2 _ ((hm _).1 a1)
    have := c2 _ ((hm _).2 d1)
    have := d2 _ ((hm _).1 c1)
    omega

/-! ### A step -/
/-- The contour C with w between the first and the last of the places I, if they are consecutive. -/
def spanF (C : List Int) (w : Int) (I : List Int) : Option (List Int) :=
  if I.length < 2 ∨ hi I - lo I ≠ (I.length : Int) - 1 then none else some (C.take (lo I + 1).toNat ++ [w] ++ C.drop (hi I).toNat)
/-- The program's step: L the neighbours of w, S the earlier vertices. -/
def growI (C S L : List Int) : List Int := (L.filter (fun u => decide (u ∈ S))).map (fun u => idx u C)
def growF (C S L : List Int) (w : Int) : Option (List Int) :=
  if (L.filter (fun u => decide (u ∈ S))).all (fun u => decide (u ∈ C)) then spanF C w (growI C S L) else none
/-- The reference's step. -/
def stepI (E : List (Int × Int)) (C : List Int) (w : Int) : List Int := ((List.range C.length).filter (fun i => joinB E (ge C i) w)).map (fun i : Nat => (i : Int))
def stepF (E : List (Int × Int)) (S C : List Int) (w : Int) : Option (List Int) :=
  if S.countP (fun u => joinB E u w) ≠ (stepI E C w).length then none else spanF C w (stepI E C w)

theorem spanF_congr {C I J : List Int} {w : Int} (h : ∀ i ∈ I, 0 ≤ i) (hI : I.Nodup) (hJ : J.Nodup) (hm : ∀ i, i ∈ I ↔ i ∈ J) : spanF C w I = spanF C w J ∧ I.length = J.length := by
  have hl : I.length = J.length := Nat.le_antisymm (List.Nodup.length_le_of_subset hI (fun x hx => (hm x).1 hx)) (List.Nodup.length_le_of_subset hJ (fun x hx => (hm x).2 hx))
  obtain ⟨e1, e2⟩ := lo_congr h hm
  refine ⟨?_, hl⟩
  unfold spanF
  rw [e1, e2, hl]

section
variable {N : Int} {E : List (Int × Int)} {A : List (List Int)}
theorem join_nbr {u v : Int} : joinB E u v = true ↔ nbrJ E E.length v u := by
  unfold joinB nbrJ
  rw [List.any_eq_true]
  constructor
  · rintro ⟨a, ha, hj⟩
    obtain ⟨i, hi, rfl⟩ := List.getElem_of_mem ha
    refine ⟨i, hi, ?_⟩
    rw [pr_eq E hi]
    unfold jn at hj
    simp at hj
    omega
  · rintro ⟨i, hi, h⟩
    refine ⟨E[i], List.getElem_mem hi, ?_⟩
    rw [pr_eq E hi] at h
    unfold jn
    simp
    omega
theorem near_mem (hV : vRot N E A) {v : Nat} (hv : v < A.length) {u : Int} : u ∈ nearL E (rowOf A v) ↔ joinB E u v = true := by
  rw [join_nbr]
  constructor
  · intro hu
    obtain ⟨d, hd, rfl⟩ := List.mem_map.1 hu
    obtain ⟨h0, h1, h2⟩ := mem_row hV hv hd
    have := nbr_dart (E := E) h0 h1
    rwa [h2] at this
  · intro h
    obtain ⟨d, h0, h1, h2, h3⟩ := dart_nbr h
    obtain ⟨v', hv', hd, e⟩ := row_of hV h0 h1
    have : v' = v := by omega
    subst this
    exact List.mem_map.2 ⟨d, hd, h3⟩
theorem edge_join {d : Int} (h0 : 0 ≤ d) (h1 : d < 2 * E.length) : jn (tailE E d) (tailE E (oth d)) (pr E (d / 2).toNat) = true := by
  obtain ⟨m, rfl⟩ := Int.eq_ofNat_of_zero_le h0
  have hs := tail_sum E m
  have ht : tailE E m = (pr E (m / 2)).1 ∨ tailE E m = (pr E (m / 2)).2 := by
    unfold tailE; rw [show ((m : Int) / 2).toNat = m / 2 by omega]; split
    · exact Or.inl rfl
    · exact Or.inr rfl
  rw [show ((m : Int) / 2).toNat = m / 2 by omega]
  unfold jn
  simp
  omega
theorem near_nodup (hV : vRot N E A) (hs : simB E = true) {v : Nat} (hv : v < A.length) : (nearL E (rowOf A v)).Nodup := by
  unfold nearL List.Nodup
  rw [List.pairwise_map]
  refine List.Pairwise.imp_of_mem ?_ (row_nodup hV hv)
  intro a b ha hb hne e
  obtain ⟨a0, a1, a2⟩ := mem_row hV hv ha
  obtain ⟨b0, b1, b2⟩ := mem_row hV hv hb
  have ja := edge_join (E := E) a0 a1
  have jb := edge_join (E := E) b0 b1
  rw [a2] at ja
  rw [b2] at jb
  have hk : ∀ i j : Nat, i < j → j < E.length → jn v (tailE E (oth a)) (pr E i) = true → jn v (tailE E (oth a)) (pr E j) = true → False := by
    intro i j hij hj hi1 hj1
    have := List.all_eq_true.1 hs j (List.mem_range.2 hj)
    have hh : joinB (E.take j) (pr E j).1 (pr E j).2 = true := by
      unfold joinB
      rw [List.any_eq_true]
      refine ⟨pr E i, ?_, ?_⟩
      · rw [pr_eq E (by omega)]; exact List.mem_take_iff_getElem.2 ⟨i, by omega, rfl⟩
      · unfold jn at hi1 hj1 ⊢
        simp at hi1 hj1 ⊢
        omega
    rw [hh] at this
    cases this
  by_cases hab : a / 2 = b / 2
  · have hb' : b = oth a := by unfold oth; split <;> omega
    have : tailE E (oth a) = v := by rw [← hb']; exact b2
    rw [this] at ja
    have := hV.ed (a / 2).toNat (by omega)
    unfold okEdge at this
    unfold jn at ja
    simp at ja
    omega
  · rw [← e] at jb
    rcases Nat.lt_trichotomy (a / 2).toNat (b / 2).toNat with h | h | h
    · exact hk _ _ h (by omega) ja jb
    · omega
    · exact hk _ _ h (by omega) jb ja

theorem idx_lt {u : Int} {C : List Int} (h : u ∈ C) : ∃ i : Nat, i < C.length ∧ idx u C = i ∧ ge C i = u := by
  have hh : ∃ i, i < C.length ∧ u = ge C i := by
    obtain ⟨i, hi, e⟩ := List.getElem_of_mem h
    exact ⟨i, hi, by rw [ge_eq C hi, e]⟩
  obtain ⟨i, hi, he, hm⟩ : ∃ i, i < C.length ∧ u = ge C i ∧ ∀ j, j < i → u ≠ ge C j := by
    obtain ⟨i, hi, he⟩ := hh
    induction i using Nat.strongRecOn with
    | _ i ih =>
      by_cases hx : ∃ j, j < i ∧ u = ge C j
      · obtain ⟨j, hj, ej⟩ := hx
        exact ih j hj (by omega) ej
      · exact ⟨i, hi, he, fun j hj e => hx ⟨j, hj, e⟩⟩
  exact ⟨i, hi, idx_first i hi hm he, he.symm⟩
theorem ge_inj {C : List Int} (h : C.Nodup) {i j : Nat} (hi : i < C.length) (hj : j < C.length) (e : ge C i = ge C j) : i = j := by
  rw [ge_eq C hi, ge_eq C hj] at e
  have hp := List.pairwise_iff_getElem.1 h
  rcases Nat.lt_trichotomy i j with h' | h' | h'
  · exact absurd e (hp i j hi hj h')
  · exact h'
  · exact absurd e.symm (hp j i hj hi h')
theorem idx_ge {C : List Int} (h : C.Nodup) {i : Nat} (hi : i < C.length) : idx (ge C i) C = i := by
  obtain ⟨j, hj, e1, e2⟩ := idx_lt (ge_mem hi)
  rw [e1, ge_inj h hj hi e2]
theorem stepI_mem {C : List Int} {w i : Int} : i ∈ stepI E C w ↔ ∃ k : Nat, k < C.length ∧ joinB E (ge C k) w = true ∧ (k : Int) = i := by
  unfold stepI
  rw [List.mem_map]
  exact ⟨fun ⟨k, hk, e⟩ => ⟨k, List.mem_range.1 (List.mem_filter.1 hk).1, (List.mem_filter.1 hk).2, e⟩, fun ⟨k, h1, h2, e⟩ => ⟨k, List.mem_filter.2 ⟨List.mem_range.2 h1, h2⟩, e⟩⟩
theorem stepI_nodup (C : List Int) (w : Int) : (stepI E C w).Nodup := by
  unfold stepI List.Nodup
  rw [List.pairwise_map]
  exact (List.nodup_range.filter _).imp (fun h e => h (by omega))
theorem stepI_pos {C : List Int} {w i : Int} (h : i ∈ stepI E C w) : 0 ≤ i ∧ i < C.length := by
  obtain ⟨k, h1, _, rfl⟩ := stepI_mem.1 h; omega

/-- Both steps agree. -/
theorem grow_step (hV : vRot N E A) (hs : simB E = true) {v : Nat} (hv : v < A.length) {S C : List Int} (hS : S.Nodup) (hC : C.Nodup) (hCS : ∀ u ∈ C, u ∈ S) :
    growF C S (nearL E (rowOf A v)) v = stepF E S C v := by
  have hL := near_nodup hV hs hv
  have hm := fun u => near_mem hV hv (u := u)
  obtain ⟨L, hLe⟩ : ∃ L, nearL E (rowOf A v) = L := ⟨_, rfl⟩
  rw [hLe] at hL ⊢
  simp only [hLe] at hm
  have hF : (L.filter (fun u => decide (u ∈ S))).Nodup := hL.filter _
  have hcount : S.countP (fun u => joinB E u v) = (L.filter (fun u => decide (u ∈ S))).length := by
    rw [List.countP_eq_length_filter]
    refine Nat.le_antisymm (List.Nodup.length_le_of_subset (hS.filter _) (fun x hx => ?_)) (List.Nodup.length_le_of_subset hF (fun x hx => ?_))
    · have := List.mem_filter.1 hx; exact List.mem_filter.2 ⟨(hm x).2 this.2, decide_eq_true this.1⟩
    · have := List.mem_filter.1 hx; exact List.mem_filter.2 ⟨of_decide_eq_true this.2, (hm x).1 this.1⟩
  unfold growF stepF
  by_cases hall : ∀ u ∈ L.filter (fun u => decide (u ∈ S)), u ∈ C
  · rw [if_pos (List.all_eq_true.2 (fun u hu => decide_eq_true (hall u hu)))]
    have hIn : (growI C S L).Nodup := by
      unfold growI List.Nodup
      rw [List.pairwise_map]
      refine List.Pairwise.imp_of_mem ?_ hF
      intro a b ha hb hne e
      obtain ⟨i, hi, e1, e2⟩ := idx_lt (hall a ha)
      obtain ⟨j, hj, f1, f2⟩ := idx_lt (hall b hb)
      rw [e1, f1] at e
      have : i = j := by omega
      subst this
      exact hne (e2.symm.trans f2)
    have hmem : ∀ i, i ∈ growI C S L ↔ i ∈ stepI E C v := by
      intro i
      rw [stepI_mem]
      unfold growI
      rw [List.mem_map]
      constructor
      · rintro ⟨u, hu, rfl⟩
        obtain ⟨k, hk, e1, e2⟩ := idx_lt (hall u hu)
        exact ⟨k, hk, by rw [e2]; exact (hm u).1 (List.mem_filter.1 hu).1, e1.symm⟩
      · rintro ⟨k, hk, hj, rfl⟩
        exact ⟨ge C k, List.mem_filter.2 ⟨(hm _).2 hj, decide_eq_true (hCS _ (ge_mem hk))⟩, idx_ge hC hk⟩
    obtain ⟨e1, e2⟩ := spanF_congr (C := C) (w := v) (fun i hi => (stepI_pos ((hmem i).1 hi)).1) hIn (stepI_nodup C v) hmem
    rw [e1, if_neg]
    rw [hcount, ← e2]
    simp [growI]
  · rw [if_neg (fun h => hall (fun u hu => of_decide_eq_true (List.all_eq_true.1 h u hu))), if_pos]
    intro e
    obtain ⟨x, hx, hxC⟩ : ∃ x ∈ L.filter (fun u => decide (u ∈ S)), x ∉ C := by
      apply Classical.byContradiction
      intro hn
      exact hall (fun u hu => Classical.byContradiction (fun h => hn ⟨u, hu, h⟩))
    have h1 : (x :: (stepI E C v).map (fun i => ge C i.toNat)).Nodup := by
      refine List.nodup_cons.2 ⟨fun h => ?_, ?_⟩
      · obtain ⟨i, hi, e⟩ := List.mem_map.1 h
        obtain ⟨k, hk, _, rfl⟩ := stepI_mem.1 hi
        exact hxC (by rw [← e]; exact ge_mem (by omega))
      · unfold List.Nodup
        rw [List.pairwise_map]
        refine List.Pairwise.imp_of_mem ?_ (stepI_nodup C v)
        intro a b ha hb hne e
        have p := stepI_pos ha
        have q := stepI_pos hb
        have := ge_inj hC (by omega) (by omega) e
        omega
    have h2 := List.Nodup.length_le_of_subset h1 (l₂ := L.filter (fun u => decide (u ∈ S))) (fun y hy => by
      rcases List.mem_cons.1 hy with rfl | hy
      · exact hx
      · obtain ⟨i, hi, rfl⟩ := List.mem_map.1 hy
        obtain ⟨k, hk, hj, rfl⟩ := stepI_mem.1 hi
        exact List.mem_filter.2 ⟨(hm _).2 hj, decide_eq_true (hCS _ (ge_mem (by omega)))⟩)
    rw [List.length_cons, List.length_map, ← hcount, e] at h2
    omega
end
end Go.Proofs.YtdacnkjmimhcaaaDoor
