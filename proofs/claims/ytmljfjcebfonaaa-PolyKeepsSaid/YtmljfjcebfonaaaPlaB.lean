/- Plain laws of paths: the measures along lists; the opposite direction. -/
import Derived.Test.YtmljfjcebfonaaaPlaA
import Derived.Test.YtmljfjcebfonaaaPolT
set_option linter.unusedSimpArgs false
set_option linter.unusedVariables false
namespace Go.Proofs.Ytmljfjcebfonaaa

theorem pr_cons (p : Pt) (E : List Pt) (i : Nat) : pr (p :: E) (i + 1) = pr E i := by simp [pr]
theorem pr_zero (p : Pt) (E : List Pt) : pr (p :: E) 0 = p := rfl

theorem lenK_cons (p : Pt) (E : List Pt) : ∀ k, lenK (p :: E) (k + 1) = dist p (pr E 0) + lenK E k
  | 0 => by simp [lenK, pr_cons, pr_zero]
  | k + 1 => by
    rw [lenK, lenK_cons p E k, pr_cons, pr_cons, lenK]
    omega
theorem lenK_L : ∀ E : List Pt, lenK E (E.length - 1) = lenL E
  | [] => rfl
  | [p] => rfl
  | p :: q :: t => by
    have h := lenK_L (q :: t)
    simp only [List.length_cons, Nat.add_sub_cancel] at h ⊢
    rw [lenK_cons, h, lenL, pr_zero]
theorem benK_cons (p : Pt) (E : List Pt) : ∀ k, benK (p :: E) (k + 1) = (if bend3 p (pr E 0) (pr E 1) then 1 else 0) + benK E k
  | 0 => by simp [benK, pr_cons, pr_zero]
  | k + 1 => by
    rw [benK, benK_cons p E k, pr_cons, pr_cons, pr_cons, benK]
    omega
theorem benK_L : ∀ E : List Pt, benK E (E.length - 2) = benL E
  | [] => rfl
  | [p] => rfl
  | [p, q] => rfl
  | p :: q :: r :: t => by
    have h := benK_L (q :: r :: t)
    simp only [List.length_cons] at h ⊢
    rw [show t.length + 1 + 1 - 2 = t.length by omega] at h
    rw [show t.length + 1 + 1 + 1 - 2 = t.length + 1 by omega, benK_cons, h, benL, pr_zero, pr_cons, pr_zero]
theorem bxAdd_comm (B : Bx) (p q : Pt) : bxAdd (bxAdd B p) q = bxAdd (bxAdd B q) p := by
  simp only [bxAdd, Bx.mk.injEq]
  omega
theorem bndK_cons (p : Pt) (E : List Pt) : ∀ k, bndK (p :: E) (k + 1) = bxAdd (bndK E k) p
  | 0 => by
    simp only [bndK, pr_cons, pr_zero, bxAdd, bxP, Bx.mk.injEq]
    omega
  | k + 1 => by
    rw [bndK, bndK_cons p E k, pr_cons, bndK, bxAdd_comm]
theorem bndK_L : ∀ (E : List Pt) (p : Pt), bndK (p :: E) E.length = bxL (p :: E)
  | [], p => rfl
  | q :: t, p => by
    rw [List.length_cons, bndK_cons, bndK_L t q, bxL]
theorem ok_iff : ∀ E : List Pt, Ok E ↔ (∀ i, i < E.length → vld (pr E i).1 (pr E i).2 = true) ∧ ∀ i, i + 1 < E.length → pr E i ≠ pr E (i + 1)
  | [] => ⟨fun _ => ⟨fun i hi => by simp at hi, fun i hi => by simp at hi⟩, fun _ => trivial⟩
  | [p] => ⟨fun h => ⟨fun i hi => by
      have : i = 0 := by simp at hi; exact hi
      subst this; exact h, fun i hi => by simp at hi⟩, fun h => h.1 0 (by simp)⟩
  | p :: q :: t => by
    rw [Ok, ok_iff (q :: t)]
    constructor
    · rintro ⟨h1, h2, h3, h4⟩
      refine ⟨fun i hi => ?_, fun i hi => ?_⟩
      · cases i with
        | zero => exact h1
        | succ i => rw [pr_cons]; exact h3 i (by simpa using hi)
      · cases i with
        | zero => exact h2
        | succ i => rw [pr_cons, pr_cons]; exact h4 i (by simpa using hi)
    · rintro ⟨h1, h2⟩
      refine ⟨h1 0 (by simp), h2 0 (by simp), fun i hi => ?_, fun i hi => ?_⟩
      · have := h1 (i + 1) (by simpa using hi)
        rwa [pr_cons] at this
      · have := h2 (i + 1) (by simpa using hi)
        rwa [pr_cons, pr_cons] at this
theorem vPB_ok {E : List Pt} : vPB E = true ↔ 1 ≤ E.length ∧ E.length ≤ 512 ∧ Ok E := by
  rw [vPB_iff, ok_iff]
  exact ⟨fun h => ⟨h.l1, h.l2, h.ok, h.ne⟩, fun h => ⟨h.1, h.2.1, h.2.2.1, h.2.2.2⟩⟩
theorem lenF_L {E : List Pt} (h : vPB E = true) : lenF E = lenL E := by unfold lenF; rw [h, if_pos rfl, lenK_L]
theorem benF_L {E : List Pt} (h : vPB E = true) : benF E = benL E := by unfold benF; rw [h, if_pos rfl, benK_L]
theorem bndF_L {E : List Pt} (h : vPB E = true) : bndF E = bxL E := by
  unfold bndF
  rw [h, if_pos rfl]
  have := (vPB_ok.1 h).1
  match E, this with
  | p :: E, _ => rw [List.length_cons, Nat.add_sub_cancel, bndK_L]

/-! ### Simplify along lists -/
theorem simK_filter (P : List Pt) : ∀ k, simK P k = ((List.range k).filter (keep P)).map (pr P)
  | 0 => rfl
  | k + 1 => by
    rw [simK, simK_filter P k, List.range_succ, List.filter_append, List.map_append]
    cases h : keep P k <;> simp [h]
theorem drop_pr {E : List Pt} {i : Nat} (h : i < E.length) : E.drop i = pr E i :: E.drop (i + 1) := by rw [List.drop_eq_getElem_cons h, pr_eq E h]
theorem simP_range {E : List Pt} : ∀ (m i : Nat), 1 ≤ i → i + m = E.length → ((List.range' i m).filter (keep E)).map (pr E) = simP (pr E (i - 1)) (E.drop i)
  | 0, i, _, h => by rw [show E.drop i = [] from List.drop_eq_nil_of_le (by omega)]; rfl
  | m + 1, i, h1, h => by
    have ih := simP_range (E := E) m (i + 1) (by omega) (by omega)
    rw [List.range'_succ, drop_pr (E := E) (i := i) (by omega)]
    rw [Nat.add_sub_cancel] at ih
    cases m with
    | zero =>
      have hk : keep E i = true := by unfold keep; simp [show i + 1 = E.length by omega]
      rw [show E.drop (i + 1) = [] from List.drop_eq_nil_of_le (by omega), simP]
      simp [hk]
    | succ m =>
      have hk : keep E i = bend3 (pr E (i - 1)) (pr E i) (pr E (i + 1)) := by
        unfold keep
        rw [decide_eq_false (by omega), decide_eq_false (by omega)]
        rfl
      rw [drop_pr (E := E) (i := i + 1) (by omega), simP]
      rw [drop_pr (E := E) (i := i + 1) (by omega)] at ih
      rw [List.filter_cons, hk]
      cases bend3 (pr E (i - 1)) (pr E i) (pr E (i + 1))
      · simp only [Bool.false_eq_true, if_false]
        exact ih
      · simp only [if_true, List.map_cons]
        rw [ih]
theorem simF_L {p : Pt} {t : List Pt} (h : vPB (p :: t) = true) : simF (p :: t) = p :: simP p t := by
  have hv := vPB_iff.1 h
  have hpt : ptsB (p :: t) = true := by
    unfold vPB at h
    exact (Bool.and_eq_true_iff.1 h).2
  have hc : cmpl (p :: t) = p :: t := by
    unfold cmpl
    rw [cmpK_take (Nat.le_refl _) (fun j hj => hv.ne j hj)]
    exact List.take_length
  unfold simF
  rw [hpt, if_pos rfl, hc, simK_filter, List.length_cons, List.range_eq_range', List.range'_succ]
  have := simP_range (E := p :: t) t.length 1 (Nat.le_refl _) (by simp; omega)
  rw [List.filter_cons, show keep (p :: t) 0 = true from rfl, if_pos rfl, List.map_cons, Nat.zero_add, this]
  rfl

/-! ### The opposite direction -/
theorem dist_comm (p q : Pt) : dist p q = dist q p := by
  unfold dist dst
  rw [Bool.and_comm]
  split <;> omega
theorem lenL_snoc : ∀ (L : List Pt) (q p : Pt), lenL (L ++ [q, p]) = lenL (L ++ [q]) + dist q p
  | [], q, p => by simp [lenL]
  | [a], q, p => by simp [lenL]
  | a :: b :: L, q, p => by
    have := lenL_snoc (b :: L) q p
    simp only [List.cons_append] at this ⊢
    rw [lenL, this, lenL]
    omega
theorem benL_snoc : ∀ (L : List Pt) (r q p : Pt), benL (L ++ [r, q, p]) = benL (L ++ [r, q]) + if bend3 r q p then 1 else 0
  | [], r, q, p => by simp [benL]
  | [a], r, q, p => by simp [benL]
  | [a, b], r, q, p => by simp [benL]; omega
  | a :: b :: c :: L, r, q, p => by
    have := benL_snoc (b :: c :: L) r q p
    simp only [List.cons_append] at this ⊢
    rw [benL, this, benL]
    omega
theorem bxL_snoc : ∀ (L : List Pt) (q p : Pt), bxL (L ++ [q, p]) = bxAdd (bxL (L ++ [q])) p
  | [], q, p => by
    simp only [List.nil_append, bxL, bxAdd, bxP, Bx.mk.injEq]
    omega
  | [a], q, p => by
    simp only [List.cons_append, List.nil_append, bxL, bxAdd, bxP, Bx.mk.injEq]
    omega
  | a :: b :: L, q, p => by
    have := bxL_snoc (b :: L) q p
    simp only [List.cons_append] at this ⊢
    rw [bxL, this, bxL, bxAdd_comm]
theorem ok_snoc : ∀ (L : List Pt) (q p : Pt), Ok (L ++ [q, p]) ↔ Ok (L ++ [q]) ∧ q ≠ p ∧ vld p.1 p.2 = true
  | [], q, p => by simp [Ok, and_assoc]
  | [a], q, p => by simp [Ok, and_assoc]
  | a :: b :: L, q, p => by
    have := ok_snoc (b :: L) q p
    simp only [List.cons_append] at this ⊢
    rw [Ok, this, Ok]
    simp only [and_assoc]

theorem rev_all : ∀ E : List Pt, lenL E.reverse = lenL E ∧ bxL E.reverse = bxL E ∧ (Ok E → Ok E.reverse)
  | [] => ⟨rfl, rfl, id⟩
  | [p] => ⟨rfl, rfl, id⟩
  | p :: q :: t => by
    obtain ⟨h1, h2, h3⟩ := rev_all (q :: t)
    have e : (p :: q :: t).reverse = t.reverse ++ [q, p] := by simp
    have e2 : (q :: t).reverse = t.reverse ++ [q] := by simp
    rw [e2] at h1 h2 h3
    rw [e, lenL_snoc, bxL_snoc, ok_snoc, h1, h2, lenL, bxL, dist_comm q p]
    refine ⟨by omega, rfl, fun h => ⟨h3 h.2.2, h.2.1.symm, h.1⟩⟩
theorem rev_ben : ∀ E : List Pt, benL E.reverse = benL E
  | [] => rfl
  | [p] => rfl
  | [p, q] => rfl
  | p :: q :: r :: t => by
    have h := rev_ben (q :: r :: t)
    have e : (p :: q :: r :: t).reverse = t.reverse ++ [r, q, p] := by simp
    have e2 : (q :: r :: t).reverse = t.reverse ++ [r, q] := by simp
    rw [e2] at h
    rw [e, benL_snoc, h, benL, bend3_rev]
    omega
theorem vPB_rev {E : List Pt} (h : vPB E = true) : vPB E.reverse = true := by
  obtain ⟨h1, h2, h3⟩ := vPB_ok.1 h
  exact vPB_ok.2 ⟨by simpa using h1, by simpa using h2, (rev_all E).2.2 h3⟩

theorem range_rev (n : Nat) : (List.range n).reverse = (List.range n).map (fun i => n - 1 - i) := by
  apply List.ext_getElem
  · simp
  · intro i h1 h2
    simp
theorem pr_rev {E : List Pt} {k : Nat} (h : k < E.length) : pr E.reverse k = pr E (E.length - 1 - k) := by
  rw [pr_eq _ (by simpa using h), pr_eq E (by omega), List.getElem_reverse]
theorem keep_rev {E : List Pt} {k : Nat} (h : k < E.length) : keep E.reverse k = keep E (E.length - 1 - k) := by
  unfold keep
  rw [List.length_reverse]
  by_cases h0 : k = 0
  · subst h0
    rw [show E.length - 1 - 0 + 1 = E.length by omega]
    simp
  by_cases h1 : k + 1 = E.length
  · simp [h1, show E.length - 1 - k = 0 by omega]
  rw [decide_eq_false h0, decide_eq_false h1, decide_eq_false (show ¬ E.length - 1 - k = 0 by omega), decide_eq_false (show ¬ E.length - 1 - k + 1 = E.length by omega), pr_rev h, pr_rev (k := k - 1) (by omega), pr_rev (k := k + 1) (by omega),
    show E.length - 1 - (k - 1) = E.length - 1 - k + 1 by omega, show E.length - 1 - (k + 1) = E.length - 1 - k - 1 by omega, bend3_rev]
theorem simK_rev (E : List Pt) : simK E.reverse E.length = (simK E E.length).reverse := by
  rw [simK_filter, simK_filter, ← List.map_reverse, ← List.filter_reverse, range_rev, List.filter_map, List.map_map]
  have hk : (List.range E.length).filter (keep E.reverse) = (List.range E.length).filter (keep E ∘ fun i => E.length - 1 - i) :=
    List.filter_congr fun i hi => keep_rev (List.mem_range.1 hi)
  rw [hk]
  refine List.map_congr_left fun i hi => ?_
  exact pr_rev (List.mem_range.1 (List.mem_filter.1 hi).1)
theorem simF_eq {E : List Pt} (h : vPB E = true) : simF E = simK E E.length := by
  have hv := vPB_iff.1 h
  have hpt : ptsB E = true := by
    unfold vPB at h
    exact (Bool.and_eq_true_iff.1 h).2
  have hc : cmpl E = E := by
    unfold cmpl
    rw [cmpK_take (Nat.le_refl _) (fun j hj => hv.ne j hj)]
    exact List.take_length
  unfold simF
  rw [hpt, if_pos rfl, hc]
theorem simF_rev {E : List Pt} (h : vPB E = true) : simF E.reverse = (simF E).reverse := by
  rw [simF_eq h, simF_eq (vPB_rev h), List.length_reverse, simK_rev]

/-- The measures of a path and of the path in the opposite direction. -/
theorem rev_same {E : List Pt} (h : vPB E = true) : vPB E.reverse = true ∧ lenF E.reverse = lenF E ∧ bndF E.reverse = bndF E ∧ benF E.reverse = benF E ∧ simF E.reverse = (simF E).reverse := by
  have h2 := vPB_rev h
  obtain ⟨k1, k2, _⟩ := rev_all E
  exact ⟨h2, by rw [lenF_L h, lenF_L h2, k1], by rw [bndF_L h, bndF_L h2, k2], by rw [benF_L h, benF_L h2, rev_ben], simF_rev h⟩

/-- What Simplify keeps. -/
theorem sim_keeps {E S : List Pt} (h : vPB E = true) (hS : simF E = S) : 1 ≤ S.length ∧ S.length ≤ E.length ∧ pr S 0 = pr E 0 ∧ pr S (S.length - 1) = pr E (E.length - 1) ∧
    vPB S = true ∧ lenF S = lenF E ∧ bndF S = bndF E ∧ benF S = benF E ∧ benF S = max ((S.length : Int) - 2) 0 ∧ simF S = S := by
  subst hS
  obtain ⟨h1, h2, h3⟩ := vPB_ok.1 h
  match E, h1 with
  | [p], _ =>
    have e : simF [p] = [p] := by rw [simF_L h]; rfl
    rw [e]
    exact ⟨Nat.le_refl _, Nat.le_refl _, rfl, rfl, h, rfl, rfl, rfl, by rw [benF_L h]; rfl, e⟩
  | p :: q :: t, _ =>
    have k := kept t p q h3
    have e : simF (p :: q :: t) = p :: simA p (q :: t) := by rw [simF_L h, simP_eq t p p q (fun _ => rfl) h3.2.1 h3]
    have hl := k.short
    have hv : vPB (p :: simA p (q :: t)) = true := vPB_ok.2 ⟨by simp, by simp only [List.length_cons] at hl h2 ⊢; omega, k.ok⟩
    rw [e]
    refine ⟨by simp, by simpa using hl, rfl, ?_, hv, by rw [lenF_L h, lenF_L hv, k.len], by rw [bndF_L h, bndF_L hv, k.box], by rw [benF_L h, benF_L hv, k.ben], ?_, ?_⟩
    · have := k.last
      rw [List.getLast?_eq_getElem?, List.getLast?_eq_getElem?] at this
      unfold pr
      rw [List.getD_eq_getElem?_getD, List.getD_eq_getElem?_getD, this]
    · rw [benF_L hv]
      obtain ⟨r, u, hr⟩ : ∃ r u, simA p (q :: t) = r :: u := by
        cases hs : simA p (q :: t) with
        | nil => exact absurd hs (simA_ne t p q)
        | cons r u => exact ⟨r, u, rfl⟩
      have hb := k.bent
      rw [hr] at hb ⊢
      rw [benL_bent u p r hb]
      simp only [List.length_cons]
      omega
    · rw [simF_L hv, simP_bent _ _ k.bent]

end Go.Proofs.Ytmljfjcebfonaaa
