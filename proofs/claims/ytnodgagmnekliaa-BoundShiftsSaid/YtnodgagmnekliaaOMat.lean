/- A matrix of the call's own: cells written, and read as a matrix. -/
import Derived.Test.YtnodgagmnekliaaCopy
set_option linter.unusedSimpArgs false
set_option linter.unusedVariables false
namespace Go.Proofs.Ytnodgagmnekliaa
open Go.RowKit

/-- One number replaced. -/
def set2 (m : List (List Int)) (u j : Nat) (x : Int) : List (List Int) := m.set u ((rowOf m u).set j x)
theorem set2_length (m : List (List Int)) (u j : Nat) (x : Int) : (set2 m u j x).length = m.length := by simp [set2]
theorem rowOf_set2 (m : List (List Int)) {u : Nat} (j : Nat) (x : Int) (hu : u < m.length) (a : Nat) : rowOf (set2 m u j x) a = if a = u then (rowOf m u).set j x else rowOf m a := by
  unfold set2
  by_cases h : a = u
  · subst h
    rw [if_pos rfl]
    show (m.set a _).getD a [] = _
    rw [List.getD_eq_getElem?_getD, List.getElem?_set, if_pos rfl, if_pos hu]
    rfl
  · rw [if_neg h]
    unfold rowOf
    rw [List.getD_eq_getElem?_getD, List.getElem?_set, if_neg (Ne.symm h), List.getD_eq_getElem?_getD]
theorem rowlen_set2 (m : List (List Int)) {u : Nat} (j : Nat) (x : Int) (hu : u < m.length) (a : Nat) : (rowOf (set2 m u j x) a).length = (rowOf m a).length := by
  rw [rowOf_set2 m j x hu]
  split
  · rename_i h; subst h; simp
  · rfl
theorem at2_set2 (m : List (List Int)) {u j : Nat} (x : Int) (hu : u < m.length) (hj : j < (rowOf m u).length) (a b : Nat) : at2 (set2 m u j x) a b = if a = u ∧ b = j then x else at2 m a b := by
  unfold at2
  rw [rowOf_set2 m j x hu]
  by_cases h : a = u
  · subst h
    rw [if_pos rfl]
    unfold ge
    rw [List.getD_eq_getElem?_getD, List.getD_eq_getElem?_getD, List.getElem?_set]
    by_cases hb : j = b
    · subst hb
      rw [if_pos rfl, if_pos hj, if_pos ⟨rfl, rfl⟩]
      rfl
    · rw [if_neg hb, if_neg (fun h => hb h.2.symm)]
  · rw [if_neg h, if_neg (fun h' => h h'.1)]

theorem matRows_get {vals : List Value} {m : List (List Int)} {u : Nat} {v : Value} (hv : vals[u]? = some v) (hu : u < m.length) : (matRows vals m)[u]? = some (matRow v (rowOf m u)) := by
  unfold matRows
  rw [List.getElem?_zipWith, hv, List.getElem?_eq_getElem hu, rowOf_eq m hu]
theorem matRows_set {vals : List Value} {m : List (List Int)} {u : Nat} {v : Value} (hv : vals[u]? = some v) (hu : u < m.length) (xs : List Int) : matRows vals (m.set u xs) = (matRows vals m).set u (matRow v xs) := by
  unfold matRows
  apply List.ext_getElem?
  intro i
  rw [List.getElem?_zipWith, List.getElem?_set, List.getElem?_set, List.getElem?_zipWith]
  by_cases h : u = i
  · subst h
    rw [if_pos rfl, if_pos rfl, if_pos hu, hv]
    have hl : u < (List.zipWith matRow vals m).length := by
      rw [List.length_zipWith]
      have := (List.getElem?_eq_some_iff.1 hv).1
      omega
    rw [if_pos hl]
  · rw [if_neg h, if_neg h]

theorem OMat.grew {w w' : World} {B go co : Nat} {m : List (List Int)} (h : OMat w B go co m) (hg : Grew w w') : OMat w' B go co m := by
  obtain ⟨vals, h1, h2, h3⟩ := h
  exact ⟨vals, h1, h2.grew hg, h3⟩
def sqM (m : List (List Int)) : Prop := ∀ u, u < m.length → (rowOf m u).length = m.length
theorem sqM.set2 {m : List (List Int)} (h : sqM m) {u : Nat} (hu : u < m.length) (j : Nat) (x : Int) : sqM (set2 m u j x) := fun a ha => by
  rw [set2_length] at ha ⊢
  rw [rowlen_set2 m j x hu]
  exact h a ha

/-- A row of it: where it lies, its cells, and what a store leaves. -/
theorem OMat.row {w : World} {B go co : Nat} {m : List (List Int)} (h : OMat w B go co m) (hsq : sqM m) {u : Nat} (hu : u < m.length) :
    ∃ gu cu, w.cell? ⟨go, u, none⟩ = some (.slice (some ⟨gu, 0, none⟩) m.length cu) ∧ B ≤ go ∧ go < w.heap.size ∧ B ≤ gu ∧ gu < w.heap.size ∧ go ≠ gu ∧ (∀ j, w.frozen? ⟨gu, j, none⟩ = false) ∧
      (∀ j, j < m.length → w.cell? ⟨gu, j, none⟩ = some (.int .i64 (at2 m u j))) ∧ (∀ j x, OMat (w.setCell ⟨gu, j, none⟩ (.int .i64 x)) B go co (set2 m u j x)) ∧
      ∀ u' gu' cu', u' < m.length → u' ≠ u → w.cell? ⟨go, u', none⟩ = some (.slice (some ⟨gu', 0, none⟩) m.length cu') → gu' ≠ gu := by
  obtain ⟨vals, h1, h2, h3⟩ := h
  obtain ⟨gu, cu, hv⟩ := h3 u hu
  have hl := hsq u hu
  rw [hl] at hv
  have hk : (⟨.slice (some ⟨go, 0, none⟩) m.length co, 25, 1, m.length, vals⟩ :: matRows vals m)[u + 1]? = some ⟨.slice (some ⟨gu, 0, none⟩) m.length cu, 3, 1, m.length, intVs (rowOf m u)⟩ := by
    rw [List.getElem?_cons_succ, matRows_get hv hu]
    unfold matRow
    rw [hl]
  obtain ⟨g', c', e1, b1, b2, _, _, _, b3⟩ := h2.some (k := 0) rfl (by omega)
  cases e1
  obtain ⟨g', c', e2, d1, d2, _, _, d3, d4⟩ := h2.some hk (by omega)
  cases e2
  refine ⟨gu, cu, b3 u _ hv, b1, b2, d1, d2, ?_, d3, fun j hj => d4 j _ (intVs_get _ (by omega)), fun j x => ?_, fun u' gu' cu' hu' hne hc => ?_⟩
  · intro e
    exact h2.2 0 (u + 1) _ _ rfl hk (by omega) go rfl (by rw [e]; rfl)
  · have hset := h2.set hk j (.int .i64 x)
    refine ⟨vals, by rw [set2_length]; exact h1, ?_, fun a ha => ?_⟩
    · rw [set2_length]
      unfold set2
      rw [matRows_set hv hu]
      rw [List.set_cons_succ] at hset
      unfold matRow
      rw [List.length_set, hl]
      have e : (intVs (rowOf m u)).set j (.int .i64 x) = intVs ((rowOf m u).set j x) := by
        unfold intVs
        rw [List.map_set]
      rw [e] at hset
      exact hset
    · rw [set2_length] at ha
      rw [rowlen_set2 m j x hu]
      exact h3 a ha
  · obtain ⟨g2, c2, hv2⟩ := h3 u' hu'
    rw [hsq u' hu'] at hv2
    have := b3 u' _ hv2
    rw [hc] at this
    cases this
    have hk2 : (⟨.slice (some ⟨go, 0, none⟩) m.length co, 25, 1, m.length, vals⟩ :: matRows vals m)[u' + 1]? = some (matRow (.slice (some ⟨gu', 0, none⟩) m.length cu') (rowOf m u')) := by
      rw [List.getElem?_cons_succ, matRows_get hv2 hu']
    intro e
    exact h2.2 (u + 1) (u' + 1) _ _ hk hk2 (by omega) gu rfl (by rw [e]; rfl)

/-- Read as a matrix. -/
theorem OMat.mat {w : World} {B go co : Nat} {m : List (List Int)} (h : OMat w B go co m) (hsq : sqM m) (hl : m.length ≤ 1000) (hpos : 0 < m.length)
    (hw : ∀ u, u < m.length → ∀ v, v < m.length → -9223372036854775808 ≤ at2 m u v ∧ at2 m u v ≤ 9223372036854775807) : Mat w (some ⟨go, 0, none⟩) m := by
  have hr := fun u (hu : u < m.length) => h.row hsq hu
  have key : ∀ u, ∃ gc : Nat × Nat, u < m.length → w.cell? ⟨go, 0 + u, none⟩ = some (.slice (some ⟨gc.1, 0, none⟩) (rowOf m u).length gc.2) ∧ Ints w (some ⟨gc.1, 0, none⟩) (rowOf m u) := by
    intro u
    by_cases hu : u < m.length
    · obtain ⟨gu, cu, e1, _, _, _, e2, _, _, e3, _, _⟩ := hr u hu
      refine ⟨(gu, cu), fun _ => ⟨by rw [Nat.zero_add, e1, hsq u hu], ?_⟩⟩
      have hlu := hsq u hu
      refine ⟨by omega, fun x hx => ?_, gu, 0, fun _ => ⟨rfl, e2⟩, fun i hi => by rw [Nat.zero_add]; exact e3 i (by omega)⟩
      obtain ⟨i, hi, rfl⟩ := List.getElem_of_mem hx
      have := hw u hu i (by omega)
      unfold at2 at this
      rw [ge_eq _ hi] at this
      exact this
    · exact ⟨(0, 0), fun h => absurd h hu⟩
  refine ⟨by omega, go, 0, fun u => some ⟨(Classical.choose (key u)).1, 0, none⟩, fun u => (Classical.choose (key u)).2, fun _ => ⟨rfl, ?_⟩, fun u hu => Classical.choose_spec (key u) hu⟩
  obtain ⟨_, _, _, _, e, _⟩ := hr 0 hpos
  exact e

/-! ### Costs and changed matrices -/
theorem costL_congr {f g : Nat → Nat → Int} : ∀ {l : List Nat}, l.Pairwise (fun x y => f x y = g x y) → costL f l = costL g l
  | [], _ => rfl
  | x :: l, h => by
    rw [List.pairwise_cons] at h
    simp only [costL, costL_congr h.2]
    rw [sumL_congr h.1]
theorem costL_add (f g : Nat → Nat → Int) : ∀ (l : List Nat), costL (fun x y => f x y + g x y) l = costL f l + costL g l
  | [] => rfl
  | x :: l => by
    simp only [costL, costL_add f g l, sumL_add]
    omega
theorem sumL_one {l : List Nat} (hn : l.Nodup) (v : Nat) (b : Int) : sumL (fun y => if y = v then b else 0) l = if v ∈ l then b else 0 := by
  induction l with
  | nil => rfl
  | cons x l ih =>
    rw [List.nodup_cons] at hn
    simp only [sumL, ih hn.2, List.mem_cons]
    by_cases h : x = v
    · subst h
      rw [if_pos rfl, if_neg hn.1, if_pos (Or.inl rfl)]
      omega
    · rw [if_neg h]
      by_cases h2 : v ∈ l
      · rw [if_pos h2, if_pos (Or.inr h2)]; omega
      · rw [if_neg h2, if_neg (by rintro (e | e); exact h e.symm; exact h2 e)]; omega
/-- A number at both cells of a pair. -/
def dlt (u v : Nat) (b : Int) (x y : Nat) : Int := if x = u ∧ y = v ∨ x = v ∧ y = u then b else 0
theorem costL_dlt {u v : Nat} (hne : u ≠ v) (b : Int) : ∀ {l : List Nat}, l.Nodup → costL (dlt u v b) l = if u ∈ l ∧ v ∈ l then b else 0
  | [], _ => by simp [costL]
  | x :: l, hn => by
    rw [List.nodup_cons] at hn
    simp only [costL, costL_dlt hne b hn.2]
    have e : sumL (dlt u v b x) l = if x = u then (if v ∈ l then b else 0) else if x = v then (if u ∈ l then b else 0) else 0 := by
      by_cases h1 : x = u
      · subst h1
        rw [if_pos rfl, ← sumL_one hn.2]
        refine sumL_congr fun y _ => ?_
        unfold dlt
        by_cases h : y = v
        · rw [if_pos h, if_pos (Or.inl ⟨rfl, h⟩)]
        · rw [if_neg h, if_neg (by rintro (⟨_, e⟩ | ⟨e, _⟩); exact h e; exact hne e)]
      · rw [if_neg h1]
        by_cases h2 : x = v
        · subst h2
          rw [if_pos rfl, ← sumL_one hn.2]
          refine sumL_congr fun y _ => ?_
          unfold dlt
          by_cases h : y = u
          · rw [if_pos h, if_pos (Or.inr ⟨rfl, h⟩)]
          · rw [if_neg h, if_neg (by rintro (⟨e, _⟩ | ⟨_, e⟩); exact h1 e; exact h e)]
        · rw [if_neg h2]
          refine sumL_zero fun y _ => ?_
          unfold dlt
          rw [if_neg (by rintro (⟨e, _⟩ | ⟨e, _⟩); exact h1 e; exact h2 e)]
    rw [e]
    simp only [List.mem_cons]
    by_cases h1 : x = u
    · subst h1
      rw [if_pos rfl, if_neg (c := x ∈ l ∧ v ∈ l) (fun h => hn.1 h.1)]
      by_cases h : v ∈ l
      · rw [if_pos h, if_pos ⟨Or.inl rfl, Or.inr h⟩]; omega
      · rw [if_neg h, if_neg (by rintro ⟨_, e | e⟩; exact hne e.symm; exact h e)]; omega
    · rw [if_neg h1]
      by_cases h2 : x = v
      · subst h2
        rw [if_pos rfl, if_neg (c := u ∈ l ∧ x ∈ l) (fun h => hn.1 h.2)]
        by_cases h : u ∈ l
        · rw [if_pos h, if_pos ⟨Or.inr h, Or.inl rfl⟩]; omega
        · rw [if_neg h, if_neg (by rintro ⟨e | e, _⟩; exact hne e; exact h e)]; omega
      · rw [if_neg h2]
        by_cases h : u ∈ l ∧ v ∈ l
        · rw [if_pos h, if_pos ⟨Or.inr h.1, Or.inr h.2⟩]; omega
        · rw [if_neg h, if_neg (by rintro ⟨e1 | e1, e2 | e2⟩; exact h1 e1.symm; exact h1 e1.symm; exact h2 e2.symm; exact h ⟨e1, e2⟩)]; omega

def shiftO (d : Int) (s : Option (List Nat × Int)) : Option (List Nat × Int) := s.map fun x => (x.1, x.2 + d)
theorem updO_shift (d : Int) (s x : Option (List Nat × Int)) : updO (shiftO d s) (shiftO d x) = shiftO d (updO s x) := by
  cases x with
  | none => rfl
  | some x =>
    cases s with
    | none => rfl
    | some s =>
      simp only [shiftO, updO, upd, Option.map_some]
      by_cases h : x.2 < s.2
      · rw [if_pos h, if_pos (by omega)]; rfl
      · rw [if_neg h, if_neg (by omega)]; rfl
theorem fold_shift (d : Int) (f g : Nat → Option (List Nat × Int)) : ∀ (L : List Nat) (s : Option (List Nat × Int)), (∀ v ∈ L, f v = shiftO d (g v)) → L.foldl (fun s v => updO s (f v)) (shiftO d s) = shiftO d (L.foldl (fun s v => updO s (g v)) s)
  | [], s, _ => rfl
  | v :: L, s, h => by
    simp only [List.foldl_cons]
    rw [h v List.mem_cons_self, updO_shift]
    exact fold_shift d f g L _ (fun w hw => h w (List.mem_cons_of_mem _ hw))
theorem bestF_shift (n : Nat) (c c' : Nat → Nat → Int) (d : Int) : ∀ (k : Nat) (l : List Nat), (left n l).length = k → (∀ r, r.Perm (left n l) → costL c' (l ++ r) = costL c (l ++ r) + d) → bestF n c' k l = shiftO d (bestF n c k l)
  | 0, l, hk, h => by
    have h0 : left n l = [] := List.length_eq_zero_iff.1 hk
    have := h [] (by rw [h0])
    rw [List.append_nil] at this
    simp only [bestF, shiftO, Option.map_some, this]
  | k + 1, l, hk, h => by
    rw [bestF_succ, bestF_succ]
    refine fold_shift d _ _ (left n l) none fun v hv => ?_
    refine bestF_shift n c c' d k (l ++ [v]) (left_len hk hv) fun r hr => ?_
    rw [List.append_assoc]
    refine h (v :: r) ?_
    rw [left_append] at hr
    exact (List.Perm.cons v hr).trans (filter_ne_perm (left_nodup n l) hv).symm

end Go.Proofs.Ytnodgagmnekliaa
