/- Plain mathematics of linear orders of least cost: exhaustive search and branch and bound. No program in sight. -/
import Derived.Test.YtnodgagmnekliaaInts
set_option linter.unusedSimpArgs false
set_option linter.unusedVariables false
namespace Go.Proofs.Ytnodgagmnekliaa

/-- The number in row u, column v. -/
def at2 (m : List (List Int)) (u v : Nat) : Int := ge (rowOf m u) v
/-- A row of a valid matrix. -/
def rowOK (m : List (List Int)) (u : Nat) : Prop := (rowOf m u).length = m.length ∧ ∀ v, v < m.length → 0 ≤ at2 m u v ∧ at2 m u v ≤ 1000000
instance (m : List (List Int)) (u : Nat) : Decidable (rowOK m u) := by unfold rowOK; exact inferInstance
/-- A valid matrix. -/
def vMat (m : List (List Int)) : Prop := m.length ≤ 8 ∧ ∀ u, u < m.length → rowOK m u
instance (m : List (List Int)) : Decidable (vMat m) := by unfold vMat; exact inferInstance
/-- The same as a Bool. -/
def vMatB (m : List (List Int)) : Bool := decide (vMat m)
theorem vMatB_iff {m : List (List Int)} : vMatB m = true ↔ vMat m := by unfold vMatB; simp
theorem vMatB_not {m : List (List Int)} (h : ¬ vMat m) : vMatB m = false := by rw [← Bool.not_eq_true, vMatB_iff]; exact h

/-- Sum of f over a list. -/
def sumL {α : Type} (f : α → Int) : List α → Int
  | [] => 0
  | x :: l => f x + sumL f l
theorem sumL_append {α : Type} (f : α → Int) (a b : List α) : sumL f (a ++ b) = sumL f a + sumL f b := by
  induction a with
  | nil => simp [sumL]
  | cons x a ih => simp only [List.cons_append, sumL, ih]; omega
theorem sumL_add {α : Type} (f g : α → Int) (l : List α) : sumL (fun x => f x + g x) l = sumL f l + sumL g l := by
  induction l with
  | nil => rfl
  | cons x l ih => simp only [sumL, ih]; omega
theorem sumL_congr {α : Type} {f g : α → Int} {l : List α} (h : ∀ x ∈ l, f x = g x) : sumL f l = sumL g l := by
  induction l with
  | nil => rfl
  | cons x l ih => simp only [sumL, h x (List.mem_cons_self), ih (fun y hy => h y (List.mem_cons_of_mem _ hy))]
theorem sumL_le {α : Type} {f g : α → Int} {l : List α} (h : ∀ x ∈ l, f x ≤ g x) : sumL f l ≤ sumL g l := by
  induction l with
  | nil => exact Int.le_refl _
  | cons x l ih =>
    have := h x (List.mem_cons_self)
    have := ih (fun y hy => h y (List.mem_cons_of_mem _ hy))
    simp only [sumL]; omega
theorem sumL_nonneg {α : Type} {f : α → Int} {l : List α} (h : ∀ x ∈ l, 0 ≤ f x) : 0 ≤ sumL f l := by
  induction l with
  | nil => exact Int.le_refl _
  | cons x l ih =>
    have := h x (List.mem_cons_self)
    have := ih (fun y hy => h y (List.mem_cons_of_mem _ hy))
    simp only [sumL]; omega
theorem sumL_perm {α : Type} {f : α → Int} {a b : List α} (h : a.Perm b) : sumL f a = sumL f b := by
  induction h with
  | nil => rfl
  | cons x _ ih => simp only [sumL, ih]
  | swap x y l => simp only [sumL]; omega
  | trans _ _ ih1 ih2 => exact ih1.trans ih2
theorem sumL_split {α : Type} (f : α → Int) (p : α → Bool) (l : List α) : sumL f l = sumL f (l.filter p) + sumL f (l.filter fun x => !p x) := by
  induction l with
  | nil => rfl
  | cons x l ih =>
    simp only [List.filter_cons, sumL, ih]
    cases p x <;> simp [sumL] <;> omega

/-- The cost of a list of different elements in their order. -/
def costL (c : Nat → Nat → Int) : List Nat → Int
  | [] => 0
  | u :: l => sumL (c u) l + costL c l
/-- The sum of the cheaper ways of all pairs of a list. -/
def lowL (c : Nat → Nat → Int) (l : List Nat) : Int := costL (fun u v => min (c u v) (c v u)) l

theorem costL_append (c : Nat → Nat → Int) (a b : List Nat) : costL c (a ++ b) = costL c a + sumL (fun u => sumL (c u) b) a + costL c b := by
  induction a with
  | nil => simp [costL, sumL]
  | cons u a ih => simp only [List.cons_append, costL, sumL, ih, sumL_append]; omega
theorem sumL_swap {α β : Type} (f : α → β → Int) (a : List α) (b : List β) : sumL (fun x => sumL (f x) b) a = sumL (fun y => sumL (fun x => f x y) a) b := by
  induction a with
  | nil =>
    induction b with
    | nil => rfl
    | cons y b ih => simp only [sumL] at ih ⊢; rw [← ih]; rfl
  | cons x a ih => simp only [sumL, ih, ← sumL_add]
theorem lowL_perm (c : Nat → Nat → Int) {a b : List Nat} (h : a.Perm b) : lowL c a = lowL c b := by
  unfold lowL
  induction h with
  | nil => rfl
  | cons x hp ih => simp only [costL, ih, sumL_perm hp]
  | swap x y l => simp only [costL, sumL, Int.min_comm]; omega
  | trans _ _ ih1 ih2 => exact ih1.trans ih2
theorem lowL_le (c : Nat → Nat → Int) (l : List Nat) : lowL c l ≤ costL c l := by
  unfold lowL
  induction l with
  | nil => exact Int.le_refl _
  | cons u l ih =>
    simp only [costL]
    have : sumL (fun v => min (c u v) (c v u)) l ≤ sumL (c u) l := sumL_le fun v _ => Int.min_le_left _ _
    omega

/-- Lexicographically before, for lists of one length. -/
def lexLt : List Nat → List Nat → Bool
  | a :: l, b :: r => if a = b then lexLt l r else decide (a < b)
  | _, _ => false

/-- The elements of 0 .. n-1 that are not in a list. -/
def left (n : Nat) (l : List Nat) : List Nat := (List.range n).filter fun v => !l.contains v

/-- Keep the better of two, the first one at a tie. -/
def upd : Option (List Nat × Int) → List Nat × Int → Option (List Nat × Int)
  | none, x => some x
  | some y, x => if x.2 < y.2 then some x else some y

/-- The best order that begins with l, k elements being left: each of them is tried, from the least on. -/
def bestF (n : Nat) (c : Nat → Nat → Int) : Nat → List Nat → Option (List Nat × Int)
  | 0, l => some (l, costL c l)
  | k + 1, l => (left n l).foldl (fun s v => match bestF n c k (l ++ [v]) with | some x => upd s x | none => s) none

def updO (s : Option (List Nat × Int)) : Option (List Nat × Int) → Option (List Nat × Int)
  | some x => upd s x
  | none => s
theorem bestF_succ (n : Nat) (c : Nat → Nat → Int) (k : Nat) (l : List Nat) : bestF n c (k + 1) l = (left n l).foldl (fun s v => updO s (bestF n c k (l ++ [v]))) none := by
  show (left n l).foldl (fun s v => match bestF n c k (l ++ [v]) with | some x => upd s x | none => s) none = _
  rfl

theorem updO_assoc (s a b : Option (List Nat × Int)) : updO (updO s a) b = updO s (updO a b) := by
  cases s <;> cases a <;> cases b <;> simp [updO, upd]
  · split <;> simp [updO, upd] <;> (try split) <;> (try rfl) <;> simp_all <;> (try split) <;> (try rfl) <;> omega
  · rename_i s a b
    by_cases h1 : a.2 < s.2 <;> by_cases h2 : b.2 < a.2 <;> by_cases h3 : b.2 < s.2 <;> simp [updO, upd, h1, h2, h3] <;> omega
theorem updO_none (s : Option (List Nat × Int)) : updO s none = s := rfl
theorem none_updO (s : Option (List Nat × Int)) : updO none s = s := by cases s <;> rfl

theorem foldl_updO (f : Nat → Option (List Nat × Int)) : ∀ (L : List Nat) (s : Option (List Nat × Int)), L.foldl (fun s v => updO s (f v)) s = updO s (L.foldl (fun s v => updO s (f v)) none)
  | [], s => rfl
  | v :: L, s => by
    simp only [List.foldl_cons]
    rw [foldl_updO f L (updO s (f v)), foldl_updO f L (updO none (f v)), none_updO, updO_assoc]

/-- Branch and bound: the state is the best order so far. -/
def extF (n : Nat) (c : Nat → Nat → Int) : Nat → List Nat → Int → Int → Option (List Nat × Int) → Option (List Nat × Int)
  | k, l, cost, rest, s =>
    if (match s with | some y => decide (y.2 ≤ cost + rest) | none => false) then s else
    match k with
    | 0 => some (l, cost)
    | k + 1 => (left n l).foldl (fun s v => extF n c k (l ++ [v]) (cost + sumL (c v) ((left n l).filter (· != v))) (rest - sumL (fun w => min (c v w) (c w v)) ((left n l).filter (· != v))) s) s

theorem left_append (n : Nat) (l : List Nat) (v : Nat) : left n (l ++ [v]) = (left n l).filter (· != v) := by
  unfold left
  rw [List.filter_filter]
  congr 1
  funext w
  simp [List.contains_eq_mem]
  by_cases h : w ∈ l <;> by_cases h2 : w = v <;> simp [h, h2]

theorem filter_ne_perm {L : List Nat} (hnd : L.Nodup) {v : Nat} (hv : v ∈ L) : L.Perm (v :: L.filter (· != v)) := by
  induction L with
  | nil => simp at hv
  | cons x L ih =>
    rw [List.nodup_cons] at hnd
    by_cases hx : x = v
    · subst hx
      have : L.filter (· != x) = L := List.filter_eq_self.2 fun y hy => by
        have : y ≠ x := fun e => hnd.1 (e ▸ hy)
        simpa using this
      simp [this]
    · have hv' : v ∈ L := by
        rcases List.mem_cons.1 hv with h | h
        · exact absurd h.symm hx
        · exact h
      have h1 := ih hnd.2 hv'
      rw [List.filter_cons, if_pos (by simpa using hx)]
      exact (List.Perm.cons x h1).trans (List.Perm.swap v x _)

theorem left_nodup (n : Nat) (l : List Nat) : (left n l).Nodup := List.Pairwise.filter _ List.nodup_range

/-- What is fixed once l stands at the beginning. -/
def fixL (c : Nat → Nat → Int) (l r : List Nat) : Int := costL c l + sumL (fun u => sumL (c u) r) l

/-- Each result is a completion, costs what it says and no less than the bound. -/
def Sound (n : Nat) (c : Nat → Nat → Int) (l : List Nat) (x : List Nat × Int) : Prop := (∃ r, x.1 = l ++ r ∧ r.Perm (left n l)) ∧ x.2 = costL c x.1

theorem Sound.bound {n : Nat} {c : Nat → Nat → Int} {l : List Nat} {x : List Nat × Int} (h : Sound n c l x) : fixL c l (left n l) + lowL c (left n l) ≤ x.2 := by
  obtain ⟨⟨r, h1, h2⟩, h3⟩ := h
  rw [h3, h1, costL_append, ← lowL_perm c h2]
  have := lowL_le c r
  have e : sumL (fun u => sumL (c u) r) l = sumL (fun u => sumL (c u) (left n l)) l := sumL_congr fun u _ => sumL_perm h2
  unfold fixL
  omega

theorem foldl_some {α : Type} (f : Nat → Option α) (g : Option α → Option α → Option α) (P : α → Prop) (hg : ∀ s x, (∀ y, s = some y → P y) → (∀ y, x = some y → P y) → ∀ y, g s x = some y → P y) :
    ∀ (L : List Nat) (s : Option α), (∀ y, s = some y → P y) → (∀ v ∈ L, ∀ y, f v = some y → P y) → ∀ y, L.foldl (fun s v => g s (f v)) s = some y → P y
  | [], s, hs, _, y, hy => hs y hy
  | v :: L, s, hs, hf, y, hy => foldl_some f g P hg L (g s (f v)) (hg s (f v) hs (fun y hy => hf v (List.mem_cons_self) y hy)) (fun w hw => hf w (List.mem_cons_of_mem _ hw)) y hy

theorem updO_prop {P : List Nat × Int → Prop} (s x : Option (List Nat × Int)) (hs : ∀ y, s = some y → P y) (hx : ∀ y, x = some y → P y) : ∀ y, updO s x = some y → P y := by
  intro y hy
  cases x with
  | none => exact hs y hy
  | some x =>
    cases s with
    | none => exact hx y hy
    | some s =>
      simp only [updO, upd] at hy
      split at hy
      · exact hx y hy
      · exact hs y hy

theorem bestF_sound (n : Nat) (c : Nat → Nat → Int) : ∀ (k : Nat) (l : List Nat), (left n l).length = k → ∀ x, bestF n c k l = some x → Sound n c l x
  | 0, l, hk, x, hx => by
    simp only [bestF, Option.some.injEq] at hx
    subst hx
    have : left n l = [] := List.length_eq_zero_iff.1 hk
    exact ⟨⟨[], by simp, by rw [this]⟩, rfl⟩
  | k + 1, l, hk, x, hx => by
    rw [bestF_succ] at hx
    refine foldl_some (fun v => bestF n c k (l ++ [v])) updO (Sound n c l) updO_prop (left n l) none (fun y hy => by cases hy) (fun v hv y hy => ?_) x hx
    have hp := filter_ne_perm (left_nodup n l) hv
    have hl : (left n (l ++ [v])).length = k := by
      rw [left_append]
      have := hp.length_eq
      simp at this
      omega
    obtain ⟨⟨r, h1, h2⟩, h3⟩ := bestF_sound n c k (l ++ [v]) hl y hy
    refine ⟨⟨v :: r, by rw [h1]; simp, ?_⟩, h3⟩
    rw [left_append] at h2
    exact (List.Perm.cons v h2).trans hp.symm

theorem bestF_some (n : Nat) (c : Nat → Nat → Int) : ∀ (k : Nat) (l : List Nat), (left n l).length = k → (bestF n c k l).isSome = true
  | 0, l, _ => rfl
  | k + 1, l, hk => by
    rw [bestF_succ]
    cases hL : left n l with
    | nil => rw [hL] at hk; simp at hk
    | cons v L =>
      have hv : v ∈ left n l := by rw [hL]; exact List.mem_cons_self
      have hp := filter_ne_perm (left_nodup n l) hv
      have hl : (left n (l ++ [v])).length = k := by
        rw [left_append]
        have := hp.length_eq
        simp at this
        omega
      have h1 := bestF_some n c k (l ++ [v]) hl
      obtain ⟨x, hx⟩ := Option.isSome_iff_exists.1 h1
      simp only [List.foldl_cons]
      rw [none_updO, hx, foldl_updO]
      generalize List.foldl _ none L = t
      cases t with
      | none => rfl
      | some y => simp only [updO, upd]; split <;> rfl

theorem sumL_zero {α : Type} {f : α → Int} {l : List α} (h : ∀ x ∈ l, f x = 0) : sumL f l = 0 := by
  induction l with
  | nil => rfl
  | cons x l ih => simp only [sumL, h x (List.mem_cons_self), ih (fun y hy => h y (List.mem_cons_of_mem _ hy))]; rfl

theorem foldl_congr' {α β : Type} {f g : α → β → α} : ∀ {L : List β} {s : α}, (∀ s v, v ∈ L → f s v = g s v) → L.foldl f s = L.foldl g s
  | [], _, _ => rfl
  | v :: L, s, h => by
    simp only [List.foldl_cons]
    rw [h s v (List.mem_cons_self)]
    exact foldl_congr' fun s w hw => h s w (List.mem_cons_of_mem _ hw)

theorem left_len {n : Nat} {l : List Nat} {v k : Nat} (hk : (left n l).length = k + 1) (hv : v ∈ left n l) : (left n (l ++ [v])).length = k := by
  have hp := filter_ne_perm (left_nodup n l) hv
  rw [left_append]
  have := hp.length_eq
  simp at this
  omega

theorem fix_step (n : Nat) (c : Nat → Nat → Int) (l : List Nat) (v : Nat) (hv : v ∈ left n l) :
    fixL c l (left n l) + sumL (c v) ((left n l).filter (· != v)) = fixL c (l ++ [v]) (left n (l ++ [v])) := by
  have hp := filter_ne_perm (left_nodup n l) hv
  rw [left_append]
  unfold fixL
  rw [costL_append, sumL_append]
  have e1 : sumL (fun u => sumL (c u) (left n l)) l = sumL (fun u => c u v) l + sumL (fun u => sumL (c u) ((left n l).filter (· != v))) l := by
    rw [← sumL_add]
    exact sumL_congr fun u _ => (sumL_perm hp).trans rfl
  have e2 : sumL (fun u => sumL (c u) [v]) l = sumL (fun u => c u v) l := sumL_congr fun u _ => by simp [sumL]
  rw [e1, e2]
  simp [costL, sumL]
  omega
theorem low_step (n : Nat) (c : Nat → Nat → Int) (l : List Nat) (v : Nat) (hv : v ∈ left n l) :
    lowL c (left n l) - sumL (fun w => min (c v w) (c w v)) ((left n l).filter (· != v)) = lowL c (left n (l ++ [v])) := by
  have hp := filter_ne_perm (left_nodup n l) hv
  rw [left_append, lowL_perm c hp]
  unfold lowL
  simp only [costL]
  omega

/-- Branch and bound finds what exhaustive search finds. -/
theorem extF_eq (n : Nat) (c : Nat → Nat → Int) : ∀ (k : Nat) (l : List Nat) (s : Option (List Nat × Int)), (left n l).length = k →
    extF n c k l (fixL c l (left n l)) (lowL c (left n l)) s = updO s (bestF n c k l) := by
  intro k
  induction k with
  | zero =>
    intro l s hk
    have h0 : left n l = [] := List.length_eq_zero_iff.1 hk
    have e1 : fixL c l [] = costL c l := by
      unfold fixL
      rw [show sumL (fun u => sumL (c u) []) l = 0 from sumL_zero (fun u _ => rfl)]
      omega
    rw [extF.eq_def, h0, e1, show lowL c [] = 0 from rfl]
    cases s with
    | none => simp [bestF, updO, upd]
    | some y =>
      simp only [bestF, updO, upd, Int.add_zero, decide_eq_true_eq]
      by_cases h : y.2 ≤ costL c l
      · rw [if_pos h, if_neg (by omega)]
      · rw [if_neg h, if_pos (by omega)]
  | succ k ih =>
    intro l s hk
    have hfold : (left n l).foldl (fun s v => extF n c k (l ++ [v]) (fixL c l (left n l) + sumL (c v) ((left n l).filter (· != v))) (lowL c (left n l) - sumL (fun w => min (c v w) (c w v)) ((left n l).filter (· != v))) s) s =
        updO s (bestF n c (k + 1) l) := by
      rw [bestF_succ, ← foldl_updO]
      refine foldl_congr' fun s v hv => ?_
      rw [fix_step n c l v hv, low_step n c l v hv]
      exact ih (l ++ [v]) s (left_len hk hv)
    obtain ⟨x, hx⟩ := Option.isSome_iff_exists.1 (bestF_some n c (k + 1) l hk)
    have hb := (bestF_sound n c (k + 1) l hk x hx).bound
    rw [extF.eq_def]
    cases s with
    | none => simpa using hfold
    | some y =>
      simp only [decide_eq_true_eq]
      by_cases h : y.2 ≤ fixL c l (left n l) + lowL c (left n l)
      · rw [if_pos h, hx]
        simp only [updO, upd]
        rw [if_neg (by omega)]
      · rw [if_neg h]
        exact hfold

/-! ### The result is the least, and the first of the least -/
theorem fold_first (f : Nat → Option (List Nat × Int)) : ∀ (L : List Nat) (s : Option (List Nat × Int)), L.Pairwise (· < ·) → ∀ x, L.foldl (fun s v => updO s (f v)) s = some x →
    (s = some x ∨ ∃ v0 ∈ L, f v0 = some x ∧ ∀ z, s = some z → x.2 < z.2) ∧ (∀ z, s = some z → x.2 ≤ z.2) ∧
    ∀ v ∈ L, ∀ y, f v = some y → x.2 ≤ y.2 ∧ (x.2 = y.2 → s = some x ∨ ∃ v0 ∈ L, v0 ≤ v ∧ f v0 = some x)
  | [], s, _, x, h => ⟨.inl h, fun z hz => by rw [show s = some x from h] at hz; cases hz; exact Int.le_refl _, fun v hv => by simp at hv⟩
  | v :: L, s, hp, x, h => by
    rw [List.pairwise_cons] at hp
    simp only [List.foldl_cons] at h
    obtain ⟨h1, h2, h3⟩ := fold_first f L (updO s (f v)) hp.2 x h
    -- what one step does
    have step : ∀ z, updO s (f v) = some z → s = some z ∨ (f v = some z ∧ ∀ z', s = some z' → z.2 < z'.2) := by
      intro z hz
      cases hf : f v with
      | none => rw [hf] at hz; exact .inl hz
      | some y =>
        rw [hf] at hz
        cases s with
        | none => simp only [updO, upd, Option.some.injEq] at hz; subst hz; exact .inr ⟨rfl, fun z' hz' => by cases hz'⟩
        | some a =>
          simp only [updO, upd] at hz
          split at hz
          · rename_i hlt
            simp only [Option.some.injEq] at hz
            subst hz
            exact .inr ⟨rfl, fun z' hz' => by cases hz'; exact hlt⟩
          · exact .inl hz
    have mono : ∀ z, s = some z → ∃ z', updO s (f v) = some z' ∧ z'.2 ≤ z.2 := by
      intro z hz
      subst hz
      cases hf : f v with
      | none => exact ⟨z, rfl, Int.le_refl _⟩
      | some y =>
        simp only [updO, upd]
        by_cases hlt : y.2 < z.2
        · rw [if_pos hlt]; exact ⟨y, rfl, by omega⟩
        · rw [if_neg hlt]; exact ⟨z, rfl, Int.le_refl _⟩
    have own : ∀ y, f v = some y → ∃ z', updO s (f v) = some z' ∧ z'.2 ≤ y.2 := by
      intro y hy
      rw [hy]
      cases s with
      | none => exact ⟨y, rfl, Int.le_refl _⟩
      | some a =>
        simp only [updO, upd]
        by_cases hlt : y.2 < a.2
        · rw [if_pos hlt]; exact ⟨y, rfl, Int.le_refl _⟩
        · rw [if_neg hlt]; exact ⟨a, rfl, by omega⟩
    refine ⟨?_, ?_, ?_⟩
    · rcases h1 with h1 | ⟨v0, hv0, hfv0, hlt⟩
      · rcases step x h1 with h | ⟨h, hl⟩
        · exact .inl h
        · exact .inr ⟨v, List.mem_cons_self, h, hl⟩
      · refine .inr ⟨v0, List.mem_cons_of_mem _ hv0, hfv0, fun z hz => ?_⟩
        obtain ⟨z', hz', hle⟩ := mono z hz
        have := hlt z' hz'
        omega
    · intro z hz
      obtain ⟨z', hz', hle⟩ := mono z hz
      have := h2 z' hz'
      omega
    · intro w hw y hy
      rcases List.mem_cons.1 hw with rfl | hw
      · obtain ⟨z', hz', hle⟩ := own y hy
        have hxz := h2 z' hz'
        refine ⟨by omega, fun he => ?_⟩
        rcases h1 with h1 | ⟨v0, hv0, hfv0, hlt⟩
        · rcases step x h1 with h | ⟨h, hl⟩
          · exact .inl h
          · exact .inr ⟨w, List.mem_cons_self, Nat.le_refl _, h⟩
        · have := hlt z' hz'
          omega
      · obtain ⟨g1, g2⟩ := h3 w hw y hy
        refine ⟨g1, fun he => ?_⟩
        rcases g2 he with h | ⟨v0, hv0, hle, hf0⟩
        · rcases step x h with h | ⟨h, hl⟩
          · exact .inl h
          · exact .inr ⟨v, List.mem_cons_self, Nat.le_of_lt (hp.1 w hw), h⟩
        · exact .inr ⟨v0, List.mem_cons_of_mem _ hv0, hle, hf0⟩

theorem left_sorted (n : Nat) (l : List Nat) : (left n l).Pairwise (· < ·) := List.Pairwise.filter _ List.pairwise_lt_range

theorem lexLt_append (l a b : List Nat) : lexLt (l ++ a) (l ++ b) = lexLt a b := by
  induction l with
  | nil => rfl
  | cons x l ih => simp [lexLt, ih]

theorem bestF_least (n : Nat) (c : Nat → Nat → Int) : ∀ (k : Nat) (l : List Nat), (left n l).length = k → ∀ x, bestF n c k l = some x → ∀ r, r.Perm (left n l) →
    x.2 ≤ costL c (l ++ r) ∧ (x.2 = costL c (l ++ r) → lexLt (l ++ r) x.1 = false)
  | 0, l, hk, x, hx, r, hr => by
    have : left n l = [] := List.length_eq_zero_iff.1 hk
    rw [this] at hr
    have := hr.eq_nil
    subst this
    simp only [bestF, Option.some.injEq] at hx
    subst hx
    simp only [List.append_nil]
    refine ⟨Int.le_refl _, fun _ => ?_⟩
    have := lexLt_append l [] []
    simpa [lexLt] using this
  | k + 1, l, hk, x, hx, r, hr => by
    have hs := bestF_sound n c (k + 1) l hk x hx
    rw [bestF_succ] at hx
    cases r with
    | nil =>
      have := hr.length_eq
      simp [hk] at this
    | cons v r =>
      have hv : v ∈ left n l := hr.mem_iff.1 List.mem_cons_self
      have hk' := left_len hk hv
      have hr' : r.Perm (left n (l ++ [v])) := by
        rw [left_append]
        exact (hr.trans (filter_ne_perm (left_nodup n l) hv)).cons_inv
      obtain ⟨y, hy⟩ := Option.isSome_iff_exists.1 (bestF_some n c k (l ++ [v]) hk')
      obtain ⟨h1, h2, h3⟩ := fold_first _ (left n l) none (left_sorted n l) x hx
      obtain ⟨g1, g2⟩ := h3 v hv y hy
      obtain ⟨f1, f2⟩ := bestF_least n c k (l ++ [v]) hk' y hy r hr'
      rw [List.append_assoc] at f1 f2
      simp only [List.singleton_append] at f1 f2
      refine ⟨by omega, fun he => ?_⟩
      rcases g2 (by omega) with h | ⟨v0, hv0, hle, hf0⟩
      · cases h
      · obtain ⟨⟨r0, e0, p0⟩, _⟩ := bestF_sound n c k (l ++ [v0]) (left_len hk hv0) x hf0
        by_cases hvv : v0 = v
        · subst hvv
          have : x = y := Option.some.inj (hf0.symm.trans hy)
          subst this
          exact f2 (by omega)
        · rw [e0, List.append_assoc, lexLt_append]
          simp only [List.singleton_append, lexLt]
          rw [if_neg (Ne.symm hvv)]
          simp
          omega

end Go.Proofs.Ytnodgagmnekliaa
