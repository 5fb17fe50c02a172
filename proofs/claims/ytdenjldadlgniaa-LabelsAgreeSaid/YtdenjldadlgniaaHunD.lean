/- The Hungarian method, plain: what is left at the end is the least cost. -/
import Derived.Test.YtdenjldadlgniaaHunC
set_option linter.unusedSimpArgs false
set_option linter.unusedVariables false
namespace Go.Proofs.Ytdenjldadlgniaa

/-- The number in row u, column v. -/
def at2 (m : List (List Int)) (u v : Nat) : Int := ge (rowOf m u) v
/-- The number of columns. -/
def kO (m : List (List Int)) : Nat := (rowOf m 0).length
/-- A matrix of costs. -/
structure vA (m : List (List Int)) : Prop where
  n16 : m.length ≤ 16
  sq : ∀ u, u < m.length → (rowOf m u).length = kO m
  k64 : 0 < m.length → kO m ≤ 64
  nk : 0 < m.length → m.length ≤ kO m
  b : ∀ u, u < m.length → ∀ v, v < kO m → -1 ≤ at2 m u v ∧ at2 m u v ≤ 1000000

/-! ### Sums -/
def sumN (f : Nat → Int) : Nat → Int
  | 0 => 0
  | n + 1 => sumN f n + f n
theorem sumN_congr {f g : Nat → Int} : ∀ {n : Nat}, (∀ i, i < n → f i = g i) → sumN f n = sumN g n
  | 0, _ => rfl
  | n + 1, h => by rw [sumN, sumN, sumN_congr (fun i hi => h i (by omega)), h n (by omega)]
theorem sumN_le {f g : Nat → Int} : ∀ {n : Nat}, (∀ i, i < n → f i ≤ g i) → sumN f n ≤ sumN g n
  | 0, _ => Int.le_refl _
  | n + 1, h => by
    have := sumN_le (n := n) (fun i hi => h i (by omega))
    have := h n (by omega)
    rw [sumN, sumN]
    omega
theorem sumN_add (f g : Nat → Int) : ∀ n, sumN (fun i => f i + g i) n = sumN f n + sumN g n
  | 0 => rfl
  | n + 1 => by rw [sumN, sumN, sumN, sumN_add f g n]; omega
theorem sumN_zero {f : Nat → Int} : ∀ {n : Nat}, (∀ i, i < n → f i = 0) → sumN f n = 0
  | 0, _ => rfl
  | n + 1, h => by rw [sumN, sumN_zero (fun i hi => h i (by omega)), h n (by omega)]; rfl
theorem sumN_swap (F : Nat → Nat → Int) (k : Nat) : ∀ n, sumN (fun r => sumN (fun c => F r c) k) n = sumN (fun c => sumN (fun r => F r c) n) k
  | 0 => (sumN_zero fun _ _ => rfl).symm
  | n + 1 => by
    rw [sumN, sumN_swap F k n, ← sumN_add]
    exact sumN_congr fun i _ => by rw [sumN]
/-- One term only. -/
theorem sumN_one {f : Nat → Int} : ∀ {n : Nat} {i : Nat}, i < n → (∀ j, j < n → j ≠ i → f j = 0) → sumN f n = f i
  | 0, i, h, _ => by omega
  | n + 1, i, h, h2 => by
    rw [sumN]
    by_cases e : i = n
    · subst e
      rw [sumN_zero (fun j hj => h2 j (by omega) (by omega))]
      omega
    · rw [sumN_one (i := i) (by omega) (fun j hj hne => h2 j (by omega) hne), h2 n (by omega) (by omega)]
      omega
theorem sumN_nonneg {f : Nat → Int} {n : Nat} (h : ∀ i, i < n → 0 ≤ f i) : 0 ≤ sumN f n := by
  have := sumN_le (f := fun _ => 0) (g := f) h
  rw [sumN_zero (fun _ _ => rfl)] at this
  exact this
theorem sumN_ge {f : Nat → Int} {n i : Nat} (hi : i < n) (h : ∀ j, j < n → 0 ≤ f j) : f i ≤ sumN f n := by
  have h1 := sumN_le (f := fun j => if j = i then f i else 0) (g := f) (n := n) (fun j hj => by
    split
    · rename_i e; subst e; exact Int.le_refl _
    · exact h j hj)
  rw [sumN_one hi (fun j _ hne => if_neg hne), if_pos rfl] at h1
  exact h1

/-! ### Assignments -/
structure Asg (m : List (List Int)) (a : List Nat) : Prop where
  l : a.length = m.length
  nd : ∀ i j, i < m.length → j < m.length → gn a i = gn a j → i = j
  lt : ∀ i, i < m.length → gn a i < kO m
  ok : ∀ i, i < m.length → 0 ≤ at2 m i (gn a i)
def costN (m : List (List Int)) (a : List Nat) : Int := sumN (fun i => at2 m i (gn a i)) m.length
/-- z is the least cost of an assignment, or far if there is none. -/
def LeastV (m : List (List Int)) (z : Int) : Prop :=
  (z < (1099511627776 : Int) ∧ (∃ a, Asg m a ∧ costN m a = z) ∧ ∀ a, Asg m a → z ≤ costN m a) ∨ (z = (1099511627776 : Int) ∧ ∀ a, ¬ Asg m a)
theorem costN_lt {m : List (List Int)} (hV : vA m) {a : List Nat} (h : Asg m a) : 0 ≤ costN m a ∧ costN m a ≤ 16000000 := by
  refine ⟨sumN_nonneg fun i hi => h.ok i hi, ?_⟩
  have h1 : costN m a ≤ sumN (fun _ => 1000000) m.length := sumN_le fun i hi => (hV.b i hi _ (h.lt i hi)).2
  have h2 : ∀ n : Nat, sumN (fun _ => 1000000) n = n * 1000000 := fun n => by
    induction n with
    | zero => rfl
    | succ n ih => rw [sumN, ih]; push_cast; omega
  have := hV.n16
  rw [h2] at h1
  omega
theorem LeastV.unique {m : List (List Int)} {z z' : Int} (h : LeastV m z) (h' : LeastV m z') : z = z' := by
  rcases h with ⟨h1, ⟨a, h2, h3⟩, h4⟩ | ⟨h1, h2⟩
  · rcases h' with ⟨g1, ⟨b, g2, g3⟩, g4⟩ | ⟨g1, g2⟩
    · have := h4 b g2
      have := g4 a h2
      omega
    · exact absurd h2 (g2 a)
  · rcases h' with ⟨g1, ⟨b, g2, g3⟩, g4⟩ | ⟨g1, g2⟩
    · exact absurd g2 (h2 b)
    · omega

/-- The cost with which the method reckons. -/
def cst (m : List (List Int)) (r c : Nat) : Int := if at2 m (r - 1) (c - 1) < 0 then (1099511627776 : Int) else at2 m (r - 1) (c - 1)
theorem cst_ok {m : List (List Int)} (hV : vA m) (h0 : 0 < m.length) : CostOK m.length (kO m) (cst m) := by
  refine ⟨hV.n16, hV.k64 h0, hV.nk h0, fun r c h1 h2 h3 h4 => ?_⟩
  have := hV.b (r - 1) (by omega) (c - 1) (by omega)
  unfold cst
  split <;> omega
/-- The cost of what is matched. -/
def mSum (m : List (List Int)) (row : List Nat) : Nat → Int := sumN fun c => if 0 < gn row (c + 1) then cst m (gn row (c + 1)) (c + 1) else 0

theorem sum_match {n k : Nat} {C : Nat → Nat → Int} {u v : List Int} {row : List Nat} {b : Int} (h : Mt n k C n n u v row b) (F : Nat → Nat → Int) :
    sumN (fun r => sumN (fun c => if gn row (c + 1) = r + 1 then F r c else 0) k) n = sumN (fun c => if 0 < gn row (c + 1) then F (gn row (c + 1) - 1) c else 0) k := by
  rw [sumN_swap]
  refine sumN_congr fun c hc => ?_
  split
  · rename_i hp
    have := h.rle (c + 1) (by omega) (by omega)
    rw [sumN_one (i := gn row (c + 1) - 1) (by omega) (fun j hj hne => if_neg (by omega)), if_pos (by omega)]
  · rename_i hp
    exact sumN_zero fun j hj => if_neg (by omega)
theorem match_dual {n k : Nat} {C : Nat → Nat → Int} {u v : List Int} {row : List Nat} {b : Int} (h : Mt n k C n n u v row b) :
    sumN (fun c => if 0 < gn row (c + 1) then C (gn row (c + 1)) (c + 1) else 0) k = sumN (fun r => ge u (r + 1)) n + sumN (fun c => ge v (c + 1)) k := by
  have h1 : sumN (fun r => ge u (r + 1)) n = sumN (fun c => if 0 < gn row (c + 1) then ge u (gn row (c + 1)) else 0) k := by
    have e := sum_match h (fun r _ => ge u (r + 1))
    have e2 : sumN (fun r => sumN (fun c => if gn row (c + 1) = r + 1 then ge u (r + 1) else 0) k) n = sumN (fun r => ge u (r + 1)) n := sumN_congr fun r hr => by
      obtain ⟨c, c1, c2, c3⟩ := h.cov (r + 1) (by omega) (by omega)
      rw [sumN_one (i := c - 1) (by omega) (fun j hj hne => if_neg fun e => hne (by
        have := h.inj (j + 1) c (by omega) (by omega) c1 c2 (by omega) (by omega)
        omega)), if_pos (by rw [show c - 1 + 1 = c by omega]; exact c3)]
    rw [← e2, e]
    refine sumN_congr fun c hc => ?_
    split
    · rename_i hp
      rw [show gn row (c + 1) - 1 + 1 = gn row (c + 1) by omega]
    · rfl
  rw [h1, ← sumN_add]
  refine sumN_congr fun c hc => ?_
  split
  · rename_i hp
    exact h.tight (c + 1) (by omega) (by omega) hp
  · rename_i hp
    rw [h.vfree (c + 1) (by omega) (by omega) (by omega)]
    rfl
/-- No assignment costs less. -/
theorem match_least {m : List (List Int)} {u v : List Int} {row : List Nat} {b : Int} (h : Mt m.length (kO m) (cst m) m.length m.length u v row b) {a : List Nat} (ha : Asg m a) : mSum m row (kO m) ≤ costN m a := by
  unfold mSum
  rw [match_dual h]
  have h1 : sumN (fun c => ge v (c + 1)) (kO m) ≤ sumN (fun r => ge v (gn a r + 1)) m.length := by
    have e : sumN (fun r => sumN (fun c => if gn a r = c then ge v (c + 1) else 0) (kO m)) m.length = sumN (fun r => ge v (gn a r + 1)) m.length := sumN_congr fun r hr => by
      rw [sumN_one (ha.lt r hr) (fun j hj hne => if_neg (Ne.symm hne)), if_pos rfl]
    rw [← e, sumN_swap]
    refine sumN_le fun c hc => ?_
    by_cases hx : ∃ r, r < m.length ∧ gn a r = c
    · obtain ⟨r, hr, rfl⟩ := hx
      rw [sumN_one hr (fun j hj hne => if_neg fun e => hne (ha.nd j r hj hr e)), if_pos rfl]
      exact Int.le_refl _
    · rw [sumN_zero (fun r hr => if_neg fun e => hx ⟨r, hr, e⟩)]
      exact (h.vb (c + 1) (by omega)).2
  have h2 : sumN (fun r => ge u (r + 1)) m.length + sumN (fun r => ge v (gn a r + 1)) m.length ≤ costN m a := by
    rw [← sumN_add]
    refine sumN_le fun r hr => ?_
    have := h.red (r + 1) (gn a r + 1) (by omega) (by omega) (by omega) (by have := ha.lt r hr; omega)
    have h3 := ha.ok r hr
    unfold cst at this
    rw [Nat.add_sub_cancel, Nat.add_sub_cancel, if_neg (by omega)] at this
    omega
  omega
theorem choose_list (n : Nat) {P : Nat → Nat → Prop} (h : ∀ r, r < n → ∃ c, P r c) : ∃ a : List Nat, a.length = n ∧ ∀ r, r < n → P r (gn a r) := by
  induction n with
  | zero => exact ⟨[], rfl, fun r hr => by omega⟩
  | succ n ih =>
    obtain ⟨a, h1, h2⟩ := ih (fun r hr => h r (by omega))
    obtain ⟨c, hc⟩ := h n (by omega)
    refine ⟨a ++ [c], by simp [h1], fun r hr => ?_⟩
    by_cases e : r = n
    · subst e
      rw [gn_eq _ (by simp [h1])]
      simp [← h1]
      rw [h1]
      exact hc
    · have := h2 r (by omega)
      rw [gn_eq a (by omega)] at this
      rw [gn_eq _ (by simp [h1]; omega), List.getElem_append_left (by omega)]
      exact this
theorem match_asg {m : List (List Int)} {u v : List Int} {row : List Nat} {b : Int} (h : Mt m.length (kO m) (cst m) m.length m.length u v row b)
    (hok : ∀ c, c < kO m → 0 < gn row (c + 1) → 0 ≤ at2 m (gn row (c + 1) - 1) c) : ∃ a, Asg m a ∧ costN m a = mSum m row (kO m) := by
  obtain ⟨a, hl, ha⟩ := choose_list m.length (P := fun r c => c < kO m ∧ gn row (c + 1) = r + 1) (fun r hr => by
    obtain ⟨c, c1, c2, c3⟩ := h.cov (r + 1) (by omega) (by omega)
    exact ⟨c - 1, by omega, by rw [show c - 1 + 1 = c by omega]; exact c3⟩)
  have hok' : ∀ r, r < m.length → 0 ≤ at2 m r (gn a r) := fun r hr => by
    obtain ⟨a1, a2⟩ := ha r hr
    have := hok _ a1 (by omega)
    rw [a2, Nat.add_sub_cancel] at this
    exact this
  refine ⟨a, ⟨hl, fun i j hi hj e => ?_, fun i hi => (ha i hi).1, hok'⟩, ?_⟩
  · have h1 := (ha i hi).2
    have h2 := (ha j hj).2
    rw [e] at h1
    omega
  · have e := sum_match h (fun r c => cst m (r + 1) (c + 1))
    have e2 : sumN (fun r => sumN (fun c => if gn row (c + 1) = r + 1 then cst m (r + 1) (c + 1) else 0) (kO m)) m.length = costN m a := sumN_congr fun r hr => by
      obtain ⟨a1, a2⟩ := ha r hr
      rw [sumN_one a1 (fun j hj hne => if_neg fun e => hne (by
        have := h.inj (j + 1) (gn a r + 1) (by omega) (by omega) (by omega) (by omega) (by omega) (by omega)
        omega)), if_pos a2]
      unfold cst
      rw [Nat.add_sub_cancel, Nat.add_sub_cancel, if_neg (by have := hok' r hr; omega)]
    rw [← e2, e]
    unfold mSum
    refine sumN_congr fun c hc => ?_
    split
    · rename_i hp
      rw [show gn row (c + 1) - 1 + 1 = gn row (c + 1) by omega]
    · rfl
theorem least_found {m : List (List Int)} (hV : vA m) {u v : List Int} {row : List Nat} {b : Int} (h : Mt m.length (kO m) (cst m) m.length m.length u v row b)
    (hok : ∀ c, c < kO m → 0 < gn row (c + 1) → 0 ≤ at2 m (gn row (c + 1) - 1) c) : LeastV m (mSum m row (kO m)) := by
  obtain ⟨a, ha, hc⟩ := match_asg h hok
  refine Or.inl ⟨?_, ⟨a, ha, hc⟩, fun x hx => match_least h hx⟩
  have := (costN_lt hV ha).2
  omega
theorem least_far {m : List (List Int)} (hV : vA m) {u v : List Int} {row : List Nat} {b : Int} (h : Mt m.length (kO m) (cst m) m.length m.length u v row b)
    {c : Nat} (hc : c < kO m) (hp : 0 < gn row (c + 1)) (hn : at2 m (gn row (c + 1) - 1) c < 0) : LeastV m (1099511627776 : Int) := by
  refine Or.inr ⟨rfl, fun a ha => ?_⟩
  have h1 := match_least h ha
  have h2 := (costN_lt hV ha).2
  have h3 := sumN_ge (f := fun c => if 0 < gn row (c + 1) then cst m (gn row (c + 1)) (c + 1) else 0) hc (fun j hj => by
    split
    · rename_i hq
      have := hV.b (gn row (j + 1) - 1) (by have := h.rle (j + 1) (by omega) (by omega); omega) j hj
      unfold cst
      rw [Nat.add_sub_cancel]
      split <;> omega
    · exact Int.le_refl _)
  have e : (if 0 < gn row (c + 1) then cst m (gn row (c + 1)) (c + 1) else 0) = (1099511627776 : Int) := by
    rw [if_pos hp]
    unfold cst
    rw [Nat.add_sub_cancel, if_pos hn]
  have h4 : (1099511627776 : Int) ≤ mSum m row (kO m) := by
    rw [← e]
    exact h3
  omega
end Go.Proofs.Ytdenjldadlgniaa
