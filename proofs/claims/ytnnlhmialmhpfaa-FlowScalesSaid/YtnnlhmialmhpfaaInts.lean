/- Slices of integers, and slices of them, as they are read. Contracts of the library's searches. -/
import Derived.Test.YtnnlhmialmhpfaaBase
import Derived.Test.YtnnlhmialmhpfaaLex
set_option linter.unusedSimpArgs false
set_option linter.unusedVariables false
namespace Go.Proofs.Ytnnlhmialmhpfaa
open Go.RowKit

/-- The number at place i of a list (a name that simp does not open). -/
def ge (xs : List Int) (i : Nat) : Int := xs.getD i 0
theorem ge_cons_succ (x : Int) (l : List Int) (i : Nat) : ge (x :: l) (i + 1) = ge l i := by simp [ge]
theorem ge_cons_zero (x : Int) (l : List Int) : ge (x :: l) 0 = x := by simp [ge]
theorem ge_eq (xs : List Int) {i : Nat} (h : i < xs.length) : ge xs i = xs[i] := by simp [ge, h]
theorem ge_mem {xs : List Int} {i : Nat} (h : i < xs.length) : ge xs i ∈ xs := by rw [ge_eq xs h]; exact List.getElem_mem h
theorem ret_bool {a b : Bool} (h : a = b) : Ending.returned (.bool a) = .returned (.bool b) := by rw [h]
theorem ret_int {k : IntKind} {a b : Int} (h : a = b) : Ending.returned (.int k a) = .returned (.int k b) := by rw [h]

/-- A slice that starts at p reads as xs. -/
def Ints (w : World) (p : Option Addr) (xs : List Int) : Prop :=
  xs.length ≤ 9223372036854775807 ∧ (∀ x ∈ xs, -9223372036854775808 ≤ x ∧ x ≤ 9223372036854775807) ∧
  ∃ b o, (0 < xs.length → p = some ⟨b, o, none⟩ ∧ b < w.heap.size) ∧ ∀ i, i < xs.length → w.cell? ⟨b, o + i, none⟩ = some (.int .i64 (ge xs i))

theorem Ints.grew {w w' : World} {p : Option Addr} {xs : List Int} (h : Ints w p xs) (hg : Grew w w') : Ints w' p xs := by
  obtain ⟨h1, h2, b, o, h3, h4⟩ := h
  refine ⟨h1, h2, b, o, fun hp => ⟨(h3 hp).1, Nat.lt_of_lt_of_le (h3 hp).2 hg.below.size⟩, fun i hi => ?_⟩
  rw [hg.below.cell (p := ⟨b, o + i, none⟩) (h3 (by omega)).2]
  exact h4 i hi

theorem Ints.nil (w : World) (p : Option Addr) : Ints w p [] := ⟨by simp, by simp, 0, 0, by simp, by simp⟩

/-- The first index of v, -1 if there is none. -/
def idx (v : Int) : List Int → Int
  | [] => -1
  | x :: l => if v = x then 0 else if idx v l = -1 then -1 else idx v l + 1
theorem idx_take_none {v : Int} {xs : List Int} : (∀ i, i < xs.length → v ≠ ge xs i) → idx v xs = -1 := by
  induction xs with
  | nil => intro _; rfl
  | cons x l ih =>
    intro h
    have h0 := h 0 (by simp)
    rw [ge_cons_zero] at h0
    rw [idx, if_neg h0, ih (fun i hi => by have := h (i + 1) (by simpa using hi); rwa [ge_cons_succ] at this)]
    rfl
theorem idx_first {v : Int} {xs : List Int} : ∀ (k : Nat), k < xs.length → (∀ i, i < k → v ≠ ge xs i) → v = ge xs k → idx v xs = k := by
  induction xs with
  | nil => intro k hk; simp at hk
  | cons x l ih =>
    intro k hk h he
    cases k with
    | zero => rw [ge_cons_zero] at he; rw [idx, if_pos he]; rfl
    | succ k =>
      have h0 := h 0 (by omega)
      rw [ge_cons_zero] at h0
      have := ih k (by simpa using hk) (fun i hi => by have := h (i + 1) (by omega); rwa [ge_cons_succ] at this) (by rwa [ge_cons_succ] at he)
      rw [idx, if_neg h0, this, if_neg (by omega)]
      omega
theorem idx_mem {v : Int} {xs : List Int} : 0 ≤ idx v xs ↔ v ∈ xs := by
  induction xs with
  | nil => simp [idx]
  | cons x l ih =>
    rw [idx]
    by_cases h : v = x
    · simp [h]
    · rw [if_neg h]
      have hlo : -1 ≤ idx v l := by
        clear ih
        induction l with
        | nil => simp [idx]
        | cons y l ih => rw [idx]; repeat' split
                         all_goals omega
      simp only [List.mem_cons, h, false_or, ← ih]
      split <;> omega

/-- Row u of a matrix (a name that simp does not open). -/
def rowOf (m : List (List Int)) (u : Nat) : List Int := m.getD u []
theorem rowOf_eq (m : List (List Int)) {u : Nat} (h : u < m.length) : rowOf m u = m[u] := by simp [rowOf, h]

/-- A slice of slices that starts at p reads as m. -/
def Mat (w : World) (p : Option Addr) (m : List (List Int)) : Prop :=
  m.length ≤ 9223372036854775807 ∧ ∃ b o, ∃ rp : Nat → Option Addr, ∃ rc : Nat → Nat, (0 < m.length → p = some ⟨b, o, none⟩ ∧ b < w.heap.size) ∧
    ∀ u, u < m.length → w.cell? ⟨b, o + u, none⟩ = some (.slice (rp u) (rowOf m u).length (rc u)) ∧ Ints w (rp u) (rowOf m u)

theorem Mat.grew {w w' : World} {p : Option Addr} {m : List (List Int)} (h : Mat w p m) (hg : Grew w w') : Mat w' p m := by
  obtain ⟨h1, b, o, rp, rc, h3, h4⟩ := h
  refine ⟨h1, b, o, rp, rc, fun hp => ⟨(h3 hp).1, Nat.lt_of_lt_of_le (h3 hp).2 hg.below.size⟩, fun u hu => ?_⟩
  rw [hg.below.cell (p := ⟨b, o + u, none⟩) (h3 (by omega)).2]
  exact ⟨(h4 u hu).1, (h4 u hu).2.grew hg⟩

/-- What a walk wants of a row. -/
theorem Ints.open {w : World} {p : Option Addr} {xs : List Int} (h : Ints w p xs) : ∃ b o, (0 < xs.length → p = some ⟨b, o, none⟩ ∧ b < w.heap.size) ∧ ∀ i, i < xs.length → w.cell? ⟨b, o + i, none⟩ = some (.int .i64 (ge xs i)) := h.2.2

def gn (xs : List Nat) (i : Nat) : Nat := xs.getD i 0
theorem gn_eq (xs : List Nat) {i : Nat} (h : i < xs.length) : gn xs i = xs[i] := by simp [gn, h]
theorem ge_set (xs : List Int) {i : Nat} (h : i < xs.length) (x : Int) (j : Nat) : ge (xs.set i x) j = if j = i then x else ge xs j := by
  unfold ge
  rw [List.getD_eq_getElem?_getD, List.getD_eq_getElem?_getD, List.getElem?_set]
  by_cases e : i = j
  · subst e
    simp [h]
  · rw [if_neg e, if_neg (Ne.symm e)]
theorem gn_set (xs : List Nat) {i : Nat} (h : i < xs.length) (x : Nat) (j : Nat) : gn (xs.set i x) j = if j = i then x else gn xs j := by
  unfold gn
  rw [List.getD_eq_getElem?_getD, List.getD_eq_getElem?_getD, List.getElem?_set]
  by_cases e : i = j
  · subst e
    simp [h]
  · rw [if_neg e, if_neg (Ne.symm e)]


/-- Numbers that are all different and lie below n are at most n. -/
theorem nodup_len : ∀ (n : Nat) {l : List Nat}, l.Nodup → (∀ u ∈ l, u < n) → l.length ≤ n
  | 0, l, _, hl => by
    cases l with
    | nil => simp
    | cons a l => exact absurd (hl a (by simp)) (by omega)
  | n + 1, l, h, hl => by
    have h1 : (l.erase n).Nodup := h.erase n
    have h2 := nodup_len n h1 (fun u hu => by
      have hne : u ≠ n := fun e => by subst e; exact (List.Nodup.mem_erase_iff h).1 hu |>.1 rfl
      have := hl u (List.mem_of_mem_erase hu)
      omega)
    have := List.length_erase (a := n) (l := l)
    split at this <;> omega

/-! ### Sums -/
def sumN (f : Nat → Int) : Nat → Int
  | 0 => 0
  | n + 1 => sumN f n + f n
theorem sumN_congr {f g : Nat → Int} : ∀ {n : Nat}, (∀ i, i < n → f i = g i) → sumN f n = sumN g n
  | 0, _ => rfl
  | n + 1, h => by rw [sumN, sumN, sumN_congr (fun i hi => h i (by omega)), h n (by omega)]
theorem sumN_le {f g : Nat → Int} : ∀ {n : Nat}, (∀ i, i < n → f i ≤ g i) → sumN f n ≤ sumN g n
  | 0, _ => Int.le_refl _
  | n + 1, h => by
    have := sumN_le (n := n) (fun i hi => h i (by omega))
    have := h n (by omega)
    rw [sumN, sumN]
    omega
theorem sumN_add (f g : Nat → Int) : ∀ n, sumN (fun i => f i + g i) n = sumN f n + sumN g n
  | 0 => rfl
  | n + 1 => by rw [sumN, sumN, sumN, sumN_add f g n]; omega
theorem sumN_zero {f : Nat → Int} : ∀ {n : Nat}, (∀ i, i < n → f i = 0) → sumN f n = 0
  | 0, _ => rfl
  | n + 1, h => by rw [sumN, sumN_zero (fun i hi => h i (by omega)), h n (by omega)]; rfl
theorem sumN_swap (F : Nat → Nat → Int) (k : Nat) : ∀ n, sumN (fun r => sumN (fun c => F r c) k) n = sumN (fun c => sumN (fun r => F r c) n) k
  | 0 => (sumN_zero fun _ _ => rfl).symm
  | n + 1 => by
    rw [sumN, sumN_swap F k n, ← sumN_add]
    exact sumN_congr fun i _ => by rw [sumN]
/-- One term only. -/
theorem sumN_one {f : Nat → Int} : ∀ {n : Nat} {i : Nat}, i < n → (∀ j, j < n → j ≠ i → f j = 0) → sumN f n = f i
  | 0, i, h, _ => by omega
  | n + 1, i, h, h2 => by
    rw [sumN]
    by_cases e : i = n
    · subst e
      rw [sumN_zero (fun j hj => h2 j (by omega) (by omega))]
      omega
    · rw [sumN_one (i := i) (by omega) (fun j hj hne => h2 j (by omega) hne), h2 n (by omega) (by omega)]
      omega
theorem sumN_nonneg {f : Nat → Int} {n : Nat} (h : ∀ i, i < n → 0 ≤ f i) : 0 ≤ sumN f n := by
  have := sumN_le (f := fun _ => 0) (g := f) h
  rw [sumN_zero (fun _ _ => rfl)] at this
  exact this
theorem sumN_ge {f : Nat → Int} {n i : Nat} (hi : i < n) (h : ∀ j, j < n → 0 ≤ f j) : f i ≤ sumN f n := by
  have h1 := sumN_le (f := fun j => if j = i then f i else 0) (g := f) (n := n) (fun j hj => by
    split
    · rename_i e; subst e; exact Int.le_refl _
    · exact h j hj)
  rw [sumN_one hi (fun j _ hne => if_neg hne), if_pos rfl] at h1
  exact h1


end Go.Proofs.Ytnnlhmialmhpfaa
