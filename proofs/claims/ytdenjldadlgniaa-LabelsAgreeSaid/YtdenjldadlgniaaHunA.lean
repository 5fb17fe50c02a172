/- The Hungarian method, plain: the matching with its potentials, a phase, the scan, the update. No program in sight. -/
import Derived.Test.YtdenjldadlgniaaInts
set_option linter.unusedSimpArgs false
set_option linter.unusedVariables false
namespace Go.Proofs.Ytdenjldadlgniaa

/-- The natural number at place i of a list. -/
def gn (xs : List Nat) (i : Nat) : Nat := xs.getD i 0
theorem gn_eq (xs : List Nat) {i : Nat} (h : i < xs.length) : gn xs i = xs[i] := by simp [gn, h]
theorem ge_set (xs : List Int) {i : Nat} (h : i < xs.length) (x : Int) (j : Nat) : ge (xs.set i x) j = if j = i then x else ge xs j := by
  unfold ge
  rw [List.getD_eq_getElem?_getD, List.getD_eq_getElem?_getD, List.getElem?_set]
  by_cases e : i = j
  · subst e
    simp [h]
  · rw [if_neg e, if_neg (Ne.symm e)]
theorem gn_set (xs : List Nat) {i : Nat} (h : i < xs.length) (x : Nat) (j : Nat) : gn (xs.set i x) j = if j = i then x else gn xs j := by
  unfold gn
  rw [List.getD_eq_getElem?_getD, List.getD_eq_getElem?_getD, List.getElem?_set]
  by_cases e : i = j
  · subst e
    simp [h]
  · rw [if_neg e, if_neg (Ne.symm e)]


/-- Costs. -/
structure CostOK (n k : Nat) (C : Nat → Nat → Int) : Prop where
  n16 : n ≤ 16
  k64 : k ≤ 64
  nk : n ≤ k
  b : ∀ r c, 1 ≤ r → r ≤ n → 1 ≤ c → c ≤ k → 0 ≤ C r c ∧ C r c ≤ (1099511627776 : Int)

/-- j rows are matched, the potentials of rows behind i are 0. -/
structure Mt (n k : Nat) (C : Nat → Nat → Int) (i j : Nat) (u v : List Int) (row : List Nat) (b : Int) : Prop where
  lu : u.length = n + 1
  lv : v.length = k + 1
  lr : row.length = k + 1
  red : ∀ r c, 1 ≤ r → r ≤ n → 1 ≤ c → c ≤ k → 0 ≤ C r c - ge u r - ge v c
  tight : ∀ c, 1 ≤ c → c ≤ k → 0 < gn row c → C (gn row c) c = ge u (gn row c) + ge v c
  rle : ∀ c, 1 ≤ c → c ≤ k → gn row c ≤ j
  inj : ∀ c c', 1 ≤ c → c ≤ k → 1 ≤ c' → c' ≤ k → gn row c = gn row c' → 0 < gn row c → c = c'
  cov : ∀ r, 1 ≤ r → r ≤ j → ∃ c, 1 ≤ c ∧ c ≤ k ∧ gn row c = r
  vb : ∀ c, c ≤ k → -b ≤ ge v c ∧ ge v c ≤ 0
  vfree : ∀ c, 1 ≤ c → c ≤ k → gn row c = 0 → ge v c = 0
  ub : ∀ r, r ≤ n → 0 ≤ ge u r ∧ ge u r ≤ b
  ufree : ∀ r, i < r → r ≤ n → ge u r = 0

/-- Numbers that are all different and lie below n are at most n. -/
theorem nodup_len : ∀ (n : Nat) {l : List Nat}, l.Nodup → (∀ u ∈ l, u < n) → l.length ≤ n
  | 0, l, _, hl => by
    cases l with
    | nil => simp
    | cons a l => exact absurd (hl a (by simp)) (by omega)
  | n + 1, l, h, hl => by
    have h1 : (l.erase n).Nodup := h.erase n
    have h2 := nodup_len n h1 (fun u hu => by
      have hne : u ≠ n := fun e => by subst e; exact (List.Nodup.mem_erase_iff h).1 hu |>.1 rfl
      have := hl u (List.mem_of_mem_erase hu)
      omega)
    have := List.length_erase (a := n) (l := l)
    split at this <;> omega
/-- There is a free column. -/
theorem free_col {k j : Nat} {row : List Nat} (hjk : j < k) (hr : ∀ c, 1 ≤ c → c ≤ k → gn row c ≤ j)
    (hinj : ∀ c c', 1 ≤ c → c ≤ k → 1 ≤ c' → c' ≤ k → gn row c = gn row c' → 0 < gn row c → c = c') : ∃ c, 1 ≤ c ∧ c ≤ k ∧ gn row c = 0 := by
  refine Classical.byContradiction fun hno => ?_
  have hpos : ∀ c, 1 ≤ c → c ≤ k → 0 < gn row c := fun c h1 h2 => by
    rcases Nat.eq_zero_or_pos (gn row c) with h | h
    · exact absurd ⟨c, h1, h2, h⟩ hno
    · exact h
  have hnd : ((List.range' 1 k).map (fun c => gn row c - 1)).Nodup := by
    rw [List.nodup_iff_pairwise_ne, List.pairwise_map]
    refine (List.nodup_range' (step := 1)).imp_of_mem fun {a b} ha hb hab e => hab ?_
    rw [List.mem_range'_1] at ha hb
    have h1 := hpos a (by omega) (by omega)
    have h2 := hpos b (by omega) (by omega)
    exact hinj a b (by omega) (by omega) (by omega) (by omega) (by omega) h1
  have := nodup_len j hnd (fun u hu => by
    obtain ⟨c, hc, rfl⟩ := List.mem_map.1 hu
    rw [List.mem_range'_1] at hc
    have h1 := hpos c (by omega) (by omega)
    have := hr c (by omega) (by omega)
    omega)
  simp at this
  omega
end Go.Proofs.Ytdenjldadlgniaa
