/- Lists told by a function of the index. -/
import Derived.Test.YtdacnkjmimhcaaaDoorSl
import Derived.Test.YtdacnkjmimhcaaaDoorMem
set_option linter.unusedSimpArgs false
set_option linter.unusedVariables false
namespace Go.Proofs.YtdacnkjmimhcaaaDoor

def tab (n : Nat) (f : Nat → Int) : List Int := (List.range n).map f
theorem tab_length (n : Nat) (f : Nat → Int) : (tab n f).length = n := by simp [tab]
theorem ge_tab {n : Nat} (f : Nat → Int) {i : Nat} (h : i < n) : ge (tab n f) i = f i := by
  rw [ge_eq _ (by rw [tab_length]; exact h)]
  simp [tab]
theorem tab_set (n : Nat) (f : Nat → Int) {k : Nat} (hk : k < n) (x : Int) : (tab n f).set k x = tab n (fun u => if u = k then x else f u) := by
  apply List.ext_getElem
  · simp [tab]
  · intro i h1 h2
    rw [List.getElem_set]
    by_cases h : k = i
    · subst h; simp [tab]
    · simp [tab, h, Ne.symm h]
theorem tab_congr {n : Nat} {f g : Nat → Int} (h : ∀ u, u < n → f u = g u) : tab n f = tab n g := List.map_congr_left (fun u hu => h u (List.mem_range.1 hu))
theorem tab_of {n : Nat} {f : Nat → Int} {xs : List Int} (hl : xs.length = n) (h : ∀ u, u < n → ge xs u = f u) : xs = tab n f := by
  apply List.ext_getElem
  · rw [tab_length, hl]
  · intro i h1 h2
    have := h i (by omega)
    rw [ge_eq xs h1] at this
    rw [this]
    simp [tab]
theorem list_ext_ge {a b : List Int} (hl : a.length = b.length) (h : ∀ u, u < a.length → ge a u = ge b u) : a = b := by
  have h1 : a = tab a.length (ge b) := tab_of rfl h
  have h2 : b = tab a.length (ge b) := tab_of hl.symm (fun u _ => rfl)
  exact h1.trans h2.symm
theorem intVs_rep (n : Nat) : List.replicate n (Value.int .i64 0) = intVs (tab n (fun _ => 0)) := by
  unfold intVs tab
  apply List.ext_getElem
  · simp
  · intro i h1 h2; simp
theorem intVs_set (xs : List Int) (i : Nat) (x : Int) : (intVs xs).set i (.int .i64 x) = intVs (xs.set i x) := by
  unfold intVs
  rw [List.map_set]

/-- A row of integers: its cells, and what a store leaves. -/
theorem Owns.ints {w : World} {B : Nat} {rs : List Row} (h : Owns w B rs) {k : Nat} {v : Value} {e : TypeId} {xs : List Int} {n : Nat} (hk : rs[k]? = Option.some ⟨v, e, 1, n, intVs xs⟩) (hn : xs.length = n) (hw : ∀ x ∈ xs, -9223372036854775808 ≤ x ∧ x ≤ 9223372036854775807) :
    ∃ p cap, v = .slice p n cap ∧ Ints w p xs ∧ n ≤ cap ∧ (p = Option.none → cap = 0) := by
  obtain ⟨_, h2⟩ := h.get hk
  subst hn
  rcases h2 with ⟨rfl, h0⟩ | ⟨g, cap, rfl, _, hg, hle, hm, _, hc⟩
  · have : xs = [] := List.length_eq_zero_iff.1 h0
    subst this
    exact ⟨Option.none, 0, rfl, Ints.nil _ _, Nat.le_refl _, fun _ => rfl⟩
  · refine ⟨Option.some ⟨g, 0, Option.none⟩, cap, rfl, ⟨?_, hw, g, 0, fun _ => ⟨rfl, hg⟩, fun i hi => ?_⟩, hle, fun h => by cases h⟩
    · simp only [Go.maxLen] at hm; omega
    · rw [Nat.zero_add]
      exact hc i _ (intVs_get xs hi)

end Go.Proofs.YtdacnkjmimhcaaaDoor
