/- Slices of integers, and slices of them, as they are read. -/
import Derived.Test.YtdacnkjmimhcaaaDoorBase
set_option linter.unusedSimpArgs false
set_option linter.unusedVariables false
namespace Go.Proofs.YtdacnkjmimhcaaaDoor
open Go.RowKit

/-- The number at place i of a list (a name that simp does not open). -/
def ge (xs : List Int) (i : Nat) : Int := xs.getD i 0
theorem ge_cons_succ (x : Int) (l : List Int) (i : Nat) : ge (x :: l) (i + 1) = ge l i := by simp [ge]
theorem ge_cons_zero (x : Int) (l : List Int) : ge (x :: l) 0 = x := by simp [ge]
theorem ge_eq (xs : List Int) {i : Nat} (h : i < xs.length) : ge xs i = xs[i] := by simp [ge, h]
theorem ge_mem {xs : List Int} {i : Nat} (h : i < xs.length) : ge xs i ∈ xs := by rw [ge_eq xs h]; exact List.getElem_mem h
theorem ret_bool {a b : Bool} (h : a = b) : Ending.returned (.bool a) = .returned (.bool b) := by rw [h]
theorem ret_int {k : IntKind} {a b : Int} (h : a = b) : Ending.returned (.int k a) = .returned (.int k b) := by rw [h]

/-- A slice that starts at p reads as xs. -/
def Ints (w : World) (p : Option Addr) (xs : List Int) : Prop :=
  xs.length ≤ 9223372036854775807 ∧ (∀ x ∈ xs, -9223372036854775808 ≤ x ∧ x ≤ 9223372036854775807) ∧
  ∃ b o, (0 < xs.length → p = some ⟨b, o, none⟩ ∧ b < w.heap.size) ∧ ∀ i, i < xs.length → w.cell? ⟨b, o + i, none⟩ = some (.int .i64 (ge xs i))

theorem Ints.grew {w w' : World} {p : Option Addr} {xs : List Int} (h : Ints w p xs) (hg : Grew w w') : Ints w' p xs := by
  obtain ⟨h1, h2, b, o, h3, h4⟩ := h
  refine ⟨h1, h2, b, o, fun hp => ⟨(h3 hp).1, Nat.lt_of_lt_of_le (h3 hp).2 hg.below.size⟩, fun i hi => ?_⟩
  rw [hg.below.cell (p := ⟨b, o + i, none⟩) (h3 (by omega)).2]
  exact h4 i hi

theorem Ints.nil (w : World) (p : Option Addr) : Ints w p [] := ⟨by simp, by simp, 0, 0, by simp, by simp⟩

/-- The first index of v, -1 if there is none. -/
def idx (v : Int) : List Int → Int
  | [] => -1
  | x :: l => if v = x then 0 else if idx v l = -1 then -1 else idx v l + 1
theorem idx_take_none {v : Int} {xs : List Int} : (∀ i, i < xs.length → v ≠ ge xs i) → idx v xs = -1 := by
  induction xs with
  | nil => intro _; rfl
  | cons x l ih =>
    intro h
    have h0 := h 0 (by simp)
    rw [ge_cons_zero] at h0
    rw [idx, if_neg h0, ih (fun i hi => by have := h (i + 1) (by simpa using hi); rwa [ge_cons_succ] at this)]
    rfl
theorem idx_first {v : Int} {xs : List Int} : ∀ (k : Nat), k < xs.length → (∀ i, i < k → v ≠ ge xs i) → v = ge xs k → idx v xs = k := by
  induction xs with
  | nil => intro k hk; simp at hk
  | cons x l ih =>
    intro k hk h he
    cases k with
    | zero => rw [ge_cons_zero] at he; rw [idx, if_pos he]; rfl
    | succ k =>
      have h0 := h 0 (by omega)
      rw [ge_cons_zero] at h0
      have := ih k (by simpa using hk) (fun i hi => by have := h (i + 1) (by omega); rwa [ge_cons_succ] at this) (by rwa [ge_cons_succ] at he)
      rw [idx, if_neg h0, this, if_neg (by omega)]
      omega
theorem idx_mem {v : Int} {xs : List Int} : 0 ≤ idx v xs ↔ v ∈ xs := by
  induction xs with
  | nil => simp [idx]
  | cons x l ih =>
    rw [idx]
    by_cases h : v = x
    · simp [h]
    · rw [if_neg h]
      have hlo : -1 ≤ idx v l := by
        clear ih
        induction l with
        | nil => simp [idx]
        | cons y l ih => rw [idx]; repeat' split
                         all_goals omega
      simp only [List.mem_cons, h, false_or, ← ih]
      split <;> omega

/-- Row u of a matrix (a name that simp does not open). -/
def rowOf (m : List (List Int)) (u : Nat) : List Int := m.getD u []
theorem rowOf_eq (m : List (List Int)) {u : Nat} (h : u < m.length) : rowOf m u = m[u] := by simp [rowOf, h]

/-- A slice of slices that starts at p reads as m. -/
def Mat (w : World) (p : Option Addr) (m : List (List Int)) : Prop :=
  m.length ≤ 9223372036854775807 ∧ ∃ b o, ∃ rp : Nat → Option Addr, ∃ rc : Nat → Nat, (0 < m.length → p = some ⟨b, o, none⟩ ∧ b < w.heap.size) ∧
    ∀ u, u < m.length → w.cell? ⟨b, o + u, none⟩ = some (.slice (rp u) (rowOf m u).length (rc u)) ∧ Ints w (rp u) (rowOf m u)

theorem Mat.grew {w w' : World} {p : Option Addr} {m : List (List Int)} (h : Mat w p m) (hg : Grew w w') : Mat w' p m := by
  obtain ⟨h1, b, o, rp, rc, h3, h4⟩ := h
  refine ⟨h1, b, o, rp, rc, fun hp => ⟨(h3 hp).1, Nat.lt_of_lt_of_le (h3 hp).2 hg.below.size⟩, fun u hu => ?_⟩
  rw [hg.below.cell (p := ⟨b, o + u, none⟩) (h3 (by omega)).2]
  exact ⟨(h4 u hu).1, (h4 u hu).2.grew hg⟩

/-- What a walk wants of a row. -/
theorem Ints.open {w : World} {p : Option Addr} {xs : List Int} (h : Ints w p xs) : ∃ b o, (0 < xs.length → p = some ⟨b, o, none⟩ ∧ b < w.heap.size) ∧ ∀ i, i < xs.length → w.cell? ⟨b, o + i, none⟩ = some (.int .i64 (ge xs i)) := h.2.2

theorem slat_ints {w : World} {p : Option Addr} {cap : Nat} {xs : List Int} (h : SlAt (rInt .i64) 1 w p cap xs) : Ints w p xs := by
  obtain ⟨h1, h2, h3, h4⟩ := h
  refine ⟨by simp only [maxLen] at h2; omega, fun x hx => ?_, ?_⟩
  · obtain ⟨i, hi, rfl⟩ := List.getElem_of_mem hx
    obtain ⟨b, o, ce, _, _, _, hr, _⟩ := h4 i _ (List.getElem?_eq_getElem hi)
    have := hr.2
    simp [Lit.wf, IntKind.min, IntKind.max, IntKind.bits, IntKind.signed] at this
    omega
  · cases hp : p with
    | none =>
      refine ⟨0, 0, fun h0 => ?_, fun i hi => ?_⟩
      · have := h3 hp; omega
      · have := h3 hp; omega
    | some a =>
      obtain ⟨b, o, s⟩ := a
      by_cases h0 : 0 < xs.length
      · obtain ⟨b', o', ce, e1, e2, _⟩ := h4 0 _ (List.getElem?_eq_getElem h0)
        rw [hp] at e1
        cases e1
        refine ⟨b, o, fun _ => ⟨rfl, e2⟩, fun i hi => ?_⟩
        obtain ⟨b', o', ce, e1, _, e3, e4, e5⟩ := h4 i _ (List.getElem?_eq_getElem hi)
        rw [hp] at e1
        cases e1
        have := e5 0 (by omega)
        rw [Nat.mul_one, Nat.add_zero] at this
        rw [this, e4.1, ge_eq xs hi]
        rfl
      · exact ⟨0, 0, fun h => absurd h h0, fun i hi => by omega⟩

theorem slat_mat {w : World} {p : Option Addr} {cap : Nat} {m : List (List Int)} (h : SlAt (rSl (rInt .i64) 1) 1 w p cap m) : Mat w p m := by
  obtain ⟨h1, h2, h3, h4⟩ := h
  refine ⟨by simp only [maxLen] at h2; omega, ?_⟩
  cases hp : p with
  | none =>
    refine ⟨0, 0, fun _ => none, fun _ => 0, fun h0 => ?_, fun i hi => ?_⟩
    · have := h3 hp; omega
    · have := h3 hp; omega
  | some a =>
    obtain ⟨b, o, s⟩ := a
    by_cases h0 : 0 < m.length
    · obtain ⟨b', o', ce, e1, e2, _⟩ := h4 0 _ (List.getElem?_eq_getElem h0)
      rw [hp] at e1
      cases e1
      have key : ∀ u, ∃ pc : Option Addr × Nat, u < m.length → w.cell? ⟨b, o + u, none⟩ = some (.slice pc.1 (rowOf m u).length pc.2) ∧ Ints w pc.1 (rowOf m u) := by
        intro u
        by_cases hu : u < m.length
        · obtain ⟨b', o', ce, e1, _, e3, e4, e5⟩ := h4 u _ (List.getElem?_eq_getElem hu)
          rw [hp] at e1
          cases e1
          obtain ⟨q, cq, e6, e7⟩ := e4
          have := e5 0 (by omega)
          rw [Nat.mul_one, Nat.add_zero, e6] at this
          refine ⟨(q, cq), fun _ => ?_⟩
          rw [rowOf_eq m hu]
          exact ⟨this, slat_ints e7⟩
        · exact ⟨(none, 0), fun h => absurd h hu⟩
      refine ⟨b, o, fun u => (Classical.choose (key u)).1, fun u => (Classical.choose (key u)).2, fun _ => ⟨rfl, e2⟩, fun u hu => Classical.choose_spec (key u) hu⟩
    · exact ⟨0, 0, fun _ => none, fun _ => 0, fun h => absurd h h0, fun i hi => by omega⟩

theorem opens_ints : Opens Tryd.prog 26 (rSl (rInt .i64) 1) := opens_slice Tryd.underlying26 (by kernel_rfl) (by omega) (opens_int Tryd.underlying3)

/-- An argument that is a slice of integers. -/
theorem arg_ints {H : Type} {enc : TypeId × Value → H} {w : World} {r : Reach} {base n : Nat} {v : Value} {x : DataW H × List MemPlace} (hok : Value.okWide Tryd.prog w r base 26 v)
    (h : DataW.trod enc Tryd.prog w 0 (fun _ => true) true n 26 v.cells.toList = some x) : ∃ p cap xs, v = .slice p xs.length cap ∧ Ints w p xs ∧ xs.length ≤ cap ∧ (p = none → cap = 0) := by
  rw [okWide_slice Tryd.underlying26 hok] at h
  obtain ⟨xs, p, cap, h1, h2⟩ := opens_ints _ _ _ _ _ _ h
  simp at h1
  exact ⟨p, cap, xs, h1, slat_ints h2, h2.1, h2.2.2.1⟩

theorem Ints.made (W : World) (t : TypeId) (xs : List Int) (cs : Array Value) (b : Nat) (hcs : cs.toList = xs.map (Value.int .i64)) (hb : b = W.heap.size) (hl : xs.length ≤ 1000) (hw : ∀ x ∈ xs, -9223372036854775808 ≤ x ∧ x ≤ 9223372036854775807) :
    Ints (W.alloc (.cells cs t)) (some ⟨b, 0, none⟩) xs := by
  subst hb
  refine ⟨by omega, hw, W.heap.size, 0, fun _ => ⟨rfl, by simp⟩, fun i hi => ?_⟩
  rw [cell?_alloc_if, if_neg (by omega), if_pos rfl, Nat.zero_add, ← Array.getElem?_toList, hcs, List.getElem?_map, List.getElem?_eq_getElem hi, ge_eq xs hi]
  rfl
theorem Mat.made (W : World) (t : TypeId) (m : List (List Int)) (cs : Array Value) (b : Nat) (rp : Nat → Option Addr) (rc : Nat → Nat) (hb : b = W.heap.size) (hl : m.length ≤ 1000)
    (h : ∀ u, u < m.length → cs[u]? = some (.slice (rp u) (rowOf m u).length (rc u)) ∧ Ints W (rp u) (rowOf m u)) : Mat (W.alloc (.cells cs t)) (some ⟨b, 0, none⟩) m := by
  subst hb
  refine ⟨by omega, W.heap.size, 0, rp, rc, fun _ => ⟨rfl, by simp⟩, fun u hu => ?_⟩
  rw [cell?_alloc_if, if_neg (by omega), if_pos rfl, Nat.zero_add]
  exact ⟨(h u hu).1, (h u hu).2.grew ((Grew.refl W).alloc _)⟩


theorem Tryd.infoInt : (Tryd.prog.info? 3).map (fun i => (i.zero, i.size, i.bytes)) = some (some (.int .i64 0), 1, 8) := by kernel_rfl
def intVs (xs : List Int) : List Value := xs.map (Value.int .i64)
theorem intVs_length (xs : List Int) : (intVs xs).length = xs.length := by simp [intVs]
theorem intVs_one (xs : List Int) : ∀ u ∈ intVs xs, u.oneCell' = true := by
  intro u hu
  obtain ⟨y, _, rfl⟩ := List.mem_map.1 hu
  rfl
theorem intVs_get (xs : List Int) {i : Nat} (h : i < xs.length) : (intVs xs)[i]? = some (.int .i64 (ge xs i)) := by
  unfold intVs
  rw [List.getElem?_map, List.getElem?_eq_getElem h, ge_eq xs h]
  rfl
theorem Ints.news {w : World} {ad : Addr} {xs : List Int} (h : Ints w (some ad) xs) : ∀ b, some ad = some b → ∀ j u, (intVs xs)[j]? = some u → w.cell? (b.add j) = some u := by
  intro b hb j u hj
  cases hb
  obtain ⟨_, _, b, o', h3, h4⟩ := h
  have hjl : j < xs.length := by
    have := (List.getElem?_eq_some_iff.1 hj).1
    rwa [intVs_length] at this
  rw [intVs_get xs hjl] at hj
  cases hj
  have hp := (h3 (by omega)).1
  cases hp
  rw [Addr.add_lit, h4 j hjl]

theorem one_news {w : World} {ad : Addr} (v : Value) (h : w.cell? (ad.add 0) = some v) : ∀ b, some ad = some b → ∀ j u, [v][j]? = some u → w.cell? (b.add j) = some u := by
  intro b hb j u hj
  cases hb
  cases j with
  | zero => simp at hj; subst hj; exact h
  | succ j => simp at hj


end Go.Proofs.YtdacnkjmimhcaaaDoor
