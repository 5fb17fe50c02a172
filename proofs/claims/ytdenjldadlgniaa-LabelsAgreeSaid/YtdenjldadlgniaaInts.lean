/- Slices of integers, and slices of them, as they are read. Contracts of the library's searches. -/
import Derived.Test.YtdenjldadlgniaaBase
import Derived.Test.YtdenjldadlgniaaLex
set_option linter.unusedSimpArgs false
set_option linter.unusedVariables false
namespace Go.Proofs.Ytdenjldadlgniaa
open Go.RowKit

/-- The number at place i of a list (a name that simp does not open). -/
def ge (xs : List Int) (i : Nat) : Int := xs.getD i 0
theorem ge_cons_succ (x : Int) (l : List Int) (i : Nat) : ge (x :: l) (i + 1) = ge l i := by simp [ge]
theorem ge_cons_zero (x : Int) (l : List Int) : ge (x :: l) 0 = x := by simp [ge]
theorem ge_eq (xs : List Int) {i : Nat} (h : i < xs.length) : ge xs i = xs[i] := by simp [ge, h]
theorem ge_mem {xs : List Int} {i : Nat} (h : i < xs.length) : ge xs i ∈ xs := by rw [ge_eq xs h]; exact List.getElem_mem h
theorem ret_bool {a b : Bool} (h : a = b) : Ending.returned (.bool a) = .returned (.bool b) := by rw [h]
theorem ret_int {k : IntKind} {a b : Int} (h : a = b) : Ending.returned (.int k a) = .returned (.int k b) := by rw [h]

/-- A slice that starts at p reads as xs. -/
def Ints (w : World) (p : Option Addr) (xs : List Int) : Prop :=
  xs.length ≤ 9223372036854775807 ∧ (∀ x ∈ xs, -9223372036854775808 ≤ x ∧ x ≤ 9223372036854775807) ∧
  ∃ b o, (0 < xs.length → p = some ⟨b, o, none⟩ ∧ b < w.heap.size) ∧ ∀ i, i < xs.length → w.cell? ⟨b, o + i, none⟩ = some (.int .i64 (ge xs i))

theorem Ints.grew {w w' : World} {p : Option Addr} {xs : List Int} (h : Ints w p xs) (hg : Grew w w') : Ints w' p xs := by
  obtain ⟨h1, h2, b, o, h3, h4⟩ := h
  refine ⟨h1, h2, b, o, fun hp => ⟨(h3 hp).1, Nat.lt_of_lt_of_le (h3 hp).2 hg.below.size⟩, fun i hi => ?_⟩
  rw [hg.below.cell (p := ⟨b, o + i, none⟩) (h3 (by omega)).2]
  exact h4 i hi

theorem Ints.nil (w : World) (p : Option Addr) : Ints w p [] := ⟨by simp, by simp, 0, 0, by simp, by simp⟩

/-- The first index of v, -1 if there is none. -/
def idx (v : Int) : List Int → Int
  | [] => -1
  | x :: l => if v = x then 0 else if idx v l = -1 then -1 else idx v l + 1
theorem idx_take_none {v : Int} {xs : List Int} : (∀ i, i < xs.length → v ≠ ge xs i) → idx v xs = -1 := by
  induction xs with
  | nil => intro _; rfl
  | cons x l ih =>
    intro h
    have h0 := h 0 (by simp)
    rw [ge_cons_zero] at h0
    rw [idx, if_neg h0, ih (fun i hi => by have := h (i + 1) (by simpa using hi); rwa [ge_cons_succ] at this)]
    rfl
theorem idx_first {v : Int} {xs : List Int} : ∀ (k : Nat), k < xs.length → (∀ i, i < k → v ≠ ge xs i) → v = ge xs k → idx v xs = k := by
  induction xs with
  | nil => intro k hk; simp at hk
  | cons x l ih =>
    intro k hk h he
    cases k with
    | zero => rw [ge_cons_zero] at he; rw [idx, if_pos he]; rfl
    | succ k =>
      have h0 := h 0 (by omega)
      rw [ge_cons_zero] at h0
      have := ih k (by simpa using hk) (fun i hi => by have := h (i + 1) (by omega); rwa [ge_cons_succ] at this) (by rwa [ge_cons_succ] at he)
      rw [idx, if_neg h0, this, if_neg (by omega)]
      omega
theorem idx_mem {v : Int} {xs : List Int} : 0 ≤ idx v xs ↔ v ∈ xs := by
  induction xs with
  | nil => simp [idx]
  | cons x l ih =>
    rw [idx]
    by_cases h : v = x
    · simp [h]
    · rw [if_neg h]
      have hlo : -1 ≤ idx v l := by
        clear ih
        induction l with
        | nil => simp [idx]
        | cons y l ih => rw [idx]; repeat' split
                         all_goals omega
      simp only [List.mem_cons, h, false_or, ← ih]
      split <;> omega

set_option maxHeartbeats 1000000 in
theorem index_p (p : Option Addr) (n cap : Nat) (xs : List Int) (v : Int) (w : World) (hI : Ints w p xs) (hn : xs.length = n) :
    Calls Try.prog 60 #[.slice p n cap, .int .i64 v] w fun e w' => e = .returned (.int .i64 (idx v xs)) ∧ w = w' := by
  subst hn
  obtain ⟨hm, _, b, o, h3, h4⟩ := hI
  go_enter Try.func60, Try.ntmps60
  go_wp2
  go_loop [5, 8] (fun _ i => ∃ k : Nat, k ≤ xs.length ∧ i = .int .i64 k ∧ ∀ j, j < k → v ≠ ge xs j) (fun _ i => xs.length - (intOf i).toNat)
  case atStart => exact ⟨0, Nat.zero_le _, rfl, fun j hj => by omega⟩
  case round =>
    obtain ⟨k, hk, rfl, hall⟩ := hrel
    have Hall := Lib.hid hall
    clear hall
    by_cases hlt : k < xs.length
    · obtain ⟨rfl, hb⟩ := h3 (by omega)
      have hc := h4 k hlt
      clear h3 h4
      by_cases he : v = ge xs k
      · have Hf := Lib.hid (idx_first k hlt Hall.out he)
        have he' : (v == ge xs k) = true := beq_iff_eq.2 he
        clear he
        go_wp2
        go_ret
        exact ⟨ret_int Hf.out.symm, rfl⟩
      · have he' : (v == ge xs k) = false := beq_eq_false_iff_ne.2 he
        have He := Lib.hid he
        clear he
        go_wp2
        go_round
        case rel => exact ⟨k + 1, by omega, by go_num, fun j hj => by
          by_cases h : j = k
          · rw [h]; exact He.out
          · exact Hall.out j (by omega)⟩
        case measure => simp [intOf]; omega
    · have Hf := Lib.hid (idx_take_none (v := v) (xs := xs) (fun i hi => Hall.out i (by omega)))
      go_wp2
      go_ret
      exact ⟨ret_int Hf.out.symm, rfl⟩

/-- Row u of a matrix (a name that simp does not open). -/
def rowOf (m : List (List Int)) (u : Nat) : List Int := m.getD u []
theorem rowOf_eq (m : List (List Int)) {u : Nat} (h : u < m.length) : rowOf m u = m[u] := by simp [rowOf, h]

/-- A slice of slices that starts at p reads as m. -/
def Mat (w : World) (p : Option Addr) (m : List (List Int)) : Prop :=
  m.length ≤ 9223372036854775807 ∧ ∃ b o, ∃ rp : Nat → Option Addr, ∃ rc : Nat → Nat, (0 < m.length → p = some ⟨b, o, none⟩ ∧ b < w.heap.size) ∧
    ∀ u, u < m.length → w.cell? ⟨b, o + u, none⟩ = some (.slice (rp u) (rowOf m u).length (rc u)) ∧ Ints w (rp u) (rowOf m u)

theorem Mat.grew {w w' : World} {p : Option Addr} {m : List (List Int)} (h : Mat w p m) (hg : Grew w w') : Mat w' p m := by
  obtain ⟨h1, b, o, rp, rc, h3, h4⟩ := h
  refine ⟨h1, b, o, rp, rc, fun hp => ⟨(h3 hp).1, Nat.lt_of_lt_of_le (h3 hp).2 hg.below.size⟩, fun u hu => ?_⟩
  rw [hg.below.cell (p := ⟨b, o + u, none⟩) (h3 (by omega)).2]
  exact ⟨(h4 u hu).1, (h4 u hu).2.grew hg⟩

/-- What a walk wants of a row. -/
theorem Ints.open {w : World} {p : Option Addr} {xs : List Int} (h : Ints w p xs) : ∃ b o, (0 < xs.length → p = some ⟨b, o, none⟩ ∧ b < w.heap.size) ∧ ∀ i, i < xs.length → w.cell? ⟨b, o + i, none⟩ = some (.int .i64 (ge xs i)) := h.2.2

set_option maxHeartbeats 1000000 in
theorem contains_p (p : Option Addr) (n cap : Nat) (xs : List Int) (v : Int) (w : World) (hI : Ints w p xs) (hn : xs.length = n) :
    Calls Try.prog 55 #[.slice p n cap, .int .i64 v] w fun e w' => e = .returned (.bool (decide (v ∈ xs))) ∧ w = w' := by
  go_enter Try.func55, Try.ntmps55
  go_wp2_with ((go_at_call 60; apply Calls.mono; (with_reducible exact index_p _ _ _ _ _ _ hI hn); rintro e w' ⟨rfl, rfl⟩))
  go_ret
  refine ⟨ret_bool ?_, rfl⟩
  rw [Bool.eq_iff_iff]
  simp [idx_mem]

end Go.Proofs.Ytdenjldadlgniaa
