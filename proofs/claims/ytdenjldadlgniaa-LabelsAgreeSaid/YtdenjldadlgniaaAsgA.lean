/- Small contracts: Same, used, Less of the reference; IndexFunc, ContainsFunc of the library. -/
import Derived.Test.YtdenjldadlgniaaHunE
set_option linter.unusedSimpArgs false
set_option linter.unusedVariables false
namespace Go.Proofs.Ytdenjldadlgniaa
open Go.RowKit

set_option maxHeartbeats 1000000 in
theorem in_r (p : Option Addr) (n cap : Nat) (xs : List Int) (v : Int) (w : World) (hI : Ints w p xs) (hn : xs.length = n) :
    Calls Try.prog 63 #[.slice p n cap, .int .i64 v] w fun e w' => e = .returned (.bool (decide (v ∈ xs))) ∧ w = w' := by
  subst hn
  obtain ⟨hm, _, b, o, h3, h4⟩ := hI
  go_enter Try.func63, Try.ntmps63
  go_wp2
  go_loop [5] (fun i => ∃ k : Nat, k ≤ xs.length ∧ i = .int .i64 k ∧ ∀ j, j < k → v ≠ ge xs j) (fun i => xs.length - (intOf i).toNat)
  case atStart => exact ⟨0, Nat.zero_le _, rfl, fun j hj => by omega⟩
  case round =>
    obtain ⟨k, hk, rfl, hall⟩ := hrel
    have Hall := Lib.hid hall
    clear hall
    by_cases hlt : k < xs.length
    · obtain ⟨rfl, hb⟩ := h3 (by omega)
      have hc := h4 k hlt
      clear h3 h4
      by_cases he : v = ge xs k
      · have Hf := Lib.hid (show decide (v ∈ xs) = true from decide_eq_true (he ▸ ge_mem hlt))
        have he' : (ge xs k == v) = true := beq_iff_eq.2 he.symm
        clear he
        go_wp2
        go_ret
        exact ⟨ret_bool Hf.out.symm, rfl⟩
      · have he' : (ge xs k == v) = false := beq_eq_false_iff_ne.2 (Ne.symm he)
        have He := Lib.hid he
        clear he
        go_wp2
        go_round
        case rel => exact ⟨k + 1, by omega, by go_num, fun j hj => by
          by_cases h : j = k
          · rw [h]; exact He.out
          · exact Hall.out j (by omega)⟩
        case measure => simp [intOf]; omega
    · have Hf := Lib.hid (show decide (v ∈ xs) = false from decide_eq_false fun hv => by
        obtain ⟨i, hi, he⟩ := List.getElem_of_mem hv
        exact Hall.out i (by omega) (by rw [ge_eq xs hi]; exact he.symm))
      go_wp2
      go_ret
      exact ⟨ret_bool Hf.out.symm, rfl⟩

theorem in_e {p : Option Addr} {n cap : Nat} {xs : List Int} {v : Int} {w : World} {b : Bool} (h : decide (v ∈ xs) = b) (hI : Ints w p xs) (hn : xs.length = n) :
    Calls Try.prog 63 #[.slice p n cap, .int .i64 v] w fun e w' => e = .returned (.bool b) ∧ w = w' := h ▸ in_r p n cap xs v w hI hn

theorem drop_ge {xs : List Int} {i : Nat} (h : i < xs.length) : xs.drop i = ge xs i :: xs.drop (i + 1) := by
  rw [List.drop_eq_getElem_cons h, ge_eq xs h]

def idxF (pr : Int → Bool) : List Int → Int
  | [] => -1
  | x :: l => if pr x then 0 else if idxF pr l = -1 then -1 else idxF pr l + 1

theorem idxF_none {pr : Int → Bool} {xs : List Int} : (∀ i, i < xs.length → pr (ge xs i) = false) → idxF pr xs = -1 := by
  induction xs with
  | nil => intro _; rfl
  | cons x l ih =>
    intro h
    have h0 := h 0 (by simp)
    rw [ge_cons_zero] at h0
    rw [idxF, if_neg (by simp [h0]), ih (fun i hi => by have := h (i + 1) (by simpa using hi); rwa [ge_cons_succ] at this)]
    rfl

theorem idxF_first {pr : Int → Bool} {xs : List Int} : ∀ (k : Nat), k < xs.length → (∀ i, i < k → pr (ge xs i) = false) → pr (ge xs k) = true → idxF pr xs = k := by
  induction xs with
  | nil => intro k hk; simp at hk
  | cons x l ih =>
    intro k hk h he
    cases k with
    | zero => rw [ge_cons_zero] at he; rw [idxF, if_pos he]; rfl
    | succ k =>
      have h0 := h 0 (by omega)
      rw [ge_cons_zero] at h0
      have := ih k (by simpa using hk) (fun i hi => by have := h (i + 1) (by omega); rwa [ge_cons_succ] at this) (by rwa [ge_cons_succ] at he)
      rw [idxF, if_neg (by simp [h0]), this, if_neg (by omega)]
      omega

theorem idxF_any {pr : Int → Bool} {xs : List Int} : 0 ≤ idxF pr xs ↔ ∃ x, x ∈ xs ∧ pr x = true := by
  induction xs with
  | nil => simp [idxF]
  | cons x l ih =>
    rw [idxF]
    by_cases h : pr x = true
    · simp [h]
    · rw [if_neg h]
      have hlo : -1 ≤ idxF pr l := by
        clear ih
        induction l with
        | nil => simp [idxF]
        | cons y l ih => rw [idxF]; repeat' split
                         all_goals omega
      simp only [List.mem_cons, exists_eq_or_imp, h, false_or, ← ih]
      split <;> simp <;> omega

set_option maxHeartbeats 1000000 in
theorem indexFunc_v (p : Option Addr) (n cap : Nat) (xs : List Int)  (pr : Int → Bool) (w : World) (hI : Ints w p xs) (hn : xs.length = n)
    (hcl : ∀ c : Int, Calls Try.prog 52 #[.int .i64 c] w fun e w' => e = .returned (.bool (pr c)) ∧ w = w') :
    Calls Try.prog 59 #[.slice p n cap, .func (.func 52) #[] #[]] w fun e w' => e = .returned (.int .i64 (idxF pr xs)) ∧ w = w' := by
  subst hn
  obtain ⟨hm, _, b, o, h3, h4⟩ := hI
  have Hcl := Lib.hid hcl
  clear hcl
  go_enter Try.func59, Try.ntmps59
  go_wp2
  go_loop [5, 8] (fun _ i => ∃ k : Nat, k ≤ xs.length ∧ i = .int .i64 k ∧ ∀ j, j < k → pr (ge xs j) = false) (fun _ i => xs.length - (intOf i).toNat)
  case atStart => exact ⟨0, Nat.zero_le _, rfl, fun j hj => by omega⟩
  case round =>
    obtain ⟨k, hk, rfl, hall⟩ := hrel
    have Hall := Lib.hid hall
    clear hall
    by_cases hlt : k < xs.length
    · obtain ⟨rfl, hb⟩ := h3 (by omega)
      have hc := h4 k hlt
      clear h3 h4
      cases he : pr (ge xs k)
      · have He := Lib.hid he
        go_wp2_with ((go_at_call 52; apply Calls.mono; (with_reducible exact Hcl.out _); rintro e w' ⟨rfl, rfl⟩))
        go_round
        case rel => exact ⟨k + 1, by omega, by go_num, fun j hj => by
          by_cases h : j = k
          · rw [h]; exact He.out
          · exact Hall.out j (by omega)⟩
        case measure => simp [intOf]; omega
      · have Hf := Lib.hid (idxF_first k hlt Hall.out he)
        go_wp2_with ((go_at_call 52; apply Calls.mono; (with_reducible exact Hcl.out _); rintro e w' ⟨rfl, rfl⟩))
        go_ret
        exact ⟨ret_int Hf.out.symm, rfl⟩
    · have Hf := Lib.hid (idxF_none (pr := pr) (xs := xs) (fun i hi => Hall.out i (by omega)))
      go_wp2
      go_ret
      exact ⟨ret_int Hf.out.symm, rfl⟩

set_option maxHeartbeats 1000000 in
theorem containsFunc_v (p : Option Addr) (n cap : Nat) (xs : List Int)  (pr : Int → Bool) (w : World) (hI : Ints w p xs) (hn : xs.length = n)
    (hcl : ∀ c : Int, Calls Try.prog 52 #[.int .i64 c] w fun e w' => e = .returned (.bool (pr c)) ∧ w = w') :
    Calls Try.prog 45 #[.slice p n cap, .func (.func 52) #[] #[]] w fun e w' => e = .returned (.bool (xs.any pr)) ∧ w = w' := by
  have Hcl := Lib.hid hcl
  clear hcl
  go_enter Try.func45, Try.ntmps45
  go_wp2_with ((go_at_call 59; apply Calls.mono; (with_reducible exact indexFunc_v _ _ _ _  pr _ hI hn Hcl.out); rintro e w' ⟨rfl, rfl⟩))
  go_ret
  refine ⟨ret_bool ?_, rfl⟩
  rw [Bool.eq_iff_iff]
  simp [idxF_any]

def badC (c : Int) : Bool := decide (c < -1 ∨ 1000000 < c)
set_option maxHeartbeats 1000000 in
theorem valid1_p (c : Int) (w : World) : Calls Try.prog 52 #[.int .i64 c] w fun e w' => e = .returned (.bool (badC c)) ∧ w = w' := by
  go_enter Try.func52, Try.ntmps52
  go_wp2
  all_goals
    go_ret
    refine ⟨ret_bool ?_, rfl⟩
    rw [Bool.eq_iff_iff]
    unfold badC
    simp
    try omega

end Go.Proofs.Ytdenjldadlgniaa
