/- The library's IndexFunc and ContainsFunc at the function of this package. -/
import Derived.Test.YtgodoeefgmfpfaaTidyT
set_option linter.unusedSimpArgs false
set_option linter.unusedVariables false
namespace Go.Proofs.Ytgodoeefgmfpfaa
open Go.RowKit

def idxF (pr : Int → Bool) : List Int → Int
  | [] => -1
  | x :: l => if pr x then 0 else if idxF pr l = -1 then -1 else idxF pr l + 1
theorem idxF_none {pr : Int → Bool} {xs : List Int} : (∀ i, i < xs.length → pr (ge xs i) = false) → idxF pr xs = -1 := by
  induction xs with
  | nil => intro _; rfl
  | cons x l ih =>
    intro h
    have h0 := h 0 (by simp)
    rw [ge_cons_zero] at h0
    rw [idxF, if_neg (by simp [h0]), ih (fun i hi => by have := h (i + 1) (by simpa using hi); rwa [ge_cons_succ] at this)]
    rfl
theorem idxF_first {pr : Int → Bool} {xs : List Int} : ∀ (k : Nat), k < xs.length → (∀ i, i < k → pr (ge xs i) = false) → pr (ge xs k) = true → idxF pr xs = k := by
  induction xs with
  | nil => intro k hk; simp at hk
  | cons x l ih =>
    intro k hk h he
    cases k with
    | zero => rw [ge_cons_zero] at he; rw [idxF, if_pos he]; rfl
    | succ k =>
      have h0 := h 0 (by omega)
      rw [ge_cons_zero] at h0
      have := ih k (by simpa using hk) (fun i hi => by have := h (i + 1) (by omega); rwa [ge_cons_succ] at this) (by rwa [ge_cons_succ] at he)
      rw [idxF, if_neg (by simp [h0]), this, if_neg (by omega)]
      omega
theorem idxF_any {pr : Int → Bool} {xs : List Int} : 0 ≤ idxF pr xs ↔ ∃ x, x ∈ xs ∧ pr x = true := by
  induction xs with
  | nil => simp [idxF]
  | cons x l ih =>
    rw [idxF]
    by_cases h : pr x = true
    · simp [h]
    · rw [if_neg h]
      have hlo : -1 ≤ idxF pr l := by
        clear ih
        induction l with
        | nil => simp [idxF]
        | cons y l ih => rw [idxF]; repeat' split
                         all_goals omega
      simp only [List.mem_cons, exists_eq_or_imp, h, false_or, ← ih]
      split <;> simp <;> omega

set_option maxHeartbeats 1000000 in
theorem indexFunc_v (p : Option Addr) (n cap : Nat) (xs : List Int)  (pr : Int → Bool) (w : World) (hI : Ints w p xs) (hn : xs.length = n)
    (hcl : ∀ c : Int, Calls Try.prog 30 #[.int .i64 c] w fun e w' => e = .returned (.bool (pr c)) ∧ w = w') :
    Calls Try.prog 38 #[.slice p n cap, .func (.func 30) #[] #[]] w fun e w' => e = .returned (.int .i64 (idxF pr xs)) ∧ w = w' := by
  subst hn
  obtain ⟨hm, _, b, o, h3, h4⟩ := hI
  have Hcl := Lib.hid hcl
  clear hcl
  go_enter Try.func38, Try.ntmps38
  go_wp2
  go_loop [5, 8] (fun _ i => ∃ k : Nat, k ≤ xs.length ∧ i = .int .i64 k ∧ ∀ j, j < k → pr (ge xs j) = false) (fun _ i => xs.length - (intOf i).toNat)
  case atStart => exact ⟨0, Nat.zero_le _, rfl, fun j hj => by omega⟩
  case round =>
    obtain ⟨k, hk, rfl, hall⟩ := hrel
    have Hall := Lib.hid hall
    clear hall
    by_cases hlt : k < xs.length
    · obtain ⟨rfl, hb⟩ := h3 (by omega)
      have hc := h4 k hlt
      clear h3 h4
      cases he : pr (ge xs k)
      · have He := Lib.hid he
        go_wp2_with ((go_at_call 30; apply Calls.mono; (with_reducible exact Hcl.out _); rintro e w' ⟨rfl, rfl⟩))
        go_round
        case rel => exact ⟨k + 1, by omega, by go_num, fun j hj => by
          by_cases h : j = k
          · rw [h]; exact He.out
          · exact Hall.out j (by omega)⟩
        case measure => simp [intOf]; omega
      · have Hf := Lib.hid (idxF_first k hlt Hall.out he)
        go_wp2_with ((go_at_call 30; apply Calls.mono; (with_reducible exact Hcl.out _); rintro e w' ⟨rfl, rfl⟩))
        go_ret
        exact ⟨ret_int Hf.out.symm, rfl⟩
    · have Hf := Lib.hid (idxF_none (pr := pr) (xs := xs) (fun i hi => Hall.out i (by omega)))
      go_wp2
      go_ret
      exact ⟨ret_int Hf.out.symm, rfl⟩

set_option maxHeartbeats 1000000 in
theorem containsFunc_v (p : Option Addr) (n cap : Nat) (xs : List Int)  (pr : Int → Bool) (w : World) (hI : Ints w p xs) (hn : xs.length = n)
    (hcl : ∀ c : Int, Calls Try.prog 30 #[.int .i64 c] w fun e w' => e = .returned (.bool (pr c)) ∧ w = w') :
    Calls Try.prog 31 #[.slice p n cap, .func (.func 30) #[] #[]] w fun e w' => e = .returned (.bool (xs.any pr)) ∧ w = w' := by
  have Hcl := Lib.hid hcl
  clear hcl
  go_enter Try.func31, Try.ntmps31
  go_wp2_with ((go_at_call 38; apply Calls.mono; (with_reducible exact indexFunc_v _ _ _ _  pr _ hI hn Hcl.out); rintro e w' ⟨rfl, rfl⟩))
  go_ret
  refine ⟨ret_bool ?_, rfl⟩
  rw [Bool.eq_iff_iff]
  simp [idxF_any]


def wrongB (x : Int) : Bool := decide (x < 0 ∨ 1048576 < x)
theorem wrong_p (x : Int) (w : World) : Calls Try.prog 30 #[.int .i64 x] w fun e w' => e = .returned (.bool (wrongB x)) ∧ w = w' := by
  by_cases h : x < 0
  · have Hf : Hid (wrongB x = true) := Lib.hid (by unfold wrongB; simp [h])
    go_enter Try.func30, Try.ntmps30
    go_wp2
    go_ret
    exact ⟨ret_bool (by rw [Hf.out]), rfl⟩
  · have h0 : 0 ≤ x := by omega
    by_cases h2 : 1048576 < x
    · have Hf : Hid (wrongB x = true) := Lib.hid (by unfold wrongB; simp [h2])
      clear h
      go_enter Try.func30, Try.ntmps30
      go_wp2
      go_ret
      exact ⟨ret_bool (by rw [Hf.out]), rfl⟩
    · have h3 : x ≤ 1048576 := by omega
      have Hf : Hid (wrongB x = false) := Lib.hid (by unfold wrongB; simp; omega)
      clear h h2
      go_enter Try.func30, Try.ntmps30
      go_wp2
      go_ret
      exact ⟨ret_bool (by rw [Hf.out]; simp; omega), rfl⟩

end Go.Proofs.Ytgodoeefgmfpfaa
