/- The library's IndexFunc and ContainsFunc at the functions of this package; Valid. -/
import Derived.Test.YtnodgagmnekliaaBoundR5
set_option linter.unusedSimpArgs false
set_option linter.unusedVariables false
namespace Go.Proofs.Ytnodgagmnekliaa
open Go.RowKit

def idxF (pr : Int → Bool) : List Int → Int
  | [] => -1
  | x :: l => if pr x then 0 else if idxF pr l = -1 then -1 else idxF pr l + 1
theorem idxF_none {pr : Int → Bool} {xs : List Int} : (∀ i, i < xs.length → pr (ge xs i) = false) → idxF pr xs = -1 := by
  induction xs with
  | nil => intro _; rfl
  | cons x l ih =>
    intro h
    have h0 := h 0 (by simp)
    rw [ge_cons_zero] at h0
    rw [idxF, if_neg (by simp [h0]), ih (fun i hi => by have := h (i + 1) (by simpa using hi); rwa [ge_cons_succ] at this)]
    rfl
theorem idxF_first {pr : Int → Bool} {xs : List Int} : ∀ (k : Nat), k < xs.length → (∀ i, i < k → pr (ge xs i) = false) → pr (ge xs k) = true → idxF pr xs = k := by
  induction xs with
  | nil => intro k hk; simp at hk
  | cons x l ih =>
    intro k hk h he
    cases k with
    | zero => rw [ge_cons_zero] at he; rw [idxF, if_pos he]; rfl
    | succ k =>
      have h0 := h 0 (by omega)
      rw [ge_cons_zero] at h0
      have := ih k (by simpa using hk) (fun i hi => by have := h (i + 1) (by omega); rwa [ge_cons_succ] at this) (by rwa [ge_cons_succ] at he)
      rw [idxF, if_neg (by simp [h0]), this, if_neg (by omega)]
      omega
theorem idxF_any {pr : Int → Bool} {xs : List Int} : 0 ≤ idxF pr xs ↔ ∃ x, x ∈ xs ∧ pr x = true := by
  induction xs with
  | nil => simp [idxF]
  | cons x l ih =>
    rw [idxF]
    by_cases h : pr x = true
    · simp [h]
    · rw [if_neg h]
      have hlo : -1 ≤ idxF pr l := by
        clear ih
        induction l with
        | nil => simp [idxF]
        | cons y l ih => rw [idxF]; repeat' split
                         all_goals omega
      simp only [List.mem_cons, exists_eq_or_imp, h, false_or, ← ih]
      split <;> simp <;> omega

set_option maxHeartbeats 1000000 in
theorem indexFunc_v (p : Option Addr) (n cap : Nat) (xs : List Int)  (pr : Int → Bool) (w : World) (hI : Ints w p xs) (hn : xs.length = n)
    (hcl : ∀ c : Int, Calls Try.prog 26 #[.int .i64 c] w fun e w' => e = .returned (.bool (pr c)) ∧ w = w') :
    Calls Try.prog 29 #[.slice p n cap, .func (.func 26) #[] #[]] w fun e w' => e = .returned (.int .i64 (idxF pr xs)) ∧ w = w' := by
  subst hn
  obtain ⟨hm, _, b, o, h3, h4⟩ := hI
  have Hcl := Lib.hid hcl
  clear hcl
  go_enter Try.func29, Try.ntmps29
  go_wp2
  go_loop [5, 8] (fun _ i => ∃ k : Nat, k ≤ xs.length ∧ i = .int .i64 k ∧ ∀ j, j < k → pr (ge xs j) = false) (fun _ i => xs.length - (intOf i).toNat)
  case atStart => exact ⟨0, Nat.zero_le _, rfl, fun j hj => by omega⟩
  case round =>
    obtain ⟨k, hk, rfl, hall⟩ := hrel
    have Hall := Lib.hid hall
    clear hall
    by_cases hlt : k < xs.length
    · obtain ⟨rfl, hb⟩ := h3 (by omega)
      have hc := h4 k hlt
      clear h3 h4
      cases he : pr (ge xs k)
      · have He := Lib.hid he
        go_wp2_with ((go_at_call 26; apply Calls.mono; (with_reducible exact Hcl.out _); rintro e w' ⟨rfl, rfl⟩))
        go_round
        case rel => exact ⟨k + 1, by omega, by go_num, fun j hj => by
          by_cases h : j = k
          · rw [h]; exact He.out
          · exact Hall.out j (by omega)⟩
        case measure => simp [intOf]; omega
      · have Hf := Lib.hid (idxF_first k hlt Hall.out he)
        go_wp2_with ((go_at_call 26; apply Calls.mono; (with_reducible exact Hcl.out _); rintro e w' ⟨rfl, rfl⟩))
        go_ret
        exact ⟨ret_int Hf.out.symm, rfl⟩
    · have Hf := Lib.hid (idxF_none (pr := pr) (xs := xs) (fun i hi => Hall.out i (by omega)))
      go_wp2
      go_ret
      exact ⟨ret_int Hf.out.symm, rfl⟩

set_option maxHeartbeats 1000000 in
theorem containsFunc_v (p : Option Addr) (n cap : Nat) (xs : List Int)  (pr : Int → Bool) (w : World) (hI : Ints w p xs) (hn : xs.length = n)
    (hcl : ∀ c : Int, Calls Try.prog 26 #[.int .i64 c] w fun e w' => e = .returned (.bool (pr c)) ∧ w = w') :
    Calls Try.prog 24 #[.slice p n cap, .func (.func 26) #[] #[]] w fun e w' => e = .returned (.bool (xs.any pr)) ∧ w = w' := by
  have Hcl := Lib.hid hcl
  clear hcl
  go_enter Try.func24, Try.ntmps24
  go_wp2_with ((go_at_call 29; apply Calls.mono; (with_reducible exact indexFunc_v _ _ _ _  pr _ hI hn Hcl.out); rintro e w' ⟨rfl, rfl⟩))
  go_ret
  refine ⟨ret_bool ?_, rfl⟩
  rw [Bool.eq_iff_iff]
  simp [idxF_any]

set_option maxHeartbeats 1000000 in
theorem indexFunc_c (p : Option Addr) (n cap : Nat) (xs : List Int) (q : Value) (pr : Int → Bool) (w : World) (hI : Ints w p xs) (hn : xs.length = n)
    (hcl : ∀ c : Int, Calls Try.prog 25 #[.int .i64 c, q] w fun e w' => e = .returned (.bool (pr c)) ∧ w = w') :
    Calls Try.prog 29 #[.slice p n cap, .func (.func 25) #[] #[q]] w fun e w' => e = .returned (.int .i64 (idxF pr xs)) ∧ w = w' := by
  subst hn
  obtain ⟨hm, _, b, o, h3, h4⟩ := hI
  have Hcl := Lib.hid hcl
  clear hcl
  go_enter Try.func29, Try.ntmps29
  go_wp2
  go_loop [5, 8] (fun _ i => ∃ k : Nat, k ≤ xs.length ∧ i = .int .i64 k ∧ ∀ j, j < k → pr (ge xs j) = false) (fun _ i => xs.length - (intOf i).toNat)
  case atStart => exact ⟨0, Nat.zero_le _, rfl, fun j hj => by omega⟩
  case round =>
    obtain ⟨k, hk, rfl, hall⟩ := hrel
    have Hall := Lib.hid hall
    clear hall
    by_cases hlt : k < xs.length
    · obtain ⟨rfl, hb⟩ := h3 (by omega)
      have hc := h4 k hlt
      clear h3 h4
      cases he : pr (ge xs k)
      · have He := Lib.hid he
        go_wp2_with ((go_at_call 25; apply Calls.mono; (with_reducible exact Hcl.out _); rintro e w' ⟨rfl, rfl⟩))
        go_round
        case rel => exact ⟨k + 1, by omega, by go_num, fun j hj => by
          by_cases h : j = k
          · rw [h]; exact He.out
          · exact Hall.out j (by omega)⟩
        case measure => simp [intOf]; omega
      · have Hf := Lib.hid (idxF_first k hlt Hall.out he)
        go_wp2_with ((go_at_call 25; apply Calls.mono; (with_reducible exact Hcl.out _); rintro e w' ⟨rfl, rfl⟩))
        go_ret
        exact ⟨ret_int Hf.out.symm, rfl⟩
    · have Hf := Lib.hid (idxF_none (pr := pr) (xs := xs) (fun i hi => Hall.out i (by omega)))
      go_wp2
      go_ret
      exact ⟨ret_int Hf.out.symm, rfl⟩

set_option maxHeartbeats 1000000 in
theorem containsFunc_c (p : Option Addr) (n cap : Nat) (xs : List Int) (q : Value) (pr : Int → Bool) (w : World) (hI : Ints w p xs) (hn : xs.length = n)
    (hcl : ∀ c : Int, Calls Try.prog 25 #[.int .i64 c, q] w fun e w' => e = .returned (.bool (pr c)) ∧ w = w') :
    Calls Try.prog 24 #[.slice p n cap, .func (.func 25) #[] #[q]] w fun e w' => e = .returned (.bool (xs.any pr)) ∧ w = w' := by
  have Hcl := Lib.hid hcl
  clear hcl
  go_enter Try.func24, Try.ntmps24
  go_wp2_with ((go_at_call 29; apply Calls.mono; (with_reducible exact indexFunc_c _ _ _ _ _ pr _ hI hn Hcl.out); rintro e w' ⟨rfl, rfl⟩))
  go_ret
  refine ⟨ret_bool ?_, rfl⟩
  rw [Bool.eq_iff_iff]
  simp [idxF_any]

def badC (c : Int) : Bool := decide (c < 0 ∨ 1000000 < c)
set_option maxHeartbeats 1000000 in
theorem valid1_p (c : Int) (w : World) : Calls Try.prog 26 #[.int .i64 c] w fun e w' => e = .returned (.bool (badC c)) ∧ w = w' := by
  go_enter Try.func26, Try.ntmps26
  go_wp2
  all_goals
    go_ret
    refine ⟨ret_bool ?_, rfl⟩
    rw [Bool.eq_iff_iff]
    unfold badC
    simp
    try omega

def badR (n : Nat) (c : Int) : Bool := decide (c < 0 ∨ (n : Int) ≤ c)
set_option maxHeartbeats 1000000 in
theorem cost1_p (c : Int) (b n cap : Nat) (p : Option Addr) (w : World) (hc : w.cell? ⟨b, 0, none⟩ = some (.slice p n cap)) (hn : n ≤ 9223372036854775807) :
    Calls Try.prog 25 #[.int .i64 c, .pointer (some ⟨b, 0, none⟩)] w fun e w' => e = .returned (.bool (badR n c)) ∧ w = w' := by
  go_enter Try.func25, Try.ntmps25
  go_wp2
  all_goals
    go_ret
    refine ⟨ret_bool ?_, rfl⟩
    rw [Bool.eq_iff_iff]
    unfold badR
    simp
    try omega

theorem any_badC {m : List (List Int)} {u : Nat} (hl : (rowOf m u).length = m.length) : (rowOf m u).any badC = false ↔ rowOK m u := by
  constructor
  · intro h
    refine ⟨hl, fun v hv => ?_⟩
    have := List.any_eq_false.1 h _ (ge_mem (xs := rowOf m u) (i := v) (by omega))
    unfold badC at this
    simp at this
    exact this
  · intro h
    rw [List.any_eq_false]
    intro x hx
    obtain ⟨i, hi, he⟩ := List.getElem_of_mem hx
    have := h.2 i (by omega)
    unfold at2 at this
    rw [ge_eq _ hi, he] at this
    unfold badC
    simp
    omega

set_option maxHeartbeats 2000000 in
theorem valid_p (p : Option Addr) (n cap : Nat) (m : List (List Int)) (w : World) (hM : Mat w p m) (hn : m.length = n) :
    Calls Try.prog 19 #[.slice p n cap] w fun e w' => e = .returned (.bool (vMatB m)) ∧ w = w' := by
  subst hn
  obtain ⟨hm, b, o, rp, rc, h3, h4⟩ := hM
  by_cases h8 : m.length ≤ 8
  case neg =>
    have Hf := Lib.hid (vMatB_not (m := m) (fun h => h8 h.1))
    have h8' : 8 < m.length := by omega
    clear h8
    go_enter Try.func19, Try.ntmps19
    go_wp2
    go_ret
    exact ⟨ret_bool Hf.out.symm, rfl⟩
  case pos =>
  have H8 := Lib.hid h8
  go_enter Try.func19, Try.ntmps19
  go_wp2
  go_loop [4, 10] (fun _ i => ∃ k : Nat, k ≤ m.length ∧ i = .int .i64 k ∧ ∀ u, u < k → rowOK m u) (fun _ i => m.length - (intOf i).toNat)
  case atStart => exact ⟨0, Nat.zero_le _, rfl, fun j hj => by omega⟩
  case round =>
    obtain ⟨k, hk, rfl, hall⟩ := hrel
    have Hall := Lib.hid hall
    clear hall
    by_cases hlt : k < m.length
    · obtain ⟨rfl, hb⟩ := h3 (by omega)
      obtain ⟨hc, hI⟩ := h4 k hlt
      have hmr := hI.1
      clear h3 h4
      by_cases hl : (rowOf m k).length = m.length
      · rw [hl] at hc
        have Hl := Lib.hid hl
        clear hl
        cases ha : (rowOf m k).any badC
        · have Ha := Lib.hid ((any_badC Hl.out).1 ha)
          go_wp2_with ((go_at_call 24; apply Calls.mono; (with_reducible exact containsFunc_v _ _ _ _ badC _ hI Hl.out (fun c => valid1_p c _)); rintro e w' ⟨rfl, rfl⟩))
          go_round
          case rel =>
            refine ⟨k + 1, by omega, by go_num, fun u hu => ?_⟩
            by_cases h : u = k
            · rw [h]; exact Ha.out
            · exact Hall.out u (by omega)
          case measure => simp [intOf]; omega
        · have Hf := Lib.hid (vMatB_not (m := m) (fun h => by have := (any_badC Hl.out).2 (h.2 k hlt); rw [ha] at this; cases this))
          go_wp2_with ((go_at_call 24; apply Calls.mono; (with_reducible exact containsFunc_v _ _ _ _ badC _ hI Hl.out (fun c => valid1_p c _)); rintro e w' ⟨rfl, rfl⟩))
          go_ret
          exact ⟨ret_bool Hf.out.symm, rfl⟩
      · have hl' : (((rowOf m k).length : Int) != (m.length : Int)) = true := by rw [bne_iff_ne]; omega
        have Hf := Lib.hid (vMatB_not (m := m) (fun h => hl (h.2 k hlt).1))
        clear hl
        go_wp2
        go_ret
        exact ⟨ret_bool Hf.out.symm, rfl⟩
    · have Hf := Lib.hid (vMatB_iff.2 (show vMat m from ⟨H8.out, fun u hu => Hall.out u (by omega)⟩))
      go_wp2
      go_ret
      exact ⟨ret_bool Hf.out.symm, rfl⟩

end Go.Proofs.Ytnodgagmnekliaa
