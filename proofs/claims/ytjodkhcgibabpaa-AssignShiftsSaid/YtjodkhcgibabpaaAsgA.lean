/- Small contracts: Same, used, Less of the reference; IndexFunc, ContainsFunc of the library. -/
import Derived.Test.YtjodkhcgibabpaaHunE
set_option linter.unusedSimpArgs false
set_option linter.unusedVariables false
namespace Go.Proofs.Ytjodkhcgibabpaa
open Go.RowKit

set_option maxHeartbeats 1000000 in
theorem same_r (p q : Option Addr) (n k cp cq : Nat) (a b : List Int) (w : World) (ha : Ints w p a) (hb : Ints w q b) (hn : a.length = n) (hk : b.length = k) :
    Calls Try.prog 11 #[.slice p n cp, .slice q k cq] w fun e w' => e = .returned (.bool (decide (a = b))) ∧ Grew w w' := by
  subst hn hk
  have hma := ha.1
  have hmb := hb.1
  by_cases hl : a.length = b.length
  · obtain ⟨b1, o1, h1, c1⟩ := ha.open
    obtain ⟨b2, o2, h2, c2⟩ := hb.open
    clear ha hb
    rw [← hl] at h2 c2 hmb ⊢
    have Hl := Lib.hid hl
    clear hl
    go_enter Try.func11, Try.ntmps11
    go_wp2
    go_loopw [5] (fun i wr => ∃ j : Nat, j ≤ a.length ∧ i = .int .i64 j ∧ (∀ t, t < j → ge a t = ge b t) ∧ Grew w wr) (fun i _ => a.length - (intOf i).toNat)
    case atStart => exact ⟨0, Nat.zero_le _, rfl, (fun j hj => by omega), Grew.refl w⟩
    case round =>
      obtain ⟨j, hj, rfl, hall, x, rfl⟩ := hrel
      have Hall := Lib.hid hall
      clear hall
      by_cases hlt : j < a.length
      · obtain ⟨rfl, g1⟩ := h1 (by omega)
        obtain ⟨rfl, g2⟩ := h2 (by omega)
        have d1 := c1 j hlt
        have d2 := c2 j hlt
        clear h1 h2 c1 c2
        by_cases he : ge a j = ge b j
        · have he' : (ge a j != ge b j) = false := by simp [he]
          have He := Lib.hid he
          clear he
          go_wp2
          refine wp_region_over (by kernel_rfl) (by kernel_rfl) ?_; (repeat (go_big_quiet_step (fail))); refine wpQuiet_nil ?_; rintro _ ⟨x, rfl⟩
          go_wp2
          go_roundw
          case rel =>
            refine ⟨j + 1, by omega, by go_num, fun t ht => ?_, ?_⟩
            · by_cases h : t = j
              · rw [h]; exact He.out
              · exact Hall.out t (by omega)
            · (repeat (first | exact Grew.refl _ | refine Grew.over ?_ _ | refine Grew.alloc ?_ _ | refine Grew.drew ?_ | refine Grew.drewN ?_ _))
          case measure => simp [intOf]; omega
        · have he' : (ge a j != ge b j) = true := by simp [he]
          have He := Lib.hid he
          clear he
          go_wp2
          refine wp_region_over (by kernel_rfl) (by kernel_rfl) ?_; (repeat (go_big_quiet_step (fail))); refine wpQuiet_nil ?_; rintro _ ⟨x, rfl⟩
          go_wp2
          go_ret
          refine ⟨ret_bool ?_, ?_⟩
          · exact (decide_eq_false (fun e => He.out (by rw [e]))).symm
          · (repeat (first | exact Grew.refl _ | refine Grew.over ?_ _ | refine Grew.alloc ?_ _ | refine Grew.drew ?_ | refine Grew.drewN ?_ _))
      · have Hf : Hid (a = b) := Lib.hid (List.ext_getElem Hl.out fun i h1 h2 => by
          have := Hall.out i (by omega)
          rwa [ge_eq a h1, ge_eq b h2] at this)
        go_wp2
        go_ret
        refine ⟨ret_bool ?_, ?_⟩
        · exact (decide_eq_true Hf.out).symm
        · (repeat (first | exact Grew.refl _ | refine Grew.over ?_ _ | refine Grew.alloc ?_ _ | refine Grew.drew ?_ | refine Grew.drewN ?_ _))
  · have hne : ((a.length : Int) != (b.length : Int)) = true := by
      rw [bne_iff_ne]; omega
    have hf : decide (a = b) = false := decide_eq_false (fun e => hl (by rw [e]))
    have Hf := Lib.hid hf
    clear hf hl
    go_enter Try.func11, Try.ntmps11
    go_wp2
    go_ret
    exact ⟨ret_bool Hf.out.symm, Grew.refl w⟩

set_option maxHeartbeats 1000000 in
theorem in_r (p : Option Addr) (n cap : Nat) (xs : List Int) (v : Int) (w : World) (hI : Ints w p xs) (hn : xs.length = n) :
    Calls Try.prog 28 #[.slice p n cap, .int .i64 v] w fun e w' => e = .returned (.bool (decide (v ∈ xs))) ∧ w = w' := by
  subst hn
  obtain ⟨hm, _, b, o, h3, h4⟩ := hI
  go_enter Try.func28, Try.ntmps28
  go_wp2
  go_loop [5] (fun i => ∃ k : Nat, k ≤ xs.length ∧ i = .int .i64 k ∧ ∀ j, j < k → v ≠ ge xs j) (fun i => xs.length - (intOf i).toNat)
  case atStart => exact ⟨0, Nat.zero_le _, rfl, fun j hj => by omega⟩
  case round =>
    obtain ⟨k, hk, rfl, hall⟩ := hrel
    have Hall := Lib.hid hall
    clear hall
    by_cases hlt : k < xs.length
    · obtain ⟨rfl, hb⟩ := h3 (by omega)
      have hc := h4 k hlt
      clear h3 h4
      by_cases he : v = ge xs k
      · have Hf := Lib.hid (show decide (v ∈ xs) = true from decide_eq_true (he ▸ ge_mem hlt))
        have he' : (ge xs k == v) = true := beq_iff_eq.2 he.symm
        clear he
        go_wp2
        go_ret
        exact ⟨ret_bool Hf.out.symm, rfl⟩
      · have he' : (ge xs k == v) = false := beq_eq_false_iff_ne.2 (Ne.symm he)
        have He := Lib.hid he
        clear he
        go_wp2
        go_round
        case rel => exact ⟨k + 1, by omega, by go_num, fun j hj => by
          by_cases h : j = k
          · rw [h]; exact He.out
          · exact Hall.out j (by omega)⟩
        case measure => simp [intOf]; omega
    · have Hf := Lib.hid (show decide (v ∈ xs) = false from decide_eq_false fun hv => by
        obtain ⟨i, hi, he⟩ := List.getElem_of_mem hv
        exact Hall.out i (by omega) (by rw [ge_eq xs hi]; exact he.symm))
      go_wp2
      go_ret
      exact ⟨ret_bool Hf.out.symm, rfl⟩

theorem in_e {p : Option Addr} {n cap : Nat} {xs : List Int} {v : Int} {w : World} {b : Bool} (h : decide (v ∈ xs) = b) (hI : Ints w p xs) (hn : xs.length = n) :
    Calls Try.prog 28 #[.slice p n cap, .int .i64 v] w fun e w' => e = .returned (.bool b) ∧ w = w' := h ▸ in_r p n cap xs v w hI hn

/-- Lexicographically before, on numbers. -/
def lexI : List Int → List Int → Bool
  | a :: l, b :: r => if a = b then lexI l r else decide (a < b)
  | _, _ => false

theorem drop_ge {xs : List Int} {i : Nat} (h : i < xs.length) : xs.drop i = ge xs i :: xs.drop (i + 1) := by
  rw [List.drop_eq_getElem_cons h, ge_eq xs h]

set_option maxHeartbeats 1000000 in
theorem less_r (p q : Option Addr) (n k cp cq : Nat) (a b : List Int) (w : World) (ha : Ints w p a) (hb : Ints w q b) (hn : a.length = n) (hk : b.length = k) :
    Calls Try.prog 14 #[.slice p n cp, .slice q k cq] w fun e w' => e = .returned (.bool (lexI a b)) ∧ Grew w w' := by
  subst hn hk
  have hma := ha.1
  have hmb := hb.1
  obtain ⟨b1, o1, h1, c1⟩ := ha.open
  obtain ⟨b2, o2, h2, c2⟩ := hb.open
  clear ha hb
  go_enter Try.func14, Try.ntmps14
  go_wp2
  go_loopw [5] (fun i wr => ∃ j : Nat, j ≤ a.length ∧ j ≤ b.length ∧ i = .int .i64 j ∧ lexI a b = lexI (a.drop j) (b.drop j) ∧ Grew w wr) (fun i _ => a.length - (intOf i).toNat)
  case atStart => exact ⟨0, Nat.zero_le _, Nat.zero_le _, rfl, rfl, Grew.refl w⟩
  case round =>
    obtain ⟨j, hj, hj2, rfl, hall, x, rfl⟩ := hrel
    have Hall := Lib.hid hall
    clear hall
    by_cases hlt : j < a.length
    · by_cases hlt2 : j < b.length
      · obtain ⟨rfl, g1⟩ := h1 (by omega)
        obtain ⟨rfl, g2⟩ := h2 (by omega)
        have d1 := c1 j hlt
        have d2 := c2 j hlt2
        have hnext := Hall.out
        rw [drop_ge hlt, drop_ge hlt2] at hnext
        simp only [lexI] at hnext
        clear h1 h2 c1 c2
        by_cases he : ge a j = ge b j
        · have he' : (ge a j != ge b j) = false := by simp [he]
          rw [if_pos he] at hnext
          have Hn := Lib.hid hnext
          clear he hnext
          go_wp2
          refine wp_region_over (by kernel_rfl) (by kernel_rfl) ?_; (repeat (go_big_quiet_step (fail))); refine wpQuiet_nil ?_; rintro _ ⟨x, rfl⟩
          go_wp2
          go_roundw
          case rel =>
            refine ⟨j + 1, by omega, by omega, by go_num, Hn.out, ?_⟩
            (repeat (first | exact Grew.refl _ | refine Grew.over ?_ _ | refine Grew.alloc ?_ _ | refine Grew.drew ?_ | refine Grew.drewN ?_ _))
          case measure => simp [intOf]; omega
        · have he' : (ge a j != ge b j) = true := by simp [he]
          rw [if_neg he] at hnext
          have Hn := Lib.hid hnext
          clear he hnext
          go_wp2
          refine wp_region_over (by kernel_rfl) (by kernel_rfl) ?_; (repeat (go_big_quiet_step (fail))); refine wpQuiet_nil ?_; rintro _ ⟨x, rfl⟩
          go_wp2
          refine wp_region_over (by kernel_rfl) (by kernel_rfl) ?_; (repeat (go_big_quiet_step (fail))); refine wpQuiet_nil ?_; rintro _ ⟨x, rfl⟩
          go_wp2
          go_ret
          refine ⟨ret_bool ?_, ?_⟩
          · exact Hn.out.symm
          · (repeat (first | exact Grew.refl _ | refine Grew.over ?_ _ | refine Grew.alloc ?_ _ | refine Grew.drew ?_ | refine Grew.drewN ?_ _))
      · have Hn : Hid (lexI a b = false) := Lib.hid (by
          rw [Hall.out, show b.drop j = [] from List.drop_eq_nil_of_le (by omega)]
          cases a.drop j <;> rfl)
        clear h1 h2 c1 c2
        go_wp2
        go_ret
        refine ⟨ret_bool Hn.out.symm, ?_⟩
        (repeat (first | exact Grew.refl _ | refine Grew.over ?_ _ | refine Grew.alloc ?_ _ | refine Grew.drew ?_ | refine Grew.drewN ?_ _))
    · have Hn : Hid (lexI a b = false) := Lib.hid (by
        rw [Hall.out, show a.drop j = [] from List.drop_eq_nil_of_le (by omega)]
        rfl)
      clear h1 h2 c1 c2
      go_wp2
      go_ret
      refine ⟨ret_bool Hn.out.symm, ?_⟩
      (repeat (first | exact Grew.refl _ | refine Grew.over ?_ _ | refine Grew.alloc ?_ _ | refine Grew.drew ?_ | refine Grew.drewN ?_ _))

def idxF (pr : Int → Bool) : List Int → Int
  | [] => -1
  | x :: l => if pr x then 0 else if idxF pr l = -1 then -1 else idxF pr l + 1

theorem idxF_none {pr : Int → Bool} {xs : List Int} : (∀ i, i < xs.length → pr (ge xs i) = false) → idxF pr xs = -1 := by
  induction xs with
  | nil => intro _; rfl
  | cons x l ih =>
    intro h
    have h0 := h 0 (by simp)
    rw [ge_cons_zero] at h0
    rw [idxF, if_neg (by simp [h0]), ih (fun i hi => by have := h (i + 1) (by simpa using hi); rwa [ge_cons_succ] at this)]
    rfl

theorem idxF_first {pr : Int → Bool} {xs : List Int} : ∀ (k : Nat), k < xs.length → (∀ i, i < k → pr (ge xs i) = false) → pr (ge xs k) = true → idxF pr xs = k := by
  induction xs with
  | nil => intro k hk; simp at hk
  | cons x l ih =>
    intro k hk h he
    cases k with
    | zero => rw [ge_cons_zero] at he; rw [idxF, if_pos he]; rfl
    | succ k =>
      have h0 := h 0 (by omega)
      rw [ge_cons_zero] at h0
      have := ih k (by simpa using hk) (fun i hi => by have := h (i + 1) (by omega); rwa [ge_cons_succ] at this) (by rwa [ge_cons_succ] at he)
      rw [idxF, if_neg (by simp [h0]), this, if_neg (by omega)]
      omega

theorem idxF_any {pr : Int → Bool} {xs : List Int} : 0 ≤ idxF pr xs ↔ ∃ x, x ∈ xs ∧ pr x = true := by
  induction xs with
  | nil => simp [idxF]
  | cons x l ih =>
    rw [idxF]
    by_cases h : pr x = true
    · simp [h]
    · rw [if_neg h]
      have hlo : -1 ≤ idxF pr l := by
        clear ih
        induction l with
        | nil => simp [idxF]
        | cons y l ih => rw [idxF]; repeat' split
                         all_goals omega
      simp only [List.mem_cons, exists_eq_or_imp, h, false_or, ← ih]
      split <;> simp <;> omega

set_option maxHeartbeats 1000000 in
theorem indexFunc_v (p : Option Addr) (n cap : Nat) (xs : List Int)  (pr : Int → Bool) (w : World) (hI : Ints w p xs) (hn : xs.length = n)
    (hcl : ∀ c : Int, Calls Try.prog 25 #[.int .i64 c] w fun e w' => e = .returned (.bool (pr c)) ∧ w = w') :
    Calls Try.prog 29 #[.slice p n cap, .func (.func 25) #[] #[]] w fun e w' => e = .returned (.int .i64 (idxF pr xs)) ∧ w = w' := by
  subst hn
  obtain ⟨hm, _, b, o, h3, h4⟩ := hI
  have Hcl := Lib.hid hcl
  clear hcl
  go_enter Try.func29, Try.ntmps29
  go_wp2
  go_loop [5, 8] (fun _ i => ∃ k : Nat, k ≤ xs.length ∧ i = .int .i64 k ∧ ∀ j, j < k → pr (ge xs j) = false) (fun _ i => xs.length - (intOf i).toNat)
  case atStart => exact ⟨0, Nat.zero_le _, rfl, fun j hj => by omega⟩
  case round =>
    obtain ⟨k, hk, rfl, hall⟩ := hrel
    have Hall := Lib.hid hall
    clear hall
    by_cases hlt : k < xs.length
    · obtain ⟨rfl, hb⟩ := h3 (by omega)
      have hc := h4 k hlt
      clear h3 h4
      cases he : pr (ge xs k)
      · have He := Lib.hid he
        go_wp2_with ((go_at_call 25; apply Calls.mono; (with_reducible exact Hcl.out _); rintro e w' ⟨rfl, rfl⟩))
        go_round
        case rel => exact ⟨k + 1, by omega, by go_num, fun j hj => by
          by_cases h : j = k
          · rw [h]; exact He.out
          · exact Hall.out j (by omega)⟩
        case measure => simp [intOf]; omega
      · have Hf := Lib.hid (idxF_first k hlt Hall.out he)
        go_wp2_with ((go_at_call 25; apply Calls.mono; (with_reducible exact Hcl.out _); rintro e w' ⟨rfl, rfl⟩))
        go_ret
        exact ⟨ret_int Hf.out.symm, rfl⟩
    · have Hf := Lib.hid (idxF_none (pr := pr) (xs := xs) (fun i hi => Hall.out i (by omega)))
      go_wp2
      go_ret
      exact ⟨ret_int Hf.out.symm, rfl⟩

set_option maxHeartbeats 1000000 in
theorem containsFunc_v (p : Option Addr) (n cap : Nat) (xs : List Int)  (pr : Int → Bool) (w : World) (hI : Ints w p xs) (hn : xs.length = n)
    (hcl : ∀ c : Int, Calls Try.prog 25 #[.int .i64 c] w fun e w' => e = .returned (.bool (pr c)) ∧ w = w') :
    Calls Try.prog 23 #[.slice p n cap, .func (.func 25) #[] #[]] w fun e w' => e = .returned (.bool (xs.any pr)) ∧ w = w' := by
  have Hcl := Lib.hid hcl
  clear hcl
  go_enter Try.func23, Try.ntmps23
  go_wp2_with ((go_at_call 29; apply Calls.mono; (with_reducible exact indexFunc_v _ _ _ _  pr _ hI hn Hcl.out); rintro e w' ⟨rfl, rfl⟩))
  go_ret
  refine ⟨ret_bool ?_, rfl⟩
  rw [Bool.eq_iff_iff]
  simp [idxF_any]

set_option maxHeartbeats 1000000 in
theorem indexFunc_c (p : Option Addr) (n cap : Nat) (xs : List Int) (q : Value) (pr : Int → Bool) (w : World) (hI : Ints w p xs) (hn : xs.length = n)
    (hcl : 0 < xs.length → ∀ c : Int, Calls Try.prog 24 #[.int .i64 c, q] w fun e w' => e = .returned (.bool (pr c)) ∧ w = w') :
    Calls Try.prog 29 #[.slice p n cap, .func (.func 24) #[] #[q]] w fun e w' => e = .returned (.int .i64 (idxF pr xs)) ∧ w = w' := by
  subst hn
  obtain ⟨hm, _, b, o, h3, h4⟩ := hI
  have Hcl := Lib.hid hcl
  clear hcl
  go_enter Try.func29, Try.ntmps29
  go_wp2
  go_loop [5, 8] (fun _ i => ∃ k : Nat, k ≤ xs.length ∧ i = .int .i64 k ∧ ∀ j, j < k → pr (ge xs j) = false) (fun _ i => xs.length - (intOf i).toNat)
  case atStart => exact ⟨0, Nat.zero_le _, rfl, fun j hj => by omega⟩
  case round =>
    obtain ⟨k, hk, rfl, hall⟩ := hrel
    have Hall := Lib.hid hall
    clear hall
    by_cases hlt : k < xs.length
    · obtain ⟨rfl, hb⟩ := h3 (by omega)
      have hc := h4 k hlt
      clear h3 h4
      cases he : pr (ge xs k)
      · have He := Lib.hid he
        go_wp2_with ((go_at_call 24; apply Calls.mono; (with_reducible exact Hcl.out (by omega) _); rintro e w' ⟨rfl, rfl⟩))
        go_round
        case rel => exact ⟨k + 1, by omega, by go_num, fun j hj => by
          by_cases h : j = k
          · rw [h]; exact He.out
          · exact Hall.out j (by omega)⟩
        case measure => simp [intOf]; omega
      · have Hf := Lib.hid (idxF_first k hlt Hall.out he)
        go_wp2_with ((go_at_call 24; apply Calls.mono; (with_reducible exact Hcl.out (by omega) _); rintro e w' ⟨rfl, rfl⟩))
        go_ret
        exact ⟨ret_int Hf.out.symm, rfl⟩
    · have Hf := Lib.hid (idxF_none (pr := pr) (xs := xs) (fun i hi => Hall.out i (by omega)))
      go_wp2
      go_ret
      exact ⟨ret_int Hf.out.symm, rfl⟩

set_option maxHeartbeats 1000000 in
theorem containsFunc_c (p : Option Addr) (n cap : Nat) (xs : List Int) (q : Value) (pr : Int → Bool) (w : World) (hI : Ints w p xs) (hn : xs.length = n)
    (hcl : 0 < xs.length → ∀ c : Int, Calls Try.prog 24 #[.int .i64 c, q] w fun e w' => e = .returned (.bool (pr c)) ∧ w = w') :
    Calls Try.prog 23 #[.slice p n cap, .func (.func 24) #[] #[q]] w fun e w' => e = .returned (.bool (xs.any pr)) ∧ w = w' := by
  have Hcl := Lib.hid hcl
  clear hcl
  go_enter Try.func23, Try.ntmps23
  go_wp2_with ((go_at_call 29; apply Calls.mono; (with_reducible exact indexFunc_c _ _ _ _ _ pr _ hI hn Hcl.out); rintro e w' ⟨rfl, rfl⟩))
  go_ret
  refine ⟨ret_bool ?_, rfl⟩
  rw [Bool.eq_iff_iff]
  simp [idxF_any]

def badC (c : Int) : Bool := decide (c < -1 ∨ 1000000 < c)
set_option maxHeartbeats 1000000 in
theorem valid1_p (c : Int) (w : World) : Calls Try.prog 25 #[.int .i64 c] w fun e w' => e = .returned (.bool (badC c)) ∧ w = w' := by
  go_enter Try.func25, Try.ntmps25
  go_wp2
  all_goals
    go_ret
    refine ⟨ret_bool ?_, rfl⟩
    rw [Bool.eq_iff_iff]
    unfold badC
    simp
    try omega

def badR (n : Nat) (c : Int) : Bool := decide (c < 0 ∨ (n : Int) ≤ c)
set_option maxHeartbeats 1000000 in
theorem cost1_p (c : Int) (b n cap b1 o1 k cp : Nat) (p : Option Addr) (w : World) (hc : w.cell? ⟨b, 0, none⟩ = some (.slice (some ⟨b1, o1, none⟩) n cap)) (hn : 0 < n) (hb : b1 < w.heap.size) (hr : w.cell? ⟨b1, o1, none⟩ = some (.slice p k cp)) (hk : k ≤ 1000) :
    Calls Try.prog 24 #[.int .i64 c, .pointer (some ⟨b, 0, none⟩)] w fun e w' => e = .returned (.bool (badR k c)) ∧ w = w' := by
  by_cases h0 : c < 0
  · go_enter Try.func24, Try.ntmps24
    go_wp2
    go_ret
    refine ⟨ret_bool ?_, rfl⟩
    unfold badR
    simp
    omega
  · go_enter Try.func24, Try.ntmps24
    go_wp2
    go_ret
    refine ⟨ret_bool ?_, rfl⟩
    rw [Bool.eq_iff_iff]
    unfold badR
    simp
    try omega

end Go.Proofs.Ytjodkhcgibabpaa
