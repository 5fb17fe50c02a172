/- Lists of numbers: has, SameInts; Check and Contour of the program. -/
import Derived.Test.YtdacnkjmimhcaaaDoorCanD
set_option linter.unusedSimpArgs false
set_option linter.unusedVariables false
namespace Go.Proofs.YtdacnkjmimhcaaaDoor
open Go.RowKit
attribute [local go_sem ↓] Go.wp_at_zero Go.wp_at_succ

theorem mem_ge {L : List Int} {v : Int} : v ∈ L ↔ ∃ i, i < L.length ∧ ge L i = v :=
  ⟨fun h => by obtain ⟨i, hi, e⟩ := List.getElem_of_mem h; exact ⟨i, hi, by rw [ge_eq L hi, e]⟩, fun ⟨i, hi, e⟩ => e ▸ ge_mem hi⟩
theorem has_yes {L : List Int} {v : Int} {i : Nat} (hi : i < L.length) (h : ge L i = v) : decide (v ∈ L) = true := decide_eq_true (mem_ge.2 ⟨i, hi, h⟩)
theorem has_no {L : List Int} {v : Int} (h : ∀ i, i < L.length → ge L i ≠ v) : decide (v ∈ L) = false := decide_eq_false (fun hm => by obtain ⟨i, hi, e⟩ := mem_ge.1 hm; exact h i hi e)

set_option maxHeartbeats 1000000 in
theorem has36_r (p : Option Addr) (n cap : Nat) (L : List Int) (v : Int) (w : World) (hI : Ints w p L) (hn : L.length = n) :
    Calls Tryd.prog 23 #[.slice p n cap, .int .i64 v] w fun e w' => e = .returned (.bool (decide (v ∈ L))) ∧ w = w' := by
  subst hn
  have hm := hI.1
  have HI := Lib.hid hI
  clear hI
  go_enter Tryd.func23, Tryd.ntmps23
  go_wp2
  go_loop [5] (fun i => ∃ k : Nat, k ≤ L.length ∧ i = .int .i64 k ∧ ∀ j, j < k → ge L j ≠ v) (fun i => L.length - (intOf i).toNat)
  case atStart => exact ⟨0, Nat.zero_le _, rfl, fun j hj => by omega⟩
  case round =>
    obtain ⟨k, hk, rfl, hall⟩ := hrel
    have Hall := Lib.hid hall
    clear hall
    by_cases hlt : k < L.length
    · obtain ⟨b, o, rfl, hb, hc⟩ := HI.out.cells (by omega)
      have c1 := hc w (Grew.refl _) k hlt
      obtain ⟨x, hx⟩ : ∃ x, ge L k = x := ⟨_, rfl⟩
      rw [hx] at c1
      have Hx := Lib.hid hx
      clear hc hx
      by_cases he : x = v
      · subst he
        have Hf := Lib.hid (has_yes hlt Hx.out)
        go_wp2
        go_ret
        exact ⟨by rw [Hf.out]; rfl, rfl⟩
      · have he' : (x == v) = false := beq_eq_false_iff_ne.2 he
        have He := Lib.hid he
        clear he
        go_wp2
        go_round
        case rel => exact ⟨k + 1, by omega, by go_num, fun j hj => by
          by_cases h : j = k
          · rw [h, Hx.out]; exact He.out
          · exact Hall.out j (by omega)⟩
        case measure => simp [intOf]; omega
    · have Hf := Lib.hid (has_no (v := v) (fun i hi => Hall.out i (by omega)))
      go_wp2
      go_ret
      exact ⟨by rw [Hf.out]; rfl, rfl⟩

theorem same_yes {L M : List Int} (hl : L.length = M.length) (h : ∀ i, i < L.length → ge L i = ge M i) : decide (L = M) = true := by
  refine decide_eq_true (List.ext_getElem hl fun i h1 h2 => ?_)
  rw [← ge_eq L h1, ← ge_eq M h2]
  exact h i h1
set_option maxHeartbeats 2000000 in
theorem same_l (p q : Option Addr) (n k cp cq : Nat) (L M : List Int) (w : World) (hL : Ints w p L) (hM : Ints w q M) (hn : L.length = n) (hk : M.length = k) :
    Calls Tryd.prog 13 #[.slice p n cp, .slice q k cq] w fun e w' => e = .returned (.bool (decide (L = M))) ∧ Grew w w' := by
  subst hn hk
  have hm := hL.1
  have HL := Lib.hid hL
  have HM := Lib.hid hM
  clear hL hM
  by_cases hl : L.length = M.length
  case neg =>
    have Hf : Hid (decide (L = M) = false) := Lib.hid (decide_eq_false (fun e => hl (by rw [e])))
    have hli : ¬ (L.length : Int) = (M.length : Int) := by omega
    go_enter Tryd.func13, Tryd.ntmps13
    go_wp2
    go_ret
    exact ⟨by rw [Hf.out]; rfl, Grew.refl _⟩
  case pos =>
  obtain ⟨n, hn⟩ : ∃ n, L.length = n := ⟨_, rfl⟩
  have Hn := Lib.hid hn
  have Hk : Hid (M.length = n) := Lib.hid (by rw [← hl, hn])
  rw [← hl, hn]
  rw [hn] at hm
  clear hn hl
  go_enter Tryd.func13, Tryd.ntmps13
  go_wp2
  go_loopw [5] (fun i wr => ∃ k : Nat, k ≤ n ∧ i = .int .i64 k ∧ Grew w wr ∧ ∀ j, j < k → ge L j = ge M j) (fun i _ => n - (intOf i).toNat)
  case atStart => exact ⟨0, Nat.zero_le _, rfl, Grew.refl _, fun j hj => by omega⟩
  case round =>
    obtain ⟨k, hk, rfl, hg, hall⟩ := hrel
    have Hall := Lib.hid hall
    have Hg := Lib.hid hg
    clear hall
    by_cases hlt : k < n
    · obtain ⟨b, o, rfl, hb, hc⟩ := HL.out.cells (by rw [Hn.out]; omega)
      obtain ⟨b', o', rfl, hb', hc'⟩ := HM.out.cells (by rw [Hk.out]; omega)
      have c1 := hc wr hg k (by rw [Hn.out]; omega)
      have c2 := hc' wr hg k (by rw [Hk.out]; omega)
      obtain ⟨x, hx⟩ : ∃ x, ge L k = x := ⟨_, rfl⟩
      obtain ⟨y, hy⟩ : ∃ y, ge M k = y := ⟨_, rfl⟩
      rw [hx] at c1
      rw [hy] at c2
      have Hx := Lib.hid hx
      have Hy := Lib.hid hy
      have hki : (k : Int) < (n : Int) := by omega
      clear hc hc' hx hy hg
      by_cases he : x = y
      · subst he
        go_wp2
        go_region
        go_wp2
        go_roundw
        case rel => exact ⟨k + 1, by omega, by go_num, Hg.out.trans (by (repeat (first | exact Grew.refl _ | refine Grew.over ?_ _ | refine Grew.alloc ?_ _ | refine Grew.drew ?_ | refine Grew.drewN ?_ _))), fun j hj => by
          by_cases h : j = k
          · rw [h, Hx.out, Hy.out]
          · exact Hall.out j (by omega)⟩
        case measure => simp [intOf]; omega
      · have he' : (x == y) = false := beq_eq_false_iff_ne.2 he
        have Hf : Hid (decide (L = M) = false) := Lib.hid (decide_eq_false (fun e => he (by rw [← Hx.out, ← Hy.out, e])))
        go_wp2
        go_region
        go_wp2
        go_ret
        exact ⟨by rw [Hf.out]; rfl, Hg.out.trans (by (repeat (first | exact Grew.refl _ | refine Grew.over ?_ _ | refine Grew.alloc ?_ _ | refine Grew.drew ?_ | refine Grew.drewN ?_ _)))⟩
    · have Hf := Lib.hid (same_yes (by rw [Hn.out, Hk.out]) (fun i hi => Hall.out i (by rw [Hn.out] at hi; omega)))
      go_wp2
      go_ret
      exact ⟨by rw [Hf.out]; rfl, Hg.out.trans (by (repeat (first | exact Grew.refl _ | refine Grew.over ?_ _ | refine Grew.alloc ?_ _ | refine Grew.drew ?_ | refine Grew.drewN ?_ _)))⟩

section
variable {N : Int} {pE pA : Option Addr} {nE nA cE cA : Nat} {E : List (Int × Int)} {A : List (List Int)} {pO : Option Addr} {nO cO : Nat} {O : List Int} {w : World}
theorem contours_no (h : chkO N E A O = false) (hR : RotIn w pE pA cE E A) (hL : Lim w) (hO : Ints w pO O) (hO1 : O.length ≤ 30) (hO2 : nO ≤ cO) (hO3 : cO ≤ maxLen) (hnE : E.length = nE) (hnA : A.length = nA) (hnO : O.length = nO) :
    Calls Tryd.prog 20 #[.agg #[.int .i64 N, .slice pE nE cE, .slice pA nA cA], .slice pO nO cO] w fun e w' => e = .returned (.tuple #[.slice none 0 0, .bool false]) ∧ Grew w w' :=
  (contours_p N pE pA nE nA cE cA E A pO nO cO O w hR hL hO hO1 hO2 hO3 hnE hnA hnO).mono fun _ _ ⟨h1, _, h3⟩ => ⟨h3 h, h1⟩
theorem contours_yes (h : chkO N E A O = true) (hR : RotIn w pE pA cE E A) (hL : Lim w) (hO : Ints w pO O) (hO1 : O.length ≤ 30) (hO2 : nO ≤ cO) (hO3 : cO ≤ maxLen) (hnE : E.length = nE) (hnA : A.length = nA) (hnO : O.length = nO) :
    Calls Tryd.prog 20 #[.agg #[.int .i64 N, .slice pE nE cE, .slice pA nA cA], .slice pO nO cO] w fun e w' => ∃ q cap, e = .returned (.tuple #[.slice q (N - 1).toNat cap, .bool true]) ∧ Mat w' q (contsL N E A O (N - 1).toNat) ∧ Grew w w' :=
  (contours_p N pE pA nE nA cE cA E A pO nO cO O w hR hL hO hO1 hO2 hO3 hnE hnA hnO).mono fun _ _ ⟨h1, h2, _⟩ => by
    obtain ⟨q, cap, h4, h5⟩ := h2 h
    exact ⟨q, cap, h4, h5, h1⟩
end

set_option maxHeartbeats 2000000 in
theorem check36_p (N : Int) (pE pA : Option Addr) (nE nA cE cA : Nat) (E : List (Int × Int)) (A : List (List Int)) (pO : Option Addr) (nO cO : Nat) (O : List Int) (w : World) (hR : RotIn w pE pA cE E A) (hL : Lim w)
    (hO : Ints w pO O) (hO1 : O.length ≤ 30) (hO2 : nO ≤ cO) (hO3 : cO ≤ maxLen) (hnE : E.length = nE) (hnA : A.length = nA) (hnO : O.length = nO) :
    Calls Tryd.prog 11 #[.agg #[.int .i64 N, .slice pE nE cE, .slice pA nA cA], .slice pO nO cO] w fun e w' => e = .returned (.bool (chkO N E A O)) ∧ Grew w w' := by
  have HR := Lib.hid hR
  have HL := Lib.hid hL
  have HO := Lib.hid hO
  clear hR hL hO
  obtain ⟨t, ht⟩ : ∃ t, chkO N E A O = t := ⟨_, rfl⟩
  have Ht := Lib.hid ht
  clear ht
  cases t
  case false =>
    go_enter Tryd.func11, Tryd.ntmps11
    go_wp2_with (go_at_call 20; apply Calls.mono; (with_reducible exact contours_no Ht.out (HR.out.grew (by (repeat (first | exact Grew.refl _ | refine Grew.over ?_ _ | refine Grew.alloc ?_ _ | refine Grew.drew ?_ | refine Grew.drewN ?_ _)))) (HL.out.grew (by (repeat (first | exact Grew.refl _ | refine Grew.over ?_ _ | refine Grew.alloc ?_ _ | refine Grew.drew ?_ | refine Grew.drewN ?_ _)))) (HO.out.grew (by (repeat (first | exact Grew.refl _ | refine Grew.over ?_ _ | refine Grew.alloc ?_ _ | refine Grew.drew ?_ | refine Grew.drewN ?_ _)))) hO1 hO2 hO3 hnE hnA hnO); rintro e w4 ⟨rfl, x4, rfl⟩)
    go_ret
    exact ⟨by rw [Ht.out]; rfl, by (repeat (first | exact Grew.refl _ | refine Grew.over ?_ _ | refine Grew.alloc ?_ _ | refine Grew.drew ?_ | refine Grew.drewN ?_ _))⟩
  case true =>
    go_enter Tryd.func11, Tryd.ntmps11
    go_wp2_with (go_at_call 20; apply Calls.mono; (with_reducible exact contours_yes Ht.out (HR.out.grew (by (repeat (first | exact Grew.refl _ | refine Grew.over ?_ _ | refine Grew.alloc ?_ _ | refine Grew.drew ?_ | refine Grew.drewN ?_ _)))) (HL.out.grew (by (repeat (first | exact Grew.refl _ | refine Grew.over ?_ _ | refine Grew.alloc ?_ _ | refine Grew.drew ?_ | refine Grew.drewN ?_ _)))) (HO.out.grew (by (repeat (first | exact Grew.refl _ | refine Grew.over ?_ _ | refine Grew.alloc ?_ _ | refine Grew.drew ?_ | refine Grew.drewN ?_ _)))) hO1 hO2 hO3 hnE hnA hnO); rintro e w4 ⟨q, cap, rfl, _, x4, rfl⟩)
    go_ret
    exact ⟨by rw [Ht.out]; rfl, by (repeat (first | exact Grew.refl _ | refine Grew.over ?_ _ | refine Grew.alloc ?_ _ | refine Grew.drew ?_ | refine Grew.drewN ?_ _))⟩

theorem contP_len {N : Int} {E : List (Int × Int)} {A : List (List Int)} {O : List Int} : ∀ {j : Nat} {C : List Int}, contP N E A O j = some C → C.length ≤ j + 2
  | 0, C, h => by
    unfold contP at h; cases h
    rw [List.length_take]; omega
  | j + 1, C, h => by
    unfold contP at h
    cases hd : contP N E A O j with
    | none => rw [hd] at h; cases h
    | some D =>
      rw [hd] at h
      simp only [Option.bind_some] at h
      split at h
      · have := growF_succ h
        have := contP_len hd
        omega
      · cases h

/-- A list of numbers and an error. -/
def TwoPost (xs : List Int) (er : Int) (w : World) (e : Ending) (w' : World) : Prop :=
  Grew w w' ∧ ∃ q cap, e = .returned (.tuple #[.slice q xs.length cap, .int .i64 er]) ∧ Ints w' q xs ∧ xs.length ≤ cap ∧ cap ≤ maxLen
theorem TwoPost.none {w w' : World} {er : Int} (hg : Grew w w') : TwoPost [] er w (.returned (.tuple #[.slice none 0 0, .int .i64 er])) w' :=
  ⟨hg, Option.none, 0, rfl, ⟨by simp, (fun x h => by cases h), 0, 0, (fun h => by simp at h), (fun i h => by simp at h)⟩, Nat.le_refl _, Nat.zero_le _⟩
noncomputable def contRes (N : Int) (E : List (Int × Int)) (A : List (List Int)) (O : List Int) (k : Int) : List Int × Int :=
  if trgB N E A = false then ([], 13) else if chkO N E A O = false then ([], 1) else if k < 2 ∨ k > N then ([], 3) else ((contP N E A O (k - 2).toNat).getD [], 0)

set_option maxHeartbeats 4000000 in
theorem contour36_p (N : Int) (pE pA : Option Addr) (nE nA cE cA : Nat) (E : List (Int × Int)) (A : List (List Int)) (pO : Option Addr) (nO cO : Nat) (O : List Int) (k : Int) (w : World) (hR : RotIn w pE pA cE E A) (hL : Lim w)
    (hO : Ints w pO O) (hO1 : O.length ≤ 30) (hO2 : nO ≤ cO) (hO3 : cO ≤ maxLen) (hnE : E.length = nE) (hnA : A.length = nA) (hnO : O.length = nO) :
    Calls Tryd.prog 9 #[.agg #[.int .i64 N, .slice pE nE cE, .slice pA nA cA], .slice pO nO cO, .int .i64 k] w (TwoPost (contRes N E A O k).1 (contRes N E A O k).2 w) := by
  have HR := Lib.hid hR
  have HL := Lib.hid hL
  have HO := Lib.hid hO
  clear hR hL hO
  obtain ⟨b, hb⟩ : ∃ b, trgB N E A = b := ⟨_, rfl⟩
  have Htr : Hid (∀ W1, Grew w W1 → Calls Tryd.prog 19 #[.agg #[.int .i64 N, .slice pE nE cE, .slice pA nA cA]] W1 fun e w' => e = .returned (.bool b) ∧ Grew W1 w') := Lib.hid (fun W1 h => by rw [← hb]; exact trg_p _ _ _ _ _ _ _ _ _ _ (HR.out.grew h) (HL.out.grew h) hnE hnA)
  cases b
  case false =>
    have Hf : Hid (contRes N E A O k = ([], 13)) := Lib.hid (by unfold contRes; rw [if_pos hb])
    clear hb
    rw [Hf.out]
    go_enter Tryd.func9, Tryd.ntmps9
    go_wp2_with ((go_at_call 19; apply Calls.mono; (with_reducible exact Htr.out _ (by (repeat (first | exact Grew.refl _ | refine Grew.over ?_ _ | refine Grew.alloc ?_ _ | refine Grew.drew ?_ | refine Grew.drewN ?_ _)))); rintro e w' ⟨rfl, x, rfl⟩))
    go_ret2
    exact TwoPost.none (by (repeat (first | exact Grew.refl _ | refine Grew.over ?_ _ | refine Grew.alloc ?_ _ | refine Grew.drew ?_ | refine Grew.drewN ?_ _)))
  case true =>
  have Hb := Lib.hid hb
  clear hb
  obtain ⟨t, ht⟩ : ∃ t, chkO N E A O = t := ⟨_, rfl⟩
  have Ht := Lib.hid ht
  clear ht
  cases t
  case false =>
    have Hf : Hid (contRes N E A O k = ([], 1)) := Lib.hid (by unfold contRes; rw [if_neg (by rw [Hb.out]; simp), if_pos Ht.out])
    rw [Hf.out]
    go_enter Tryd.func9, Tryd.ntmps9
    go_wp2_with (first
      | ((go_at_call 19; apply Calls.mono; (with_reducible exact Htr.out _ (by (repeat (first | exact Grew.refl _ | refine Grew.over ?_ _ | refine Grew.alloc ?_ _ | refine Grew.drew ?_ | refine Grew.drewN ?_ _)))); rintro e w' ⟨rfl, x, rfl⟩))
      | (go_at_call 20; apply Calls.mono; (with_reducible exact contours_no Ht.out (HR.out.grew (by (repeat (first | exact Grew.refl _ | refine Grew.over ?_ _ | refine Grew.alloc ?_ _ | refine Grew.drew ?_ | refine Grew.drewN ?_ _)))) (HL.out.grew (by (repeat (first | exact Grew.refl _ | refine Grew.over ?_ _ | refine Grew.alloc ?_ _ | refine Grew.drew ?_ | refine Grew.drewN ?_ _)))) (HO.out.grew (by (repeat (first | exact Grew.refl _ | refine Grew.over ?_ _ | refine Grew.alloc ?_ _ | refine Grew.drew ?_ | refine Grew.drewN ?_ _)))) hO1 hO2 hO3 hnE hnA hnO); rintro e w4 ⟨rfl, x4, rfl⟩))
    go_ret2
    exact TwoPost.none (by (repeat (first | exact Grew.refl _ | refine Grew.over ?_ _ | refine Grew.alloc ?_ _ | refine Grew.drew ?_ | refine Grew.drewN ?_ _)))
  case true =>
  have hV := trg_valid Hb.out
  have hN := hV.al
  have hNs := hV.n1
  have hN3 := trg_three Hb.out
  have HM : Hid (∀ W1, Grew w W1 → Calls Tryd.prog 20 #[.agg #[.int .i64 N, .slice pE nE cE, .slice pA nA cA], .slice pO nO cO] W1 fun e w' => ∃ q cap, e = .returned (.tuple #[.slice q (N - 1).toNat cap, .bool true]) ∧ Mat w' q (contsL N E A O (N - 1).toNat) ∧ Grew W1 w') := Lib.hid (fun W1 h => contours_yes Ht.out (HR.out.grew h) (HL.out.grew h) (HO.out.grew h) hO1 hO2 hO3 hnE hnA hnO)
  obtain ⟨n, rfl⟩ : ∃ n : Nat, N = (n : Int) := ⟨N.toNat, by omega⟩
  have e1 : ((n : Int) - 1).toNat = n - 1 := by omega
  rw [e1] at HM
  clear e1 hN hV
  by_cases hk2 : k < 2
  · have Hf : Hid (contRes n E A O k = ([], 3)) := Lib.hid (by unfold contRes; rw [if_neg (by rw [Hb.out]; simp), if_neg (by rw [Ht.out]; simp), if_pos (Or.inl hk2)])
    rw [Hf.out]
    go_enter Tryd.func9, Tryd.ntmps9
    go_wp2_with (first
      | ((go_at_call 19; apply Calls.mono; (with_reducible exact Htr.out _ (by (repeat (first | exact Grew.refl _ | refine Grew.over ?_ _ | refine Grew.alloc ?_ _ | refine Grew.drew ?_ | refine Grew.drewN ?_ _)))); rintro e w' ⟨rfl, x, rfl⟩))
      | (go_at_call 20; apply Calls.mono; (with_reducible exact HM.out _ (by (repeat (first | exact Grew.refl _ | refine Grew.over ?_ _ | refine Grew.alloc ?_ _ | refine Grew.drew ?_ | refine Grew.drewN ?_ _)))); rintro e w4 ⟨q, cap, rfl, _, x4, rfl⟩))
    go_ret2
    exact TwoPost.none (by (repeat (first | exact Grew.refl _ | refine Grew.over ?_ _ | refine Grew.alloc ?_ _ | refine Grew.drew ?_ | refine Grew.drewN ?_ _)))
  by_cases hkn : (n : Int) < k
  · have Hf : Hid (contRes n E A O k = ([], 3)) := Lib.hid (by unfold contRes; rw [if_neg (by rw [Hb.out]; simp), if_neg (by rw [Ht.out]; simp), if_pos (Or.inr (by omega))])
    rw [Hf.out]
    go_enter Tryd.func9, Tryd.ntmps9
    go_wp2_with (first
      | ((go_at_call 19; apply Calls.mono; (with_reducible exact Htr.out _ (by (repeat (first | exact Grew.refl _ | refine Grew.over ?_ _ | refine Grew.alloc ?_ _ | refine Grew.drew ?_ | refine Grew.drewN ?_ _)))); rintro e w' ⟨rfl, x, rfl⟩))
      | (go_at_call 20; apply Calls.mono; (with_reducible exact HM.out _ (by (repeat (first | exact Grew.refl _ | refine Grew.over ?_ _ | refine Grew.alloc ?_ _ | refine Grew.drew ?_ | refine Grew.drewN ?_ _)))); rintro e w4 ⟨q, cap, rfl, _, x4, rfl⟩))
    go_ret2
    exact TwoPost.none (by (repeat (first | exact Grew.refl _ | refine Grew.over ?_ _ | refine Grew.alloc ?_ _ | refine Grew.drew ?_ | refine Grew.drewN ?_ _)))
  obtain ⟨j, rfl⟩ : ∃ j : Nat, k = (j : Int) + 2 := ⟨(k - 2).toNat, by omega⟩
  have Hf : Hid (contRes n E A O ((j : Int) + 2) = ((contP n E A O j).getD [], 0)) := Lib.hid (by unfold contRes; rw [if_neg (by rw [Hb.out]; simp), if_neg (by rw [Ht.out]; simp), if_neg (by omega), show ((j : Int) + 2 - 2).toNat = j by omega])
  have hj : j < n - 1 := by omega
  have hji : (j : Int) < ((n - 1 : Nat) : Int) := by omega
  obtain ⟨C, hC⟩ : ∃ C, contP n E A O j = some C := by
    have := Ht.out
    unfold chkO at this
    simp only [Bool.and_eq_true] at this
    obtain ⟨D, hD⟩ := Option.isSome_iff_exists.1 this.2
    exact contP_some hD j (by omega)
  have Hrow : Hid (rowOf (contsL n E A O (n - 1)) j = C) := Lib.hid (by
    unfold rowOf contsL
    rw [List.getD_eq_getElem?_getD, List.getElem?_map, List.getElem?_range hj]
    simp [hC])
  have HC0 := Lib.hid hC
  have hCl : C.length ≤ n := by have := contP_len hC; omega
  have HCl := Lib.hid hCl
  rw [hC] at Hf
  simp only [Option.getD_some] at Hf
  rw [Hf.out]
  have hms : n ≤ 100 := by
    have := Ht.out
    unfold chkO headB at this
    simp only [Bool.and_eq_true, decide_eq_true_iff] at this
    omega
  clear hC hCl
  go_enter Tryd.func9, Tryd.ntmps9
  go_wp2_with (first
    | ((go_at_call 19; apply Calls.mono; (with_reducible exact Htr.out _ (by (repeat (first | exact Grew.refl _ | refine Grew.over ?_ _ | refine Grew.alloc ?_ _ | refine Grew.drew ?_ | refine Grew.drewN ?_ _)))); rintro e w' ⟨rfl, x, rfl⟩))
    | (go_at_call 20; apply Calls.mono; (with_reducible exact HM.out _ (by (repeat (first | exact Grew.refl _ | refine Grew.over ?_ _ | refine Grew.alloc ?_ _ | refine Grew.drew ?_ | refine Grew.drewN ?_ _)))); rintro e w4 ⟨q, cap, rfl, hM4, x4, rfl⟩; obtain ⟨bM, oM, rp, rc, rfl, lM, cM⟩ := hM4.rows (by rw [contsL_length]; omega); obtain ⟨m1, m2⟩ := cM _ (Grew.refl _) j (by rw [contsL_length]; exact hj); rw [Hrow.out] at m1 m2; have HI4 := Lib.hid m2; clear hM4 cM m2)
    | (go_at_call 21; apply Calls.mono; (with_reducible exact clone_i _ _ _ _ _ (HI4.out.grew (by (repeat (first | exact Grew.refl _ | refine Grew.over ?_ _ | refine Grew.alloc ?_ _ | refine Grew.drew ?_ | refine Grew.drewN ?_ _)))) (by have := HCl.out; omega) rfl); rintro e w6 ⟨hg6, p6, c6, rfl, hO6⟩; have HO6 := Lib.hid hO6; have Hg6 := Lib.hid (Grew.trans (a := w) (by (repeat (first | exact Grew.refl _ | refine Grew.over ?_ _ | refine Grew.alloc ?_ _ | refine Grew.drew ?_ | refine Grew.drewN ?_ _))) hg6); clear hO6 hg6))
  obtain ⟨p7, c7, e7, e8, e9, e10, _, e11⟩ := own_ints HO6.out (k := 0) rfl HI4.out.2.1
  cases e7
  have H11 := Lib.hid e11
  clear e11 e8
  go_ret2
  exact ⟨Hg6.out.trans (by (repeat (first | exact Grew.refl _ | refine Grew.over ?_ _ | refine Grew.alloc ?_ _ | refine Grew.drew ?_ | refine Grew.drewN ?_ _))), p6, c6, rfl, H11.out _ (by (repeat (first | exact Grew.refl _ | refine Grew.over ?_ _ | refine Grew.alloc ?_ _ | refine Grew.drew ?_ | refine Grew.drewN ?_ _))), e9, e10⟩

end Go.Proofs.YtdacnkjmimhcaaaDoor
