/- The laws BoundCosts, BoundFinds, BoundOptimal. -/
import Derived.Test.YtnodgagmnekliaaLawA
set_option linter.unusedSimpArgs false
set_option linter.unusedVariables false
namespace Go.Proofs.Ytnodgagmnekliaa
open Go.RowKit

theorem least_bad {p : Option Addr} {n cp : Nat} {m : List (List Int)} {w : World} (hM : Mat w p m) (hn : m.length = n) (hv : vMatB m = false) :
    Calls Try.prog 10 #[.slice p n cp] w fun e w' => e = .returned (.tuple #[.slice none 0 0, .int .i64 0, .int .i64 1]) ∧ Grew w w' := by
  refine (least_p p n cp m w hM hn).mono fun e w' h => ?_
  obtain ⟨hg, h⟩ := h
  rcases h with ⟨_, h⟩ | ⟨h, _⟩
  · exact ⟨h, hg⟩
  · rw [h] at hv; cases hv
theorem leastr_bad {p : Option Addr} {n cp : Nat} {m : List (List Int)} {w : World} (hM : Mat w p m) (hn : m.length = n) (hv : vMatB m = false) :
    Calls Try.prog 11 #[.slice p n cp] w fun e w' => e = .returned (.tuple #[.slice none 0 0, .int .i64 0, .int .i64 1]) ∧ Grew w w' := by
  refine (least_r p n cp m w hM hn).mono fun e w' h => ?_
  obtain ⟨hg, h⟩ := h
  rcases h with ⟨_, h⟩ | ⟨h, _⟩
  · exact ⟨h, hg⟩
  · rw [h] at hv; cases hv
theorem leastr_ok {p : Option Addr} {n cp : Nat} {m : List (List Int)} {w : World} {o : List Nat} {c : Int} (hM : Mat w p m) (hn : m.length = n) (hv : vMatB m = true) (hb : bestF m.length (at2 m) m.length [] = some (o, c)) :
    Calls Try.prog 11 #[.slice p n cp] w fun e w' => Grew w w' ∧ ∃ q cap, e = .returned (.tuple #[.slice q o.length cap, .int .i64 c, .int .i64 0]) ∧ Ints w' q (intL o) ∧ o.length ≤ cap ∧ (q = none → cap = 0) := by
  refine (least_r p n cp m w hM hn).mono fun e w' h => ?_
  obtain ⟨hg, h⟩ := h
  rcases h with ⟨h, _⟩ | ⟨_, o', c', v, h1, _, _, h2, h3⟩
  · rw [h] at hv; cases hv
  · rw [hb] at h1
    cases h1
    obtain ⟨q, cap, rfl, h4, h5, h6⟩ := h3
    exact ⟨hg, q, cap, h2, h4, h5, h6⟩
theorem best_all (m : List (List Int)) : ∃ o c, bestF m.length (at2 m) m.length [] = some (o, c) := by
  obtain ⟨⟨o, c⟩, h⟩ := Option.isSome_iff_exists.1 (bestF_some m.length (at2 m) m.length [] (by rw [left_nil]; simp))
  exact ⟨o, c, h⟩

set_option maxHeartbeats 2000000 in
theorem costs_l (p q : Option Addr) (n k cp cq : Nat) (m : List (List Int)) (xs : List Int) (w : World) (hM : Mat w p m) (hx : Ints w q xs) (hn : m.length = n) (hk : xs.length = k) (hcap : k ≤ cq) :
    Calls Try.prog 7 #[.slice p n cp, .slice q k cq] w fun e w' => e = .returned (.bool true) ∧ Grew w w' := by
  go_enter Try.func7, Try.ntmps7
  go_wp2_with (first
    | (go_at_call 18; apply Calls.mono; (with_reducible exact cost_p _ _ _ _ _ _ _ _ _ (hM.grew (by (repeat (first | exact Grew.refl _ | refine Grew.over ?_ _ | refine Grew.alloc ?_ _ | refine Grew.drew ?_ | refine Grew.drewN ?_ _)))) (hx.grew (by (repeat (first | exact Grew.refl _ | refine Grew.over ?_ _ | refine Grew.alloc ?_ _ | refine Grew.drew ?_ | refine Grew.drewN ?_ _)))) hn hk hcap); rintro e w' ⟨rfl, x, rfl⟩)
    | (go_at_call 13; apply Calls.mono; (with_reducible exact cost_r _ _ _ _ _ _ _ _ _ (hM.grew (by (repeat (first | exact Grew.refl _ | refine Grew.over ?_ _ | refine Grew.alloc ?_ _ | refine Grew.drew ?_ | refine Grew.drewN ?_ _)))) (hx.grew (by (repeat (first | exact Grew.refl _ | refine Grew.over ?_ _ | refine Grew.alloc ?_ _ | refine Grew.drew ?_ | refine Grew.drewN ?_ _)))) hn hk hcap); rintro e w' ⟨rfl, x, rfl⟩)
    | (go_at_call 19; apply Calls.mono; (with_reducible exact valid_p _ _ _ _ _ (hM.grew (by (repeat (first | exact Grew.refl _ | refine Grew.over ?_ _ | refine Grew.alloc ?_ _ | refine Grew.drew ?_ | refine Grew.drewN ?_ _)))) hn); rintro e w' ⟨rfl, rfl⟩)
    | (go_at_call 8; apply Calls.mono; (with_reducible exact valid_r _ _ _ _ _ (hM.grew (by (repeat (first | exact Grew.refl _ | refine Grew.over ?_ _ | refine Grew.alloc ?_ _ | refine Grew.drew ?_ | refine Grew.drewN ?_ _)))) hn); rintro e w' ⟨rfl, rfl⟩)
    | (go_at_call 17; apply Calls.mono; (with_reducible exact lower_p _ _ _ _ _ (hM.grew (by (repeat (first | exact Grew.refl _ | refine Grew.over ?_ _ | refine Grew.alloc ?_ _ | refine Grew.drew ?_ | refine Grew.drewN ?_ _)))) hn); rintro e w' ⟨rfl, x, rfl⟩)
    | (go_at_call 14; apply Calls.mono; (with_reducible exact lower_r _ _ _ _ _ (hM.grew (by (repeat (first | exact Grew.refl _ | refine Grew.over ?_ _ | refine Grew.alloc ?_ _ | refine Grew.drew ?_ | refine Grew.drewN ?_ _)))) hn); rintro e w' ⟨rfl, x, rfl⟩)
    | (go_at_call 9; apply Calls.mono; (with_reducible exact awake_l _); rintro e w' ⟨rfl, x, rfl⟩))
  all_goals
    go_ret
    exact ⟨rfl, by (repeat (first | exact Grew.refl _ | refine Grew.over ?_ _ | refine Grew.alloc ?_ _ | refine Grew.drew ?_ | refine Grew.drewN ?_ _))⟩

set_option maxHeartbeats 2000000 in
theorem finds_l (p : Option Addr) (n cp : Nat) (m : List (List Int)) (w : World) (hM : Mat w p m) (hn : m.length = n) :
    Calls Try.prog 3 #[.slice p n cp] w fun e w' => e = .returned (.bool true) ∧ Grew w w' := by
  subst hn
  have hmm := hM.1
  obtain ⟨o, c, hb⟩ := best_all m
  have Hb := Lib.hid hb
  clear hb
  cases hv : vMatB m
  case false =>
    have Hv := Lib.hid hv
    clear hv
    by_cases h6 : 6 < m.length
    all_goals
      go_enter Try.func3, Try.ntmps3
      go_wp2_with (first
        | (go_at_call 8; apply Calls.mono; (with_reducible exact validr_e Hv.out (hM.grew (by (repeat (first | exact Grew.refl _ | refine Grew.over ?_ _ | refine Grew.alloc ?_ _ | refine Grew.drew ?_ | refine Grew.drewN ?_ _)))) rfl); rintro e w' ⟨rfl, rfl⟩)
        | (go_at_call 10; apply Calls.mono; (with_reducible exact least_bad (hM.grew (by (repeat (first | exact Grew.refl _ | refine Grew.over ?_ _ | refine Grew.alloc ?_ _ | refine Grew.drew ?_ | refine Grew.drewN ?_ _)))) rfl Hv.out); rintro e w' ⟨rfl, x, rfl⟩)
        | (go_at_call 11; apply Calls.mono; (with_reducible exact leastr_bad (hM.grew (by (repeat (first | exact Grew.refl _ | refine Grew.over ?_ _ | refine Grew.alloc ?_ _ | refine Grew.drew ?_ | refine Grew.drewN ?_ _)))) rfl Hv.out); rintro e w' ⟨rfl, x, rfl⟩)
        | (go_at_call 12; apply Calls.mono; (with_reducible exact same_e rfl (Ints.nil _ _) (Ints.nil _ _) rfl rfl); rintro e w' ⟨rfl, x, rfl⟩)
        | (go_at_call 9; apply Calls.mono; (with_reducible exact awake_l _); rintro e w' ⟨rfl, x, rfl⟩))
      go_ret
      exact ⟨rfl, by (repeat (first | exact Grew.refl _ | refine Grew.over ?_ _ | refine Grew.alloc ?_ _ | refine Grew.drew ?_ | refine Grew.drewN ?_ _))⟩
  case true =>
    have Hv := Lib.hid hv
    clear hv
    have Hlen := Lib.hid (intL_length o)
    by_cases h6 : 6 < m.length
    all_goals
      go_enter Try.func3, Try.ntmps3
      go_wp2_with (first
        | (go_at_call 8; apply Calls.mono; (with_reducible exact validr_e Hv.out (hM.grew (by (repeat (first | exact Grew.refl _ | refine Grew.over ?_ _ | refine Grew.alloc ?_ _ | refine Grew.drew ?_ | refine Grew.drewN ?_ _)))) rfl); rintro e w' ⟨rfl, rfl⟩)
        | (go_at_call 10; apply Calls.mono; (with_reducible exact least_ok (hM.grew (by (repeat (first | exact Grew.refl _ | refine Grew.over ?_ _ | refine Grew.alloc ?_ _ | refine Grew.drew ?_ | refine Grew.drewN ?_ _)))) rfl Hv.out Hb.out); rintro e w' ⟨⟨x, rfl⟩, q1, cap1, rfl, hI1, hcap1, hnil1⟩)
        | (go_at_call 11; apply Calls.mono; (with_reducible exact leastr_ok (hM.grew (by (repeat (first | exact Grew.refl _ | refine Grew.over ?_ _ | refine Grew.alloc ?_ _ | refine Grew.drew ?_ | refine Grew.drewN ?_ _)))) rfl Hv.out Hb.out); rintro e w' ⟨⟨x2, rfl⟩, q2, cap2, rfl, hI2, hcap2, hnil2⟩)
        | (go_at_call 12; apply Calls.mono; (with_reducible exact same_e rfl (hI1.grew (by (repeat (first | exact Grew.refl _ | refine Grew.over ?_ _ | refine Grew.alloc ?_ _ | refine Grew.drew ?_ | refine Grew.drewN ?_ _)))) (hI2.grew (by (repeat (first | exact Grew.refl _ | refine Grew.over ?_ _ | refine Grew.alloc ?_ _ | refine Grew.drew ?_ | refine Grew.drewN ?_ _)))) Hlen.out Hlen.out); rintro e w' ⟨rfl, x, rfl⟩)
        | (go_at_call 9; apply Calls.mono; (with_reducible exact awake_l _); rintro e w' ⟨rfl, x, rfl⟩))
      go_ret
      exact ⟨rfl, by (repeat (first | exact Grew.refl _ | refine Grew.over ?_ _ | refine Grew.alloc ?_ _ | refine Grew.drew ?_ | refine Grew.drewN ?_ _))⟩

theorem perm_of_nodup {L : List Nat} (hL : L.Nodup) : ∀ {l : List Nat}, l.Nodup → (∀ x ∈ l, x ∈ L) → l.length = L.length → l.Perm L := by
  intro l
  induction l generalizing L with
  | nil =>
    intro _ _ h
    have : L = [] := List.length_eq_zero_iff.1 h.symm
    rw [this]
  | cons x l ih =>
    intro hn hs hl
    rw [List.nodup_cons] at hn
    have hx := hs x List.mem_cons_self
    have hp := filter_ne_perm hL hx
    have hlen := hp.length_eq
    refine (List.Perm.cons x (ih (hL.filter _) hn.2 (fun y hy => ?_) ?_)).trans hp.symm
    · rw [List.mem_filter]
      refine ⟨hs y (List.mem_cons_of_mem _ hy), ?_⟩
      have : y ≠ x := fun e => hn.1 (e ▸ hy)
      simpa using this
    · simp only [List.length_cons] at hl hlen
      omega
theorem natL_perm {n : Nat} {xs : List Int} (h1 : inR n xs) (h2 : xs.Nodup) (h3 : xs.length = n) : (natL xs).Perm (List.range n) := by
  refine perm_of_nodup List.nodup_range ?_ ?_ (by rw [natL_length, List.length_range]; exact h3)
  · unfold natL List.Nodup
    rw [List.pairwise_map]
    refine List.Pairwise.imp_of_mem ?_ h2
    intro a b ha hb hab e
    have := h1 a ha
    have := h1 b hb
    omega
  · intro x hx
    obtain ⟨y, hy, rfl⟩ := List.mem_map.1 hx
    have := h1 y hy
    rw [List.mem_range]
    omega
theorem lexI_nat : ∀ {xs : List Int} {o : List Nat}, (∀ x ∈ xs, 0 ≤ x) → lexI xs (intL o) = lexLt (natL xs) o
  | [], _, _ => by cases ‹List Nat› <;> rfl
  | x :: l, [], _ => rfl
  | x :: l, y :: r, h => by
    have h0 := h x List.mem_cons_self
    have ih := lexI_nat (xs := l) (o := r) (fun z hz => h z (List.mem_cons_of_mem _ hz))
    show (if x = Int.ofNat y then lexI l (intL r) else decide (x < Int.ofNat y)) = (if x.toNat = y then lexLt (natL l) r else decide (x.toNat < y))
    rw [ih]
    obtain ⟨n, rfl⟩ := Int.eq_ofNat_of_zero_le h0
    by_cases e : n = y
    · subst e
      simp
    · rw [if_neg (fun h => e (by simpa using Int.ofNat.inj h)), if_neg (by simpa using e)]
      simp

theorem best_facts {m : List (List Int)} {o : List Nat} {c : Int} (hb : bestF m.length (at2 m) m.length [] = some (o, c)) (hv : vMatB m = true) :
    o.Perm (List.range m.length) ∧ c = costL (at2 m) o ∧ lowM m ≤ c ∧ costS m (intL o) = (c, 0) ∧
    ∀ xs, (costS m xs).2 = 0 → c ≤ (costS m xs).1 ∧ (c = (costS m xs).1 → lexI xs (intL o) = false) := by
  have hs := bestF_sound m.length (at2 m) m.length [] (by rw [left_nil]; simp) _ hb
  have hlow := hs.bound
  obtain ⟨⟨r, h1, h2⟩, h3⟩ := hs
  simp only [List.nil_append] at h1 h3
  subst h1
  rw [left_nil] at h2
  have hmem : ∀ x ∈ o, x < m.length := fun x hx => by simpa using h2.mem_iff.1 hx
  have hlen : o.length = m.length := by simpa using h2.length_eq
  refine ⟨h2, h3, ?_, ?_, fun xs hxs => ?_⟩
  · rw [left_nil, fixL_nil] at hlow
    show lowL (at2 m) (List.range m.length) ≤ c
    simpa using hlow
  · rw [costS_ok hv (by rw [intL_length]; exact hlen) ?_ ?_, natL_intL, h3]
    · intro x hx
      obtain ⟨y, hy, rfl⟩ := List.mem_map.1 hx
      have := hmem y hy
      exact ⟨Int.natCast_nonneg y, by simpa using this⟩
    · unfold intL List.Nodup
      rw [List.pairwise_map]
      have hn : o.Nodup := h2.nodup_iff.2 List.nodup_range
      exact hn.imp (fun h e => h (Int.ofNat.inj e))
  · unfold costS at hxs
    rw [if_neg (by simp [hv])] at hxs
    split at hxs
    · cases hxs
    · rename_i hl
      split at hxs
      · cases hxs
      · rename_i hr
        split at hxs
        · cases hxs
        · rename_i hn
          simp only [ne_eq, Decidable.not_not] at hl hr hn
          rw [costS_ok hv hl hr hn]
          have hp := natL_perm hr hn hl
          have := bestF_least m.length (at2 m) m.length [] (by rw [left_nil]; simp) _ hb (natL xs) (by rw [left_nil]; exact hp)
          simp only [List.nil_append] at this
          refine ⟨this.1, fun e => ?_⟩
          rw [lexI_nat (fun x hx => (hr x hx).1)]
          exact this.2 e

theorem costr_e {p q : Option Addr} {n k cp cq : Nat} {m : List (List Int)} {xs : List Int} {w : World} {c g : Int} (hc : costS m xs = (c, g)) (hM : Mat w p m) (hx : Ints w q xs) (hn : m.length = n) (hk : xs.length = k) (hcap : k ≤ cq) :
    Calls Try.prog 13 #[.slice p n cp, .slice q k cq] w fun e w' => e = .returned (.tuple #[.int .i64 c, .int .i64 g]) ∧ Grew w w' := by
  have := cost_r p q n k cp cq m xs w hM hx hn hk hcap
  rw [hc] at this
  exact this
theorem lowerr_e {p : Option Addr} {n cap : Nat} {m : List (List Int)} {w : World} (h : vMatB m = true) (hM : Mat w p m) (hn : m.length = n) :
    Calls Try.prog 14 #[.slice p n cap] w fun e w' => e = .returned (.int .i64 (lowM m)) ∧ Grew w w' := by
  have := lower_r p n cap m w hM hn
  rw [h] at this
  exact this
theorem lessr_e {p q : Option Addr} {n k cp cq : Nat} {a b : List Int} {w : World} (h : lexI a b = false) (ha : Ints w p a) (hb : Ints w q b) (hn : a.length = n) (hk : b.length = k) :
    Calls Try.prog 15 #[.slice p n cp, .slice q k cq] w fun e w' => e = .returned (.bool false) ∧ Grew w w' := h ▸ less_r p q n k cp cq a b w ha hb hn hk

set_option maxHeartbeats 4000000 in
theorem optimal_l (p q : Option Addr) (n k cp cq : Nat) (m : List (List Int)) (xs : List Int) (w : World) (hM : Mat w p m) (hx : Ints w q xs) (hn : m.length = n) (hk : xs.length = k) (hcap : k ≤ cq) :
    Calls Try.prog 4 #[.slice p n cp, .slice q k cq] w fun e w' => e = .returned (.bool true) ∧ Grew w w' := by
  subst hn hk
  obtain ⟨o, c, hb⟩ := best_all m
  cases hv : vMatB m
  case false =>
    have Hv := Lib.hid hv
    clear hv hb
    go_enter Try.func4, Try.ntmps4
    go_wp2_with (first
      | (go_at_call 8; apply Calls.mono; (with_reducible exact validr_e Hv.out (hM.grew (by (repeat (first | exact Grew.refl _ | refine Grew.over ?_ _ | refine Grew.alloc ?_ _ | refine Grew.drew ?_ | refine Grew.drewN ?_ _)))) rfl); rintro e w' ⟨rfl, rfl⟩)
      | (go_at_call 10; apply Calls.mono; (with_reducible exact least_bad (hM.grew (by (repeat (first | exact Grew.refl _ | refine Grew.over ?_ _ | refine Grew.alloc ?_ _ | refine Grew.drew ?_ | refine Grew.drewN ?_ _)))) rfl Hv.out); rintro e w' ⟨rfl, x, rfl⟩)
      | (go_at_call 9; apply Calls.mono; (with_reducible exact awake_l _); rintro e w' ⟨rfl, x, rfl⟩))
    go_ret
    exact ⟨rfl, by (repeat (first | exact Grew.refl _ | refine Grew.over ?_ _ | refine Grew.alloc ?_ _ | refine Grew.drew ?_ | refine Grew.drewN ?_ _))⟩
  case true =>
    obtain ⟨f1, f2, f3, f4, f5⟩ := best_facts hb hv
    have f6 := f5 xs
    generalize hcs : costS m xs = cs at f6
    obtain ⟨d, g⟩ := cs
    have Hv := Lib.hid hv
    have Hb := Lib.hid hb
    have Hlen := Lib.hid (intL_length o)
    have H4 := Lib.hid f4
    have Hcs := Lib.hid hcs
    have h0 : (c != c) = false := by simp
    have H6 := Lib.hid f6
    clear hv hb f1 f2 f4 f5 hcs f6
    by_cases hg : g = 0
    · subst hg
      obtain ⟨g1, g2⟩ := H6.out rfl
      have g1 : c ≤ d := g1
      by_cases hcd : c = d
      · have Hl := Lib.hid (g2 hcd)
        subst hcd
        clear g1 g2
        go_enter Try.func4, Try.ntmps4
        go_wp2_with (first
          | (go_at_call 10; apply Calls.mono; (with_reducible exact least_ok (hM.grew (by (repeat (first | exact Grew.refl _ | refine Grew.over ?_ _ | refine Grew.alloc ?_ _ | refine Grew.drew ?_ | refine Grew.drewN ?_ _)))) rfl Hv.out Hb.out); rintro e w' ⟨⟨x, rfl⟩, q1, cap1, rfl, hI1, hcap1, hnil1⟩)
          | (go_at_call 13; apply Calls.mono; (with_reducible exact costr_e H4.out (hM.grew (by (repeat (first | exact Grew.refl _ | refine Grew.over ?_ _ | refine Grew.alloc ?_ _ | refine Grew.drew ?_ | refine Grew.drewN ?_ _)))) (hI1.grew (by (repeat (first | exact Grew.refl _ | refine Grew.over ?_ _ | refine Grew.alloc ?_ _ | refine Grew.drew ?_ | refine Grew.drewN ?_ _)))) rfl Hlen.out hcap1); rintro e w' ⟨rfl, x, rfl⟩)
          | (go_at_call 13; apply Calls.mono; (with_reducible exact costr_e Hcs.out (hM.grew (by (repeat (first | exact Grew.refl _ | refine Grew.over ?_ _ | refine Grew.alloc ?_ _ | refine Grew.drew ?_ | refine Grew.drewN ?_ _)))) (hx.grew (by (repeat (first | exact Grew.refl _ | refine Grew.over ?_ _ | refine Grew.alloc ?_ _ | refine Grew.drew ?_ | refine Grew.drewN ?_ _)))) rfl rfl hcap); rintro e w' ⟨rfl, x, rfl⟩)
          | (go_at_call 14; apply Calls.mono; (with_reducible exact lowerr_e Hv.out (hM.grew (by (repeat (first | exact Grew.refl _ | refine Grew.over ?_ _ | refine Grew.alloc ?_ _ | refine Grew.drew ?_ | refine Grew.drewN ?_ _)))) rfl); rintro e w' ⟨rfl, x, rfl⟩)
          | (go_at_call 15; apply Calls.mono; (with_reducible exact lessr_e Hl.out (hx.grew (by (repeat (first | exact Grew.refl _ | refine Grew.over ?_ _ | refine Grew.alloc ?_ _ | refine Grew.drew ?_ | refine Grew.drewN ?_ _)))) (hI1.grew (by (repeat (first | exact Grew.refl _ | refine Grew.over ?_ _ | refine Grew.alloc ?_ _ | refine Grew.drew ?_ | refine Grew.drewN ?_ _)))) rfl Hlen.out); rintro e w' ⟨rfl, x, rfl⟩)
          | (go_at_call 9; apply Calls.mono; (with_reducible exact awake_l _); rintro e w' ⟨rfl, x, rfl⟩))
        go_ret
        exact ⟨rfl, by (repeat (first | exact Grew.refl _ | refine Grew.over ?_ _ | refine Grew.alloc ?_ _ | refine Grew.drew ?_ | refine Grew.drewN ?_ _))⟩
      · have hlt : c < d := by omega
        clear g1 g2 hcd
        go_enter Try.func4, Try.ntmps4
        go_wp2_with (first
          | (go_at_call 10; apply Calls.mono; (with_reducible exact least_ok (hM.grew (by (repeat (first | exact Grew.refl _ | refine Grew.over ?_ _ | refine Grew.alloc ?_ _ | refine Grew.drew ?_ | refine Grew.drewN ?_ _)))) rfl Hv.out Hb.out); rintro e w' ⟨⟨x, rfl⟩, q1, cap1, rfl, hI1, hcap1, hnil1⟩)
          | (go_at_call 13; apply Calls.mono; (with_reducible exact costr_e H4.out (hM.grew (by (repeat (first | exact Grew.refl _ | refine Grew.over ?_ _ | refine Grew.alloc ?_ _ | refine Grew.drew ?_ | refine Grew.drewN ?_ _)))) (hI1.grew (by (repeat (first | exact Grew.refl _ | refine Grew.over ?_ _ | refine Grew.alloc ?_ _ | refine Grew.drew ?_ | refine Grew.drewN ?_ _)))) rfl Hlen.out hcap1); rintro e w' ⟨rfl, x, rfl⟩)
          | (go_at_call 13; apply Calls.mono; (with_reducible exact costr_e Hcs.out (hM.grew (by (repeat (first | exact Grew.refl _ | refine Grew.over ?_ _ | refine Grew.alloc ?_ _ | refine Grew.drew ?_ | refine Grew.drewN ?_ _)))) (hx.grew (by (repeat (first | exact Grew.refl _ | refine Grew.over ?_ _ | refine Grew.alloc ?_ _ | refine Grew.drew ?_ | refine Grew.drewN ?_ _)))) rfl rfl hcap); rintro e w' ⟨rfl, x, rfl⟩)
          | (go_at_call 14; apply Calls.mono; (with_reducible exact lowerr_e Hv.out (hM.grew (by (repeat (first | exact Grew.refl _ | refine Grew.over ?_ _ | refine Grew.alloc ?_ _ | refine Grew.drew ?_ | refine Grew.drewN ?_ _)))) rfl); rintro e w' ⟨rfl, x, rfl⟩)
          | (go_at_call 9; apply Calls.mono; (with_reducible exact awake_l _); rintro e w' ⟨rfl, x, rfl⟩))
        go_ret
        exact ⟨rfl, by (repeat (first | exact Grew.refl _ | refine Grew.over ?_ _ | refine Grew.alloc ?_ _ | refine Grew.drew ?_ | refine Grew.drewN ?_ _))⟩
    · have hg' : (g != 0) = true := by simpa using hg
      clear hg
      go_enter Try.func4, Try.ntmps4
      go_wp2_with (first
        | (go_at_call 10; apply Calls.mono; (with_reducible exact least_ok (hM.grew (by (repeat (first | exact Grew.refl _ | refine Grew.over ?_ _ | refine Grew.alloc ?_ _ | refine Grew.drew ?_ | refine Grew.drewN ?_ _)))) rfl Hv.out Hb.out); rintro e w' ⟨⟨x, rfl⟩, q1, cap1, rfl, hI1, hcap1, hnil1⟩)
        | (go_at_call 13; apply Calls.mono; (with_reducible exact costr_e H4.out (hM.grew (by (repeat (first | exact Grew.refl _ | refine Grew.over ?_ _ | refine Grew.alloc ?_ _ | refine Grew.drew ?_ | refine Grew.drewN ?_ _)))) (hI1.grew (by (repeat (first | exact Grew.refl _ | refine Grew.over ?_ _ | refine Grew.alloc ?_ _ | refine Grew.drew ?_ | refine Grew.drewN ?_ _)))) rfl Hlen.out hcap1); rintro e w' ⟨rfl, x, rfl⟩)
        | (go_at_call 13; apply Calls.mono; (with_reducible exact costr_e Hcs.out (hM.grew (by (repeat (first | exact Grew.refl _ | refine Grew.over ?_ _ | refine Grew.alloc ?_ _ | refine Grew.drew ?_ | refine Grew.drewN ?_ _)))) (hx.grew (by (repeat (first | exact Grew.refl _ | refine Grew.over ?_ _ | refine Grew.alloc ?_ _ | refine Grew.drew ?_ | refine Grew.drewN ?_ _)))) rfl rfl hcap); rintro e w' ⟨rfl, x, rfl⟩)
        | (go_at_call 14; apply Calls.mono; (with_reducible exact lowerr_e Hv.out (hM.grew (by (repeat (first | exact Grew.refl _ | refine Grew.over ?_ _ | refine Grew.alloc ?_ _ | refine Grew.drew ?_ | refine Grew.drewN ?_ _)))) rfl); rintro e w' ⟨rfl, x, rfl⟩)
        | (go_at_call 9; apply Calls.mono; (with_reducible exact awake_l _); rintro e w' ⟨rfl, x, rfl⟩))
      go_ret
      exact ⟨rfl, by (repeat (first | exact Grew.refl _ | refine Grew.over ?_ _ | refine Grew.alloc ?_ _ | refine Grew.drew ?_ | refine Grew.drewN ?_ _))⟩

end Go.Proofs.Ytnodgagmnekliaa
