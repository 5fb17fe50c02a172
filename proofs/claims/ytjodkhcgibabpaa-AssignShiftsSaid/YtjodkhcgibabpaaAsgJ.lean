/- The example of the chapter, and the laws AssignCosts, AssignSolves, AssignOptimal. -/
import Derived.Test.YtjodkhcgibabpaaAsgI
set_option linter.unusedSimpArgs false
set_option linter.unusedVariables false
namespace Go.Proofs.Ytjodkhcgibabpaa
open Go.RowKit

/-! ### There is a best assignment if there is any -/
theorem least_nat {P : Nat → Prop} : ∀ n, P n → ∃ c, P c ∧ ∀ c', c' < c → ¬ P c' := by
  intro n
  induction n using Nat.strongRecOn with
  | ind n ih =>
    intro h
    by_cases e : ∃ k, k < n ∧ P k
    · obtain ⟨k, h1, h2⟩ := e
      exact ih k h1 h2
    · exact ⟨n, h, fun c' h1 h2 => e ⟨c', h1, h2⟩⟩
theorem costN_nn {m : List (List Int)} {a : List Nat} (h : Asg m a) : 0 ≤ costN m a := sumN_nonneg fun i hi => h.ok i hi
theorem min_cost {m : List (List Int)} {a : List Nat} (h : Asg m a) : ∃ z, (∃ b, Asg m b ∧ costN m b = z) ∧ ∀ b, Asg m b → z ≤ costN m b := by
  obtain ⟨n, ⟨b, h1, h2⟩, h3⟩ := least_nat (P := fun n => ∃ b, Asg m b ∧ (costN m b).toNat = n) _ ⟨a, h, rfl⟩
  refine ⟨costN m b, ⟨b, h1, rfl⟩, fun x hx => ?_⟩
  have g1 := costN_nn h1
  have g2 := costN_nn hx
  by_cases hlt : (costN m x).toNat < (costN m b).toNat
  · exact absurd ⟨x, hx, rfl⟩ (h3 _ (by omega))
  · omega
theorem StA.step {m : List (List Int)} {z : Int} {l : List Nat} (h : StA m z l) (hl : l.length < m.length) : ∃ c, StA m z (l ++ [c]) := by
  obtain ⟨a, h1, h2, h3⟩ := h.ex
  obtain ⟨c, ⟨b, g1, g2, g3, g4⟩, g5⟩ := least_nat (P := fun c => ∃ a, Asg m a ∧ costN m a = z ∧ Pre l a ∧ gn a l.length = c) _ ⟨a, h1, h2, h3, rfl⟩
  have hc : c < kO m := by rw [← g4]; exact g1.lt _ hl
  have hp : 0 ≤ at2 m l.length c := by rw [← g4]; exact g1.ok _ hl
  refine ⟨c, h.ok.snoc hl hc hp, ⟨b, g1, g2, pre_snoc.2 ⟨g3, g4⟩⟩, fun x hx hxz => ?_⟩
  rcases h.lex x hx hxz with g | ⟨u, e1, e2, e3⟩
  · by_cases e : gn x l.length = c
    · exact Or.inl (pre_snoc.2 ⟨g, e⟩)
    · have : ¬ gn x l.length < c := fun hlt => g5 _ hlt ⟨x, hx, hxz, g, rfl⟩
      refine Or.inr ⟨l.length, by simp, fun t ht => ?_, ?_⟩
      · rw [gn_app, if_pos ht]; exact (g t ht).symm
      · rw [gn_app, if_neg (by omega), if_pos rfl]; omega
  · refine Or.inr ⟨u, by simp; omega, fun t ht => ?_, ?_⟩
    · rw [gn_app, if_pos (by omega)]; exact e2 t ht
    · rw [gn_app, if_pos e1]; exact e3
theorem best_exists {m : List (List Int)} {a : List Nat} (h : Asg m a) : ∃ b, BestA m b := by
  obtain ⟨z, h1, h2⟩ := min_cost h
  have key : ∀ j, j ≤ m.length → ∃ l, l.length = j ∧ StA m z l := fun j => by
    induction j with
    | zero => intro _; exact ⟨[], rfl, StA.begin h1⟩
    | succ j ih =>
      intro hj
      obtain ⟨l, e, hS⟩ := ih (by omega)
      obtain ⟨c, hS2⟩ := hS.step (by omega)
      exact ⟨l ++ [c], by simp [e], hS2⟩
  obtain ⟨l, e, hS⟩ := key m.length (Nat.le_refl _)
  exact ⟨l, (hS.done e h2).1⟩
theorem best_or (m : List (List Int)) : (∃ a, BestA m a) ∨ ∀ a, ¬ Asg m a := by
  by_cases h : ∃ a, Asg m a
  · obtain ⟨a, ha⟩ := h
    exact Or.inl (best_exists ha)
  · exact Or.inr fun a ha => h ⟨a, ha⟩

/-! ### Solve, case by case -/
theorem solve_case {m : List (List Int)} {w : World} {e : Ending} {w' : World} (h : SolvePost m w e w') : Grew w w' ∧
    (vB m = false → e = .returned (.tuple #[.slice none 0 0, .int .i64 0, .int .i64 1])) ∧
    (vB m = true → (∀ a, ¬ Asg m a) → e = .returned (.tuple #[.slice none 0 0, .int .i64 0, .int .i64 15])) ∧
    (∀ a, vB m = true → BestA m a → ∃ q c, e = .returned (.tuple #[.slice q a.length c, .int .i64 (costN m a), .int .i64 0]) ∧ Ints w' q (intL a) ∧ a.length ≤ c) := by
  obtain ⟨hg, h⟩ := h
  rcases h with ⟨h1, h2⟩ | ⟨h1, h2, h3⟩ | ⟨h1, a, q, c, h2, h3, h4, h5⟩
  · exact ⟨hg, fun _ => h2, fun g => (by rw [h1] at g; cases g), fun _ g => (by rw [h1] at g; cases g)⟩
  · exact ⟨hg, fun g => (by rw [h1] at g; cases g), fun _ _ => h3, fun a _ g => absurd g.asg (h2 a)⟩
  · refine ⟨hg, fun g => (by rw [h1] at g; cases g), fun _ g => absurd h2.asg (g a), fun b _ g => ?_⟩
    have e := h2.unique g
    subst e
    exact ⟨q, c, h3, h4, h5⟩
theorem solve_bad {p : Option Addr} {n cp : Nat} {m : List (List Int)} {w : World} (hM : Mat w p m) (hn : m.length = n) (hv : vB m = false) :
    Calls Try.prog 9 #[.slice p n cp] w fun e w' => e = .returned (.tuple #[.slice none 0 0, .int .i64 0, .int .i64 1]) ∧ Grew w w' :=
  (solve_p p n cp m w hM hn).mono fun e w' h => ⟨(solve_case h).2.1 hv, (solve_case h).1⟩
theorem solve_no {p : Option Addr} {n cp : Nat} {m : List (List Int)} {w : World} (hM : Mat w p m) (hn : m.length = n) (hv : vB m = true) (h : ∀ a, ¬ Asg m a) :
    Calls Try.prog 9 #[.slice p n cp] w fun e w' => e = .returned (.tuple #[.slice none 0 0, .int .i64 0, .int .i64 15]) ∧ Grew w w' :=
  (solve_p p n cp m w hM hn).mono fun e w' g => ⟨(solve_case g).2.2.1 hv h, (solve_case g).1⟩
theorem solve_ok {p : Option Addr} {n cp : Nat} {m : List (List Int)} {w : World} {a : List Nat} (hM : Mat w p m) (hn : m.length = n) (hv : vB m = true) (h : BestA m a) :
    Calls Try.prog 9 #[.slice p n cp] w fun e w' => Grew w w' ∧ ∃ q c, e = .returned (.tuple #[.slice q a.length c, .int .i64 (costN m a), .int .i64 0]) ∧ Ints w' q (intL a) ∧ a.length ≤ c :=
  (solve_p p n cp m w hM hn).mono fun e w' g => ⟨(solve_case g).1, (solve_case g).2.2.2 a hv h⟩
theorem solver_bad {p : Option Addr} {n cp : Nat} {m : List (List Int)} {w : World} (hM : Mat w p m) (hn : m.length = n) (hv : vB m = false) :
    Calls Try.prog 10 #[.slice p n cp] w fun e w' => e = .returned (.tuple #[.slice none 0 0, .int .i64 0, .int .i64 1]) ∧ Grew w w' :=
  (solve_r p n cp m w hM hn).mono fun e w' h => ⟨(solve_case h).2.1 hv, (solve_case h).1⟩
theorem solver_no {p : Option Addr} {n cp : Nat} {m : List (List Int)} {w : World} (hM : Mat w p m) (hn : m.length = n) (hv : vB m = true) (h : ∀ a, ¬ Asg m a) :
    Calls Try.prog 10 #[.slice p n cp] w fun e w' => e = .returned (.tuple #[.slice none 0 0, .int .i64 0, .int .i64 15]) ∧ Grew w w' :=
  (solve_r p n cp m w hM hn).mono fun e w' g => ⟨(solve_case g).2.2.1 hv h, (solve_case g).1⟩
theorem solver_ok {p : Option Addr} {n cp : Nat} {m : List (List Int)} {w : World} {a : List Nat} (hM : Mat w p m) (hn : m.length = n) (hv : vB m = true) (h : BestA m a) :
    Calls Try.prog 10 #[.slice p n cp] w fun e w' => Grew w w' ∧ ∃ q c, e = .returned (.tuple #[.slice q a.length c, .int .i64 (costN m a), .int .i64 0]) ∧ Ints w' q (intL a) ∧ a.length ≤ c :=
  (solve_r p n cp m w hM hn).mono fun e w' g => ⟨(solve_case g).1, (solve_case g).2.2.2 a hv h⟩
theorem same_e {p q : Option Addr} {n k cp cq : Nat} {a b : List Int} {w : World} (he : a = b) (ha : Ints w p a) (hb : Ints w q b) (hn : a.length = n) (hk : b.length = k) :
    Calls Try.prog 11 #[.slice p n cp, .slice q k cq] w fun e w' => e = .returned (.bool true) ∧ Grew w w' := by
  have := same_r p q n k cp cq a b w ha hb hn hk
  rw [decide_eq_true he] at this
  exact this

/-! ### awake -/
theorem Ints.made (W : World) (t : TypeId) (xs : List Int) (cs : Array Value) (b : Nat) (hcs : cs.toList = xs.map (Value.int .i64)) (hb : b = W.heap.size) (hl : xs.length ≤ 1000) (hw : ∀ x ∈ xs, -9223372036854775808 ≤ x ∧ x ≤ 9223372036854775807) :
    Ints (W.alloc (.cells cs t)) (some ⟨b, 0, none⟩) xs := by
  subst hb
  refine ⟨by omega, hw, W.heap.size, 0, fun _ => ⟨rfl, by simp⟩, fun i hi => ?_⟩
  rw [cell?_alloc_if, if_neg (by omega), if_pos rfl, Nat.zero_add, ← Array.getElem?_toList, hcs, List.getElem?_map, List.getElem?_eq_getElem hi, ge_eq xs hi]
  rfl
theorem Mat.made (W : World) (t : TypeId) (m : List (List Int)) (cs : Array Value) (b : Nat) (rp : Nat → Option Addr) (rc : Nat → Nat) (hb : b = W.heap.size) (hl : m.length ≤ 1000)
    (h : ∀ u, u < m.length → cs[u]? = some (.slice (rp u) (rowOf m u).length (rc u)) ∧ Ints W (rp u) (rowOf m u)) : Mat (W.alloc (.cells cs t)) (some ⟨b, 0, none⟩) m := by
  subst hb
  refine ⟨by omega, W.heap.size, 0, rp, rc, fun _ => ⟨rfl, by simp⟩, fun u hu => ?_⟩
  rw [cell?_alloc_if, if_neg (by omega), if_pos rfl, Nat.zero_add]
  exact ⟨(h u hu).1, (h u hu).2.grew ((Grew.refl W).alloc _)⟩
/-- Three rows that were just made. -/
theorem mat3 (w : World) (t t' : TypeId) (x y z : List Int) (cx cy cz : Array Value) (hx : cx.toList = x.map (Value.int .i64)) (hy : cy.toList = y.map (Value.int .i64)) (hz : cz.toList = z.map (Value.int .i64))
    (hl : x.length = 3 ∧ y.length = 3 ∧ z.length = 3) (hw : ∀ a ∈ x ++ y ++ z, -9223372036854775808 ≤ a ∧ a ≤ 9223372036854775807) (b : Nat) (hb : b = w.heap.size + 3) :
    Mat ((((w.alloc (.cells cx t)).alloc (.cells cy t)).alloc (.cells cz t)).alloc (.cells #[.slice (some ⟨w.heap.size, 0, none⟩) 3 3, .slice (some ⟨w.heap.size + 1, 0, none⟩) 3 3, .slice (some ⟨w.heap.size + 2, 0, none⟩) 3 3] t'))
      (some ⟨b, 0, none⟩) [x, y, z] := by
  obtain ⟨h1, h2, h3⟩ := hl
  refine Mat.made _ _ _ _ _ (fun u => some ⟨w.heap.size + u, 0, none⟩) (fun _ => 3) (by simp; omega) (by simp) (fun u hu => ?_)
  have hx' := (Ints.made w t x cx _ hx rfl (by omega) (fun a ha => hw a (by simp [ha])))
  have hy' := (Ints.made (w.alloc (.cells cx t)) t y cy _ hy rfl (by omega) (fun a ha => hw a (by simp [ha])))
  have hz' := (Ints.made ((w.alloc (.cells cx t)).alloc (.cells cy t)) t z cz _ hz rfl (by omega) (fun a ha => hw a (by simp [ha])))
  match u, hu with
  | 0, _ => exact ⟨by simp [rowOf, h1], hx'.grew (((Grew.refl _).alloc _).alloc _)⟩
  | 1, _ => exact ⟨by simp [rowOf, h2], by have := hy'.grew ((Grew.refl _).alloc (.cells cz t)); simpa [rowOf] using this⟩
  | 2, _ => exact ⟨by simp [rowOf, h3], by simpa [rowOf] using hz'⟩
def m0 : List (List Int) := [[4, 1, 3], [2, 0, 5], [3, 2, 2]]
theorem m0_ok : vB m0 = true := by decide +kernel
theorem m0_cost : costN m0 [1, 0, 2] = 5 := by decide +kernel
theorem m0_all : ∀ x, x < 3 → ∀ y, y < 3 → ∀ z, z < 3 → (decide (x = y) || decide (x = z) || decide (y = z) || (decide (5 ≤ costN m0 [x, y, z]) && (!decide (costN m0 [x, y, z] = 5) || decide ([x, y, z] = [1, 0, 2])))) = true := by decide +kernel
theorem m0_lt : ∀ i, i < 3 → gn [1, 0, 2] i < 3 ∧ 0 ≤ at2 m0 i (gn [1, 0, 2] i) ∧ ∀ j, j < 3 → gn [1, 0, 2] i = gn [1, 0, 2] j → i = j := by decide +kernel
theorem m0_best : BestA m0 [1, 0, 2] := by
  have key : ∀ b, Asg m0 b → 5 ≤ costN m0 b ∧ (costN m0 b = 5 → b = [1, 0, 2]) := fun b hb => by
    have hl : b.length = 3 := hb.l
    have e : b = [gn b 0, gn b 1, gn b 2] := gn_ext (by rw [hl]; rfl) fun i hi => by
      rcases i with _ | _ | _ | i
      · rfl
      · rfl
      · rfl
      · omega
    have h0 := hb.lt 0 (by decide)
    have h1 := hb.lt 1 (by decide)
    have h2 := hb.lt 2 (by decide)
    have n1 : gn b 0 ≠ gn b 1 := fun h => absurd (hb.nd 0 1 (by decide) (by decide) h) (by decide)
    have n2 : gn b 0 ≠ gn b 2 := fun h => absurd (hb.nd 0 2 (by decide) (by decide) h) (by decide)
    have n3 : gn b 1 ≠ gn b 2 := fun h => absurd (hb.nd 1 2 (by decide) (by decide) h) (by decide)
    have := m0_all (gn b 0) h0 (gn b 1) h1 (gn b 2) h2
    rw [← e, decide_eq_false n1, decide_eq_false n2, decide_eq_false n3] at this
    simp only [Bool.false_or, Bool.and_eq_true, Bool.or_eq_true, Bool.not_eq_true', decide_eq_true_eq, decide_eq_false_iff_not] at this
    refine ⟨this.1, fun h => ?_⟩
    rcases this.2 with g | g
    · exact absurd h g
    · exact g
  refine ⟨⟨rfl, fun i j hi hj => (m0_lt i hi).2.2 j hj, fun i hi => (m0_lt i hi).1, fun i hi => (m0_lt i hi).2.1⟩, fun b hb => ?_, fun b hb he => ?_⟩
  · rw [m0_cost]; exact (key b hb).1
  · rw [m0_cost] at he; exact Or.inl ((key b hb).2 he)
theorem m0_solve {p : Option Addr} {cp : Nat} {w : World} (hM : Mat w p m0) :
    Calls Try.prog 9 #[.slice p 3 cp] w fun e w' => Grew w w' ∧ ∃ q c, e = .returned (.tuple #[.slice q 3 c, .int .i64 5, .int .i64 0]) ∧ Ints w' q [1, 0, 2] ∧ 3 ≤ c := by
  have := solve_ok (cp := cp) hM (n := 3) rfl m0_ok m0_best
  rw [m0_cost] at this
  exact this
theorem len3 : ([1, 0, 2] : List Int).length = 3 := rfl

set_option maxHeartbeats 4000000 in
theorem awake_l (w : World) : Calls Try.prog 8 #[] w fun e w' => e = .returned (.bool true) ∧ Grew w w' := by
  have H0 := Lib.hid (fun (W : World) => mat3 W 3 23 [4, 1, 3] [2, 0, 5] [3, 2, 2] #[.int .i64 4, .int .i64 1, .int .i64 3] #[.int .i64 2, .int .i64 0, .int .i64 5] #[.int .i64 3, .int .i64 2, .int .i64 2] rfl rfl rfl ⟨rfl, rfl, rfl⟩ (by decide) _ rfl)
  go_enter Try.func8, Try.ntmps8
  go_wp2_with (first
    | (go_at_call 9; apply Calls.mono; (with_reducible exact m0_solve (H0.out _)); rintro e w' ⟨⟨x, rfl⟩, q, cap, rfl, hI, hcap⟩)
    | (go_at_call 11; apply Calls.mono; (with_reducible exact same_e rfl (hI.grew (by (repeat (first | exact Grew.refl _ | refine Grew.over ?_ _ | refine Grew.alloc ?_ _ | refine Grew.drew ?_ | refine Grew.drewN ?_ _)))) (Ints.made _ _ [1, 0, 2] _ _ rfl (by (simp [go_sem, ↓IntWalk.iteOmega])) (by decide) (by decide)) len3 rfl); rintro e w' ⟨rfl, x2, rfl⟩))
  go_ret
  exact ⟨rfl, by (repeat (first | exact Grew.refl _ | refine Grew.over ?_ _ | refine Grew.alloc ?_ _ | refine Grew.drew ?_ | refine Grew.drewN ?_ _))⟩

/-! ### AssignCosts -/
set_option maxHeartbeats 2000000 in
theorem costs_l (p q : Option Addr) (n k cp cq : Nat) (m : List (List Int)) (xs : List Int) (w : World) (hM : Mat w p m) (hx : Ints w q xs) (hn : m.length = n) (hk : xs.length = k) (hcap : k ≤ cq) :
    Calls Try.prog 7 #[.slice p n cp, .slice q k cq] w fun e w' => e = .returned (.bool true) ∧ Grew w w' := by
  go_enter Try.func7, Try.ntmps7
  go_wp2_with (first
    | (go_at_call 16; apply Calls.mono; (with_reducible exact cost_p _ _ _ _ _ _ _ _ _ (hM.grew (by (repeat (first | exact Grew.refl _ | refine Grew.over ?_ _ | refine Grew.alloc ?_ _ | refine Grew.drew ?_ | refine Grew.drewN ?_ _)))) (hx.grew (by (repeat (first | exact Grew.refl _ | refine Grew.over ?_ _ | refine Grew.alloc ?_ _ | refine Grew.drew ?_ | refine Grew.drewN ?_ _)))) hn hk hcap); rintro e w' ⟨rfl, x, rfl⟩)
    | (go_at_call 12; apply Calls.mono; (with_reducible exact cost_r _ _ _ _ _ _ _ _ _ (hM.grew (by (repeat (first | exact Grew.refl _ | refine Grew.over ?_ _ | refine Grew.alloc ?_ _ | refine Grew.drew ?_ | refine Grew.drewN ?_ _)))) (hx.grew (by (repeat (first | exact Grew.refl _ | refine Grew.over ?_ _ | refine Grew.alloc ?_ _ | refine Grew.drew ?_ | refine Grew.drewN ?_ _)))) hn hk); rintro e w' ⟨rfl, x, rfl⟩)
    | (go_at_call 17; apply Calls.mono; (with_reducible exact valid_p _ _ _ _ _ (hM.grew (by (repeat (first | exact Grew.refl _ | refine Grew.over ?_ _ | refine Grew.alloc ?_ _ | refine Grew.drew ?_ | refine Grew.drewN ?_ _)))) hn); rintro e w' ⟨rfl, x, rfl⟩)
    | (go_at_call 13; apply Calls.mono; (with_reducible exact valid_r _ _ _ _ _ (hM.grew (by (repeat (first | exact Grew.refl _ | refine Grew.over ?_ _ | refine Grew.alloc ?_ _ | refine Grew.drew ?_ | refine Grew.drewN ?_ _)))) hn); rintro e w' ⟨rfl, x, rfl⟩)
    | (go_at_call 8; apply Calls.mono; (with_reducible exact awake_l _); rintro e w' ⟨rfl, x, rfl⟩))
  all_goals
    go_ret
    exact ⟨rfl, by (repeat (first | exact Grew.refl _ | refine Grew.over ?_ _ | refine Grew.alloc ?_ _ | refine Grew.drew ?_ | refine Grew.drewN ?_ _))⟩

/-! ### AssignSolves -/
set_option maxHeartbeats 4000000 in
theorem solves_l (p : Option Addr) (n cp : Nat) (m : List (List Int)) (w : World) (hM : Mat w p m) (hn : m.length = n) :
    Calls Try.prog 3 #[.slice p n cp] w fun e w' => e = .returned (.bool true) ∧ Grew w w' := by
  subst hn
  have hmm := hM.1
  by_cases h5 : 5 < m.length
  · go_enter Try.func3, Try.ntmps3
    go_wp2_with ((go_at_call 8; apply Calls.mono; (with_reducible exact awake_l _); rintro e w' ⟨rfl, x, rfl⟩))
    go_ret
    exact ⟨rfl, by (repeat (first | exact Grew.refl _ | refine Grew.over ?_ _ | refine Grew.alloc ?_ _ | refine Grew.drew ?_ | refine Grew.drewN ?_ _))⟩
  by_cases h0 : m.length = 0
  · have hb := best_or m
    have Hn0 := Lib.hid h0
    cases hv : vB m
    case false =>
      have Hv := Lib.hid hv
      clear hv
      go_enter Try.func3, Try.ntmps3
      go_wp2_with (first
        | (go_at_call 9; apply Calls.mono; (with_reducible exact solve_bad (hM.grew (by (repeat (first | exact Grew.refl _ | refine Grew.over ?_ _ | refine Grew.alloc ?_ _ | refine Grew.drew ?_ | refine Grew.drewN ?_ _)))) Hn0.out Hv.out); rintro e w' ⟨rfl, x, rfl⟩)
        | (go_at_call 10; apply Calls.mono; (with_reducible exact solver_bad (hM.grew (by (repeat (first | exact Grew.refl _ | refine Grew.over ?_ _ | refine Grew.alloc ?_ _ | refine Grew.drew ?_ | refine Grew.drewN ?_ _)))) Hn0.out Hv.out); rintro e w' ⟨rfl, x, rfl⟩)
        | (go_at_call 11; apply Calls.mono; (with_reducible exact same_e rfl (Ints.nil _ _) (Ints.nil _ _) rfl rfl); rintro e w' ⟨rfl, x, rfl⟩)
        | (go_at_call 8; apply Calls.mono; (with_reducible exact awake_l _); rintro e w' ⟨rfl, x, rfl⟩))
      go_ret
      exact ⟨rfl, by (repeat (first | exact Grew.refl _ | refine Grew.over ?_ _ | refine Grew.alloc ?_ _ | refine Grew.drew ?_ | refine Grew.drewN ?_ _))⟩
    case true =>
      have Hv := Lib.hid hv
      clear hv
      rcases hb with ⟨a, ha⟩ | hno
      · have Ha := Lib.hid ha
        have Hl := Lib.hid (intL_length a)
        clear ha
        go_enter Try.func3, Try.ntmps3
        go_wp2_with (first
          | (go_at_call 9; apply Calls.mono; (with_reducible exact solve_ok (hM.grew (by (repeat (first | exact Grew.refl _ | refine Grew.over ?_ _ | refine Grew.alloc ?_ _ | refine Grew.drew ?_ | refine Grew.drewN ?_ _)))) Hn0.out Hv.out Ha.out); rintro e w' ⟨⟨x, rfl⟩, q1, cap1, rfl, hI1, hcap1⟩)
          | (go_at_call 10; apply Calls.mono; (with_reducible exact solver_ok (hM.grew (by (repeat (first | exact Grew.refl _ | refine Grew.over ?_ _ | refine Grew.alloc ?_ _ | refine Grew.drew ?_ | refine Grew.drewN ?_ _)))) Hn0.out Hv.out Ha.out); rintro e w' ⟨⟨x2, rfl⟩, q2, cap2, rfl, hI2, hcap2⟩)
          | (go_at_call 11; apply Calls.mono; (with_reducible exact same_e rfl (hI1.grew (by (repeat (first | exact Grew.refl _ | refine Grew.over ?_ _ | refine Grew.alloc ?_ _ | refine Grew.drew ?_ | refine Grew.drewN ?_ _)))) (hI2.grew (by (repeat (first | exact Grew.refl _ | refine Grew.over ?_ _ | refine Grew.alloc ?_ _ | refine Grew.drew ?_ | refine Grew.drewN ?_ _)))) Hl.out Hl.out); rintro e w' ⟨rfl, x, rfl⟩)
          | (go_at_call 8; apply Calls.mono; (with_reducible exact awake_l _); rintro e w' ⟨rfl, x, rfl⟩))
        go_ret
        exact ⟨rfl, by (repeat (first | exact Grew.refl _ | refine Grew.over ?_ _ | refine Grew.alloc ?_ _ | refine Grew.drew ?_ | refine Grew.drewN ?_ _))⟩
      · have Hno := Lib.hid hno
        clear hno
        go_enter Try.func3, Try.ntmps3
        go_wp2_with (first
          | (go_at_call 9; apply Calls.mono; (with_reducible exact solve_no (hM.grew (by (repeat (first | exact Grew.refl _ | refine Grew.over ?_ _ | refine Grew.alloc ?_ _ | refine Grew.drew ?_ | refine Grew.drewN ?_ _)))) Hn0.out Hv.out Hno.out); rintro e w' ⟨rfl, x, rfl⟩)
          | (go_at_call 10; apply Calls.mono; (with_reducible exact solver_no (hM.grew (by (repeat (first | exact Grew.refl _ | refine Grew.over ?_ _ | refine Grew.alloc ?_ _ | refine Grew.drew ?_ | refine Grew.drewN ?_ _)))) Hn0.out Hv.out Hno.out); rintro e w' ⟨rfl, x, rfl⟩)
          | (go_at_call 11; apply Calls.mono; (with_reducible exact same_e rfl (Ints.nil _ _) (Ints.nil _ _) rfl rfl); rintro e w' ⟨rfl, x, rfl⟩)
          | (go_at_call 8; apply Calls.mono; (with_reducible exact awake_l _); rintro e w' ⟨rfl, x, rfl⟩))
        go_ret
        exact ⟨rfl, by (repeat (first | exact Grew.refl _ | refine Grew.over ?_ _ | refine Grew.alloc ?_ _ | refine Grew.drew ?_ | refine Grew.drewN ?_ _))⟩
  · obtain ⟨_, b, o, rp, rc, h3, h4⟩ := id hM
    obtain ⟨rfl, hbs⟩ := h3 (by omega)
    obtain ⟨hc0, hI0⟩ := h4 0 (by omega)
    rw [Nat.add_zero] at hc0
    have hm0 := hI0.1
    clear h3 h4 hI0
    by_cases h6 : 6 < (rowOf m 0).length
    · go_enter Try.func3, Try.ntmps3
      go_wp2_with ((go_at_call 8; apply Calls.mono; (with_reducible exact awake_l _); rintro e w' ⟨rfl, x, rfl⟩))
      go_ret
      exact ⟨rfl, by (repeat (first | exact Grew.refl _ | refine Grew.over ?_ _ | refine Grew.alloc ?_ _ | refine Grew.drew ?_ | refine Grew.drewN ?_ _))⟩
    have hb := best_or m
    cases hv : vB m
    case false =>
      have Hv := Lib.hid hv
      clear hv
      go_enter Try.func3, Try.ntmps3
      go_wp2_with (first
        | (go_at_call 9; apply Calls.mono; (with_reducible exact solve_bad (hM.grew (by (repeat (first | exact Grew.refl _ | refine Grew.over ?_ _ | refine Grew.alloc ?_ _ | refine Grew.drew ?_ | refine Grew.drewN ?_ _)))) rfl Hv.out); rintro e w' ⟨rfl, x, rfl⟩)
        | (go_at_call 10; apply Calls.mono; (with_reducible exact solver_bad (hM.grew (by (repeat (first | exact Grew.refl _ | refine Grew.over ?_ _ | refine Grew.alloc ?_ _ | refine Grew.drew ?_ | refine Grew.drewN ?_ _)))) rfl Hv.out); rintro e w' ⟨rfl, x, rfl⟩)
        | (go_at_call 11; apply Calls.mono; (with_reducible exact same_e rfl (Ints.nil _ _) (Ints.nil _ _) rfl rfl); rintro e w' ⟨rfl, x, rfl⟩)
        | (go_at_call 8; apply Calls.mono; (with_reducible exact awake_l _); rintro e w' ⟨rfl, x, rfl⟩))
      go_ret
      exact ⟨rfl, by (repeat (first | exact Grew.refl _ | refine Grew.over ?_ _ | refine Grew.alloc ?_ _ | refine Grew.drew ?_ | refine Grew.drewN ?_ _))⟩
    case true =>
      have Hv := Lib.hid hv
      clear hv
      rcases hb with ⟨a, ha⟩ | hno
      · have Ha := Lib.hid ha
        have Hl := Lib.hid (intL_length a)
        clear ha
        go_enter Try.func3, Try.ntmps3
        go_wp2_with (first
          | (go_at_call 9; apply Calls.mono; (with_reducible exact solve_ok (hM.grew (by (repeat (first | exact Grew.refl _ | refine Grew.over ?_ _ | refine Grew.alloc ?_ _ | refine Grew.drew ?_ | refine Grew.drewN ?_ _)))) rfl Hv.out Ha.out); rintro e w' ⟨⟨x, rfl⟩, q1, cap1, rfl, hI1, hcap1⟩)
          | (go_at_call 10; apply Calls.mono; (with_reducible exact solver_ok (hM.grew (by (repeat (first | exact Grew.refl _ | refine Grew.over ?_ _ | refine Grew.alloc ?_ _ | refine Grew.drew ?_ | refine Grew.drewN ?_ _)))) rfl Hv.out Ha.out); rintro e w' ⟨⟨x2, rfl⟩, q2, cap2, rfl, hI2, hcap2⟩)
          | (go_at_call 11; apply Calls.mono; (with_reducible exact same_e rfl (hI1.grew (by (repeat (first | exact Grew.refl _ | refine Grew.over ?_ _ | refine Grew.alloc ?_ _ | refine Grew.drew ?_ | refine Grew.drewN ?_ _)))) (hI2.grew (by (repeat (first | exact Grew.refl _ | refine Grew.over ?_ _ | refine Grew.alloc ?_ _ | refine Grew.drew ?_ | refine Grew.drewN ?_ _)))) Hl.out Hl.out); rintro e w' ⟨rfl, x, rfl⟩)
          | (go_at_call 8; apply Calls.mono; (with_reducible exact awake_l _); rintro e w' ⟨rfl, x, rfl⟩))
        go_ret
        exact ⟨rfl, by (repeat (first | exact Grew.refl _ | refine Grew.over ?_ _ | refine Grew.alloc ?_ _ | refine Grew.drew ?_ | refine Grew.drewN ?_ _))⟩
      · have Hno := Lib.hid hno
        clear hno
        go_enter Try.func3, Try.ntmps3
        go_wp2_with (first
          | (go_at_call 9; apply Calls.mono; (with_reducible exact solve_no (hM.grew (by (repeat (first | exact Grew.refl _ | refine Grew.over ?_ _ | refine Grew.alloc ?_ _ | refine Grew.drew ?_ | refine Grew.drewN ?_ _)))) rfl Hv.out Hno.out); rintro e w' ⟨rfl, x, rfl⟩)
          | (go_at_call 10; apply Calls.mono; (with_reducible exact solver_no (hM.grew (by (repeat (first | exact Grew.refl _ | refine Grew.over ?_ _ | refine Grew.alloc ?_ _ | refine Grew.drew ?_ | refine Grew.drewN ?_ _)))) rfl Hv.out Hno.out); rintro e w' ⟨rfl, x, rfl⟩)
          | (go_at_call 11; apply Calls.mono; (with_reducible exact same_e rfl (Ints.nil _ _) (Ints.nil _ _) rfl rfl); rintro e w' ⟨rfl, x, rfl⟩)
          | (go_at_call 8; apply Calls.mono; (with_reducible exact awake_l _); rintro e w' ⟨rfl, x, rfl⟩))
        go_ret
        exact ⟨rfl, by (repeat (first | exact Grew.refl _ | refine Grew.over ?_ _ | refine Grew.alloc ?_ _ | refine Grew.drew ?_ | refine Grew.drewN ?_ _))⟩

/-! ### AssignOptimal -/
theorem costS_inv {m : List (List Int)} {xs : List Int} (h : (costS m xs).2 = 0) : vB m = true ∧ Asg m (natL xs) ∧ (costS m xs).1 = costN m (natL xs) ∧ xs = intL (natL xs) := by
  cases hv : vB m
  · unfold costS at h; rw [if_pos hv] at h; cases h
  by_cases h2 : xs.length = m.length
  case neg => rw [costS_len hv h2] at h; cases h
  by_cases h3 : inK (kO m) xs
  case neg => rw [costS_in hv h2 h3] at h; cases h
  by_cases h4 : xs.Nodup
  case neg => rw [costS_dup hv h2 h3 h4] at h; cases h
  by_cases h5 : posX m xs
  case neg => rw [costS_none hv h2 h3 h4 h5] at h; cases h
  have hA : Asg m (natL xs) := by
    refine ⟨by rw [natL_length, h2], fun i j hi hj he => ?_, fun i hi => ?_, fun i hi => ?_⟩
    · rw [natL_gn, natL_gn] at he
      have g1 := h3 _ (ge_mem (xs := xs) (i := i) (by omega))
      have g2 := h3 _ (ge_mem (xs := xs) (i := j) (by omega))
      have e : ge xs i = ge xs j := by omega
      rw [ge_eq xs (by omega), ge_eq xs (by omega)] at e
      exact (List.getElem_inj h4).1 e
    · rw [natL_gn]
      have g1 := h3 _ (ge_mem (xs := xs) (i := i) (by omega))
      omega
    · rw [natL_gn]; exact h5 i (by omega)
  refine ⟨rfl, hA, ?_, ?_⟩
  · rw [costS_ok hv h2 h3 h4 h5]
    show sumX m xs xs.length = _
    unfold sumX costN
    rw [h2]
    exact sumN_congr fun i hi => by rw [natL_gn]
  · unfold intL natL
    rw [List.map_map]
    conv => lhs; rw [← List.map_id xs]
    exact List.map_congr_left fun x hx => by
      have := h3 x hx
      show x = ((x.toNat : Nat) : Int)
      omega
theorem ge_intL' (l : List Nat) (i : Nat) : ge (intL l) i = (gn l i : Int) := by
  unfold ge gn intL
  rw [List.getD_eq_getElem?_getD, List.getElem?_map, List.getD_eq_getElem?_getD]
  cases l[i]? <;> rfl
theorem lexI_drop {a b : List Int} : ∀ (k : Nat), k ≤ a.length → k ≤ b.length → (∀ t, t < k → ge a t = ge b t) → lexI a b = lexI (a.drop k) (b.drop k)
  | 0, _, _, _ => by simp
  | k + 1, h1, h2, h => by
    rw [lexI_drop k (by omega) (by omega) (fun t ht => h t (by omega)), drop_ge (xs := a) (by omega), drop_ge (xs := b) (by omega)]
    simp only [lexI]
    rw [if_pos (h k (by omega))]
/-- A list that is not less. -/
theorem lexI_not {n : Nat} {a b : List Nat} (ha : a.length = n) (hb : b.length = n) (h : b = a ∨ lexN n a b) : lexI (intL b) (intL a) = false := by
  rcases h with h | ⟨u, hu, h1, h2⟩
  · subst h
    rw [lexI_drop (intL b).length (Nat.le_refl _) (Nat.le_refl _) (fun t _ => rfl), List.drop_length]
    rfl
  · rw [lexI_drop u (by rw [intL_length]; omega) (by rw [intL_length]; omega) (fun t ht => by rw [ge_intL', ge_intL', h1 t ht]), drop_ge (xs := intL b) (by rw [intL_length]; omega), drop_ge (xs := intL a) (by rw [intL_length]; omega)]
    simp only [lexI]
    rw [ge_intL', ge_intL', if_neg (by omega)]
    exact decide_eq_false (by omega)
theorem less_e {p q : Option Addr} {n k cp cq : Nat} {a b : List Int} {w : World} (he : lexI a b = false) (ha : Ints w p a) (hb : Ints w q b) (hn : a.length = n) (hk : b.length = k) :
    Calls Try.prog 14 #[.slice p n cp, .slice q k cq] w fun e w' => e = .returned (.bool false) ∧ Grew w w' := by
  have := less_r p q n k cp cq a b w ha hb hn hk
  rw [he] at this
  exact this
theorem costr_e {p q : Option Addr} {n k cp cq : Nat} {m : List (List Int)} {xs : List Int} {w : World} {d f : Int} (hc : costS m xs = (d, f)) (hM : Mat w p m) (hx : Ints w q xs) (hn : m.length = n) (hk : xs.length = k) :
    Calls Try.prog 12 #[.slice p n cp, .slice q k cq] w fun e w' => e = .returned (.tuple #[.int .i64 d, .int .i64 f]) ∧ Grew w w' := by
  have := cost_r p q n k cp cq m xs w hM hx hn hk
  rw [hc] at this
  exact this
theorem validr_e {p : Option Addr} {n cap : Nat} {m : List (List Int)} {w : World} {b : Bool} (h : vB m = b) (hM : Mat w p m) (hn : m.length = n) :
    Calls Try.prog 13 #[.slice p n cap] w fun e w' => e = .returned (.bool b) ∧ Grew w w' := h ▸ valid_r p n cap m w hM hn

set_option maxHeartbeats 4000000 in
theorem optimal_l (p q : Option Addr) (n k cp cq : Nat) (m : List (List Int)) (xs : List Int) (w : World) (hM : Mat w p m) (hx : Ints w q xs) (hn : m.length = n) (hk : xs.length = k) :
    Calls Try.prog 4 #[.slice p n cp, .slice q k cq] w fun e w' => e = .returned (.bool true) ∧ Grew w w' := by
  subst hn hk
  have hb := best_or m
  obtain ⟨d, f, hdf⟩ : ∃ d f, costS m xs = (d, f) := ⟨_, _, rfl⟩
  have Hdf := Lib.hid hdf
  have hinv := fun h => costS_inv (m := m) (xs := xs) h
  rw [hdf] at hinv
  cases hv : vB m
  case false =>
    have hf : (f != 0) = true := by
      rw [bne_iff_ne]
      intro e
      have := (hinv e).1
      rw [hv] at this; cases this
    have Hv := Lib.hid hv
    clear hv hinv hb hdf
    go_enter Try.func4, Try.ntmps4
    go_wp2_with (first
      | (go_at_call 9; apply Calls.mono; (with_reducible exact solve_bad (hM.grew (by (repeat (first | exact Grew.refl _ | refine Grew.over ?_ _ | refine Grew.alloc ?_ _ | refine Grew.drew ?_ | refine Grew.drewN ?_ _)))) rfl Hv.out); rintro e w' ⟨rfl, x, rfl⟩)
      | (go_at_call 12; apply Calls.mono; (with_reducible exact costr_e Hdf.out (hM.grew (by (repeat (first | exact Grew.refl _ | refine Grew.over ?_ _ | refine Grew.alloc ?_ _ | refine Grew.drew ?_ | refine Grew.drewN ?_ _)))) (hx.grew (by (repeat (first | exact Grew.refl _ | refine Grew.over ?_ _ | refine Grew.alloc ?_ _ | refine Grew.drew ?_ | refine Grew.drewN ?_ _)))) rfl rfl); rintro e w' ⟨rfl, x, rfl⟩)
      | (go_at_call 13; apply Calls.mono; (with_reducible exact validr_e Hv.out (hM.grew (by (repeat (first | exact Grew.refl _ | refine Grew.over ?_ _ | refine Grew.alloc ?_ _ | refine Grew.drew ?_ | refine Grew.drewN ?_ _)))) rfl); rintro e w' ⟨rfl, x, rfl⟩)
      | (go_at_call 8; apply Calls.mono; (with_reducible exact awake_l _); rintro e w' ⟨rfl, x, rfl⟩))
    go_ret
    exact ⟨rfl, by (repeat (first | exact Grew.refl _ | refine Grew.over ?_ _ | refine Grew.alloc ?_ _ | refine Grew.drew ?_ | refine Grew.drewN ?_ _))⟩
  case true =>
    have Hv := Lib.hid hv
    clear hv
    rcases hb with ⟨a, ha⟩ | hno
    · have Hco := Lib.hid (cost_asg Hv.out ha.asg)
      have Ha := Lib.hid ha
      have Hl := Lib.hid (intL_length a)
      obtain ⟨c, hc⟩ : ∃ c, costN m a = c := ⟨_, rfl⟩
      have Hc := Lib.hid hc
      have Hok : Hid (∀ (p' : Option Addr) (cp' : Nat) (w1 : World), Mat w1 p' m → Calls Try.prog 9 #[.slice p' m.length cp'] w1 fun e w' => Grew w1 w' ∧ ∃ q c', e = .returned (.tuple #[.slice q a.length c', .int .i64 c, .int .i64 0]) ∧ Ints w' q (intL a) ∧ a.length ≤ c') := Lib.hid (fun p' cp' w1 hM => by
        have := solve_ok (cp := cp') hM rfl Hv.out Ha.out
        rw [Hc.out] at this
        exact this)
      have Hco2 : Hid (costS m (intL a) = (c, 0)) := Lib.hid (by rw [Hco.out, Hc.out])
      by_cases hf0 : f = 0
      · subst hf0
        obtain ⟨_, hA, hd, hxe⟩ := hinv rfl
        have hle := ha.le _ hA
        rw [hc, ← hd] at hle
        by_cases hlt : c < d
        · clear hinv hdf ha hc hA hd hxe hle
          go_enter Try.func4, Try.ntmps4
          go_wp2_with (first
            | (go_at_call 9; apply Calls.mono; (with_reducible exact Hok.out _ _ _ (hM.grew (by (repeat (first | exact Grew.refl _ | refine Grew.over ?_ _ | refine Grew.alloc ?_ _ | refine Grew.drew ?_ | refine Grew.drewN ?_ _))))); rintro e w' ⟨⟨x, rfl⟩, q1, cap1, rfl, hI1, hcap1⟩)
            | (go_at_call 12; apply Calls.mono; (with_reducible exact costr_e Hdf.out (hM.grew (by (repeat (first | exact Grew.refl _ | refine Grew.over ?_ _ | refine Grew.alloc ?_ _ | refine Grew.drew ?_ | refine Grew.drewN ?_ _)))) (hx.grew (by (repeat (first | exact Grew.refl _ | refine Grew.over ?_ _ | refine Grew.alloc ?_ _ | refine Grew.drew ?_ | refine Grew.drewN ?_ _)))) rfl rfl); rintro e w' ⟨rfl, x, rfl⟩)
            | (go_at_call 12; apply Calls.mono; (with_reducible exact costr_e Hco2.out (hM.grew (by (repeat (first | exact Grew.refl _ | refine Grew.over ?_ _ | refine Grew.alloc ?_ _ | refine Grew.drew ?_ | refine Grew.drewN ?_ _)))) (hI1.grew (by (repeat (first | exact Grew.refl _ | refine Grew.over ?_ _ | refine Grew.alloc ?_ _ | refine Grew.drew ?_ | refine Grew.drewN ?_ _)))) rfl Hl.out); rintro e w' ⟨rfl, x, rfl⟩)
            | (go_at_call 8; apply Calls.mono; (with_reducible exact awake_l _); rintro e w' ⟨rfl, x, rfl⟩))
          go_ret
          exact ⟨rfl, by (repeat (first | exact Grew.refl _ | refine Grew.over ?_ _ | refine Grew.alloc ?_ _ | refine Grew.drew ?_ | refine Grew.drewN ?_ _))⟩
        · have hcd : c = d := by simp only at hle; omega
          subst hcd
          have hlex := ha.lex _ hA (by rw [hc]; exact hd.symm)
          have Hlx : Hid (lexI xs (intL a) = false) := Lib.hid (by
            have := lexI_not ha.asg.l hA.l hlex
            rw [← hxe] at this
            exact this)
          clear hinv hdf ha hc hA hd hxe hle hlex
          go_enter Try.func4, Try.ntmps4
          go_wp2_with (first
            | (go_at_call 9; apply Calls.mono; (with_reducible exact Hok.out _ _ _ (hM.grew (by (repeat (first | exact Grew.refl _ | refine Grew.over ?_ _ | refine Grew.alloc ?_ _ | refine Grew.drew ?_ | refine Grew.drewN ?_ _))))); rintro e w' ⟨⟨x, rfl⟩, q1, cap1, rfl, hI1, hcap1⟩)
            | (go_at_call 12; apply Calls.mono; (with_reducible exact costr_e Hdf.out (hM.grew (by (repeat (first | exact Grew.refl _ | refine Grew.over ?_ _ | refine Grew.alloc ?_ _ | refine Grew.drew ?_ | refine Grew.drewN ?_ _)))) (hx.grew (by (repeat (first | exact Grew.refl _ | refine Grew.over ?_ _ | refine Grew.alloc ?_ _ | refine Grew.drew ?_ | refine Grew.drewN ?_ _)))) rfl rfl); rintro e w' ⟨rfl, x, rfl⟩)
            | (go_at_call 12; apply Calls.mono; (with_reducible exact costr_e Hco2.out (hM.grew (by (repeat (first | exact Grew.refl _ | refine Grew.over ?_ _ | refine Grew.alloc ?_ _ | refine Grew.drew ?_ | refine Grew.drewN ?_ _)))) (hI1.grew (by (repeat (first | exact Grew.refl _ | refine Grew.over ?_ _ | refine Grew.alloc ?_ _ | refine Grew.drew ?_ | refine Grew.drewN ?_ _)))) rfl Hl.out); rintro e w' ⟨rfl, x, rfl⟩)
            | (go_at_call 14; apply Calls.mono; (with_reducible exact less_e Hlx.out (hx.grew (by (repeat (first | exact Grew.refl _ | refine Grew.over ?_ _ | refine Grew.alloc ?_ _ | refine Grew.drew ?_ | refine Grew.drewN ?_ _)))) (hI1.grew (by (repeat (first | exact Grew.refl _ | refine Grew.over ?_ _ | refine Grew.alloc ?_ _ | refine Grew.drew ?_ | refine Grew.drewN ?_ _)))) rfl Hl.out); rintro e w' ⟨rfl, x, rfl⟩)
            | (go_at_call 8; apply Calls.mono; (with_reducible exact awake_l _); rintro e w' ⟨rfl, x, rfl⟩))
          go_ret
          exact ⟨rfl, by (repeat (first | exact Grew.refl _ | refine Grew.over ?_ _ | refine Grew.alloc ?_ _ | refine Grew.drew ?_ | refine Grew.drewN ?_ _))⟩
      · have hf : (f != 0) = true := by rw [bne_iff_ne]; exact hf0
        clear hinv hdf ha hc hf0
        go_enter Try.func4, Try.ntmps4
        go_wp2_with (first
          | (go_at_call 9; apply Calls.mono; (with_reducible exact Hok.out _ _ _ (hM.grew (by (repeat (first | exact Grew.refl _ | refine Grew.over ?_ _ | refine Grew.alloc ?_ _ | refine Grew.drew ?_ | refine Grew.drewN ?_ _))))); rintro e w' ⟨⟨x, rfl⟩, q1, cap1, rfl, hI1, hcap1⟩)
          | (go_at_call 12; apply Calls.mono; (with_reducible exact costr_e Hdf.out (hM.grew (by (repeat (first | exact Grew.refl _ | refine Grew.over ?_ _ | refine Grew.alloc ?_ _ | refine Grew.drew ?_ | refine Grew.drewN ?_ _)))) (hx.grew (by (repeat (first | exact Grew.refl _ | refine Grew.over ?_ _ | refine Grew.alloc ?_ _ | refine Grew.drew ?_ | refine Grew.drewN ?_ _)))) rfl rfl); rintro e w' ⟨rfl, x, rfl⟩)
          | (go_at_call 12; apply Calls.mono; (with_reducible exact costr_e Hco2.out (hM.grew (by (repeat (first | exact Grew.refl _ | refine Grew.over ?_ _ | refine Grew.alloc ?_ _ | refine Grew.drew ?_ | refine Grew.drewN ?_ _)))) (hI1.grew (by (repeat (first | exact Grew.refl _ | refine Grew.over ?_ _ | refine Grew.alloc ?_ _ | refine Grew.drew ?_ | refine Grew.drewN ?_ _)))) rfl Hl.out); rintro e w' ⟨rfl, x, rfl⟩)
          | (go_at_call 8; apply Calls.mono; (with_reducible exact awake_l _); rintro e w' ⟨rfl, x, rfl⟩))
        go_ret
        exact ⟨rfl, by (repeat (first | exact Grew.refl _ | refine Grew.over ?_ _ | refine Grew.alloc ?_ _ | refine Grew.drew ?_ | refine Grew.drewN ?_ _))⟩
    · have hf : (f != 0) = true := by
        rw [bne_iff_ne]
        intro e
        exact hno _ (hinv e).2.1
      have Hno := Lib.hid hno
      clear hinv hno hdf
      go_enter Try.func4, Try.ntmps4
      go_wp2_with (first
        | (go_at_call 9; apply Calls.mono; (with_reducible exact solve_no (hM.grew (by (repeat (first | exact Grew.refl _ | refine Grew.over ?_ _ | refine Grew.alloc ?_ _ | refine Grew.drew ?_ | refine Grew.drewN ?_ _)))) rfl Hv.out Hno.out); rintro e w' ⟨rfl, x, rfl⟩)
        | (go_at_call 12; apply Calls.mono; (with_reducible exact costr_e Hdf.out (hM.grew (by (repeat (first | exact Grew.refl _ | refine Grew.over ?_ _ | refine Grew.alloc ?_ _ | refine Grew.drew ?_ | refine Grew.drewN ?_ _)))) (hx.grew (by (repeat (first | exact Grew.refl _ | refine Grew.over ?_ _ | refine Grew.alloc ?_ _ | refine Grew.drew ?_ | refine Grew.drewN ?_ _)))) rfl rfl); rintro e w' ⟨rfl, x, rfl⟩)
        | (go_at_call 13; apply Calls.mono; (with_reducible exact validr_e Hv.out (hM.grew (by (repeat (first | exact Grew.refl _ | refine Grew.over ?_ _ | refine Grew.alloc ?_ _ | refine Grew.drew ?_ | refine Grew.drewN ?_ _)))) rfl); rintro e w' ⟨rfl, x, rfl⟩)
        | (go_at_call 8; apply Calls.mono; (with_reducible exact awake_l _); rintro e w' ⟨rfl, x, rfl⟩))
      go_ret
      exact ⟨rfl, by (repeat (first | exact Grew.refl _ | refine Grew.over ?_ _ | refine Grew.alloc ?_ _ | refine Grew.drew ?_ | refine Grew.drewN ?_ _))⟩
end Go.Proofs.Ytjodkhcgibabpaa
