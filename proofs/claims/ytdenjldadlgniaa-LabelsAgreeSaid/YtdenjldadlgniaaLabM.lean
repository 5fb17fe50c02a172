/- Best assignments; Solve case by case (cut from chapter 18's AsgJ); lists of the same numbers. -/
import Derived.Test.YtdenjldadlgniaaLabL
set_option linter.unusedSimpArgs false
set_option linter.unusedVariables false
namespace Go.Proofs.Ytdenjldadlgniaa
open Go.RowKit
attribute [local go_sem ↓] Go.wp_at_zero Go.wp_at_succ

set_option maxHeartbeats 1000000 in
theorem same_r (p q : Option Addr) (n k cp cq : Nat) (a b : List Int) (w : World) (ha : Ints w p a) (hb : Ints w q b) (hn : a.length = n) (hk : b.length = k) :
    Calls Try.prog 19 #[.slice p n cp, .slice q k cq] w fun e w' => e = .returned (.bool (decide (a = b))) ∧ Grew w w' := by
  subst hn hk
  have hma := ha.1
  have hmb := hb.1
  by_cases hl : a.length = b.length
  · obtain ⟨b1, o1, h1, c1⟩ := ha.open
    obtain ⟨b2, o2, h2, c2⟩ := hb.open
    clear ha hb
    rw [← hl] at h2 c2 hmb ⊢
    have Hl := Lib.hid hl
    clear hl
    go_enter Try.func19, Try.ntmps19
    go_wp2
    go_loopw [5] (fun i wr => ∃ j : Nat, j ≤ a.length ∧ i = .int .i64 j ∧ (∀ t, t < j → ge a t = ge b t) ∧ Grew w wr) (fun i _ => a.length - (intOf i).toNat)
    case atStart => exact ⟨0, Nat.zero_le _, rfl, (fun j hj => by omega), Grew.refl w⟩
    case round =>
      obtain ⟨j, hj, rfl, hall, x, rfl⟩ := hrel
      have Hall := Lib.hid hall
      clear hall
      by_cases hlt : j < a.length
      · obtain ⟨rfl, g1⟩ := h1 (by omega)
        obtain ⟨rfl, g2⟩ := h2 (by omega)
        have d1 := c1 j hlt
        have d2 := c2 j hlt
        clear h1 h2 c1 c2
        by_cases he : ge a j = ge b j
        · have he' : (ge a j != ge b j) = false := by simp [he]
          have He := Lib.hid he
          clear he
          go_wp2
          refine wp_region_over (by kernel_rfl) (by kernel_rfl) ?_; (repeat (go_big_quiet_step (fail))); refine wpQuiet_nil ?_; rintro _ ⟨x, rfl⟩
          go_wp2
          go_roundw
          case rel =>
            refine ⟨j + 1, by omega, by go_num, fun t ht => ?_, ?_⟩
            · by_cases h : t = j
              · rw [h]; exact He.out
              · exact Hall.out t (by omega)
            · (repeat (first | exact Grew.refl _ | refine Grew.over ?_ _ | refine Grew.alloc ?_ _ | refine Grew.drew ?_ | refine Grew.drewN ?_ _))
          case measure => simp [intOf]; omega
        · have he' : (ge a j != ge b j) = true := by simp [he]
          have He := Lib.hid he
          clear he
          go_wp2
          refine wp_region_over (by kernel_rfl) (by kernel_rfl) ?_; (repeat (go_big_quiet_step (fail))); refine wpQuiet_nil ?_; rintro _ ⟨x, rfl⟩
          go_wp2
          go_ret
          refine ⟨ret_bool ?_, ?_⟩
          · exact (decide_eq_false (fun e => He.out (by rw [e]))).symm
          · (repeat (first | exact Grew.refl _ | refine Grew.over ?_ _ | refine Grew.alloc ?_ _ | refine Grew.drew ?_ | refine Grew.drewN ?_ _))
      · have Hf : Hid (a = b) := Lib.hid (List.ext_getElem Hl.out fun i h1 h2 => by
          have := Hall.out i (by omega)
          rwa [ge_eq a h1, ge_eq b h2] at this)
        go_wp2
        go_ret
        refine ⟨ret_bool ?_, ?_⟩
        · exact (decide_eq_true Hf.out).symm
        · (repeat (first | exact Grew.refl _ | refine Grew.over ?_ _ | refine Grew.alloc ?_ _ | refine Grew.drew ?_ | refine Grew.drewN ?_ _))
  · have hne : ((a.length : Int) != (b.length : Int)) = true := by
      rw [bne_iff_ne]; omega
    have hf : decide (a = b) = false := decide_eq_false (fun e => hl (by rw [e]))
    have Hf := Lib.hid hf
    clear hf hl
    go_enter Try.func19, Try.ntmps19
    go_wp2
    go_ret
    exact ⟨ret_bool Hf.out.symm, Grew.refl w⟩


/-! ### There is a best assignment if there is any -/
theorem least_nat {P : Nat → Prop} : ∀ n, P n → ∃ c, P c ∧ ∀ c', c' < c → ¬ P c' := by
  intro n
  induction n using Nat.strongRecOn with
  | ind n ih =>
    intro h
    by_cases e : ∃ k, k < n ∧ P k
    · obtain ⟨k, h1, h2⟩ := e
      exact ih k h1 h2
    · exact ⟨n, h, fun c' h1 h2 => e ⟨c', h1, h2⟩⟩
theorem costN_nn {m : List (List Int)} {a : List Nat} (h : Asg m a) : 0 ≤ costN m a := sumN_nonneg fun i hi => h.ok i hi
theorem min_cost {m : List (List Int)} {a : List Nat} (h : Asg m a) : ∃ z, (∃ b, Asg m b ∧ costN m b = z) ∧ ∀ b, Asg m b → z ≤ costN m b := by
  obtain ⟨n, ⟨b, h1, h2⟩, h3⟩ := least_nat (P := fun n => ∃ b, Asg m b ∧ (costN m b).toNat = n) _ ⟨a, h, rfl⟩
  refine ⟨costN m b, ⟨b, h1, rfl⟩, fun x hx => ?_⟩
  have g1 := costN_nn h1
  have g2 := costN_nn hx
  by_cases hlt : (costN m x).toNat < (costN m b).toNat
  · exact absurd ⟨x, hx, rfl⟩ (h3 _ (by omega))
  · omega
theorem StA.step {m : List (List Int)} {z : Int} {l : List Nat} (h : StA m z l) (hl : l.length < m.length) : ∃ c, StA m z (l ++ [c]) := by
  obtain ⟨a, h1, h2, h3⟩ := h.ex
  obtain ⟨c, ⟨b, g1, g2, g3, g4⟩, g5⟩ := least_nat (P := fun c => ∃ a, Asg m a ∧ costN m a = z ∧ Pre l a ∧ gn a l.length = c) _ ⟨a, h1, h2, h3, rfl⟩
  have hc : c < kO m := by rw [← g4]; exact g1.lt _ hl
  have hp : 0 ≤ at2 m l.length c := by rw [← g4]; exact g1.ok _ hl
  refine ⟨c, h.ok.snoc hl hc hp, ⟨b, g1, g2, pre_snoc.2 ⟨g3, g4⟩⟩, fun x hx hxz => ?_⟩
  rcases h.lex x hx hxz with g | ⟨u, e1, e2, e3⟩
  · by_cases e : gn x l.length = c
    · exact Or.inl (pre_snoc.2 ⟨g, e⟩)
    · have : ¬ gn x l.length < c := fun hlt => g5 _ hlt ⟨x, hx, hxz, g, rfl⟩
      refine Or.inr ⟨l.length, by simp, fun t ht => ?_, ?_⟩
      · rw [gn_app, if_pos ht]; exact (g t ht).symm
      · rw [gn_app, if_neg (by omega), if_pos rfl]; omega
  · refine Or.inr ⟨u, by simp; omega, fun t ht => ?_, ?_⟩
    · rw [gn_app, if_pos (by omega)]; exact e2 t ht
    · rw [gn_app, if_pos e1]; exact e3
theorem best_exists {m : List (List Int)} {a : List Nat} (h : Asg m a) : ∃ b, BestA m b := by
  obtain ⟨z, h1, h2⟩ := min_cost h
  have key : ∀ j, j ≤ m.length → ∃ l, l.length = j ∧ StA m z l := fun j => by
    induction j with
    | zero => intro _; exact ⟨[], rfl, StA.begin h1⟩
    | succ j ih =>
      intro hj
      obtain ⟨l, e, hS⟩ := ih (by omega)
      obtain ⟨c, hS2⟩ := hS.step (by omega)
      exact ⟨l ++ [c], by simp [e], hS2⟩
  obtain ⟨l, e, hS⟩ := key m.length (Nat.le_refl _)
  exact ⟨l, (hS.done e h2).1⟩
theorem best_or (m : List (List Int)) : (∃ a, BestA m a) ∨ ∀ a, ¬ Asg m a := by
  by_cases h : ∃ a, Asg m a
  · obtain ⟨a, ha⟩ := h
    exact Or.inl (best_exists ha)
  · exact Or.inr fun a ha => h ⟨a, ha⟩

/-! ### Solve, case by case -/
theorem solve_case {m : List (List Int)} {w : World} {e : Ending} {w' : World} (h : SolvePost m w e w') : Grew w w' ∧
    (vB m = false → e = .returned (.tuple #[.slice none 0 0, .int .i64 0, .int .i64 1])) ∧
    (vB m = true → (∀ a, ¬ Asg m a) → e = .returned (.tuple #[.slice none 0 0, .int .i64 0, .int .i64 15])) ∧
    (∀ a, vB m = true → BestA m a → ∃ q c, e = .returned (.tuple #[.slice q a.length c, .int .i64 (costN m a), .int .i64 0]) ∧ Ints w' q (intL a) ∧ a.length ≤ c) := by
  obtain ⟨hg, h⟩ := h
  rcases h with ⟨h1, h2⟩ | ⟨h1, h2, h3⟩ | ⟨h1, a, q, c, h2, h3, h4, h5⟩
  · exact ⟨hg, fun _ => h2, fun g => (by rw [h1] at g; cases g), fun _ g => (by rw [h1] at g; cases g)⟩
  · exact ⟨hg, fun g => (by rw [h1] at g; cases g), fun _ _ => h3, fun a _ g => absurd g.asg (h2 a)⟩
  · refine ⟨hg, fun g => (by rw [h1] at g; cases g), fun _ g => absurd h2.asg (g a), fun b _ g => ?_⟩
    have e := h2.unique g
    subst e
    exact ⟨q, c, h3, h4, h5⟩
theorem solve_bad {p : Option Addr} {n cp : Nat} {m : List (List Int)} {w : World} (hM : Mat w p m) (hn : m.length = n) (hv : vB m = false) :
    Calls Try.prog 39 #[.slice p n cp] w fun e w' => e = .returned (.tuple #[.slice none 0 0, .int .i64 0, .int .i64 1]) ∧ Grew w w' :=
  (solve_p p n cp m w hM hn).mono fun e w' h => ⟨(solve_case h).2.1 hv, (solve_case h).1⟩
theorem solve_no {p : Option Addr} {n cp : Nat} {m : List (List Int)} {w : World} (hM : Mat w p m) (hn : m.length = n) (hv : vB m = true) (h : ∀ a, ¬ Asg m a) :
    Calls Try.prog 39 #[.slice p n cp] w fun e w' => e = .returned (.tuple #[.slice none 0 0, .int .i64 0, .int .i64 15]) ∧ Grew w w' :=
  (solve_p p n cp m w hM hn).mono fun e w' g => ⟨(solve_case g).2.2.1 hv h, (solve_case g).1⟩
theorem solve_ok {p : Option Addr} {n cp : Nat} {m : List (List Int)} {w : World} {a : List Nat} (hM : Mat w p m) (hn : m.length = n) (hv : vB m = true) (h : BestA m a) :
    Calls Try.prog 39 #[.slice p n cp] w fun e w' => Grew w w' ∧ ∃ q c, e = .returned (.tuple #[.slice q a.length c, .int .i64 (costN m a), .int .i64 0]) ∧ Ints w' q (intL a) ∧ a.length ≤ c :=
  (solve_p p n cp m w hM hn).mono fun e w' g => ⟨(solve_case g).1, (solve_case g).2.2.2 a hv h⟩
theorem solver_bad {p : Option Addr} {n cp : Nat} {m : List (List Int)} {w : World} (hM : Mat w p m) (hn : m.length = n) (hv : vB m = false) :
    Calls Try.prog 43 #[.slice p n cp] w fun e w' => e = .returned (.tuple #[.slice none 0 0, .int .i64 0, .int .i64 1]) ∧ Grew w w' :=
  (solve_r p n cp m w hM hn).mono fun e w' h => ⟨(solve_case h).2.1 hv, (solve_case h).1⟩
theorem solver_no {p : Option Addr} {n cp : Nat} {m : List (List Int)} {w : World} (hM : Mat w p m) (hn : m.length = n) (hv : vB m = true) (h : ∀ a, ¬ Asg m a) :
    Calls Try.prog 43 #[.slice p n cp] w fun e w' => e = .returned (.tuple #[.slice none 0 0, .int .i64 0, .int .i64 15]) ∧ Grew w w' :=
  (solve_r p n cp m w hM hn).mono fun e w' g => ⟨(solve_case g).2.2.1 hv h, (solve_case g).1⟩
theorem solver_ok {p : Option Addr} {n cp : Nat} {m : List (List Int)} {w : World} {a : List Nat} (hM : Mat w p m) (hn : m.length = n) (hv : vB m = true) (h : BestA m a) :
    Calls Try.prog 43 #[.slice p n cp] w fun e w' => Grew w w' ∧ ∃ q c, e = .returned (.tuple #[.slice q a.length c, .int .i64 (costN m a), .int .i64 0]) ∧ Ints w' q (intL a) ∧ a.length ≤ c :=
  (solve_r p n cp m w hM hn).mono fun e w' g => ⟨(solve_case g).1, (solve_case g).2.2.2 a hv h⟩
theorem Ints.made (W : World) (t : TypeId) (xs : List Int) (cs : Array Value) (b : Nat) (hcs : cs.toList = xs.map (Value.int .i64)) (hb : b = W.heap.size) (hl : xs.length ≤ 1000) (hw : ∀ x ∈ xs, -9223372036854775808 ≤ x ∧ x ≤ 9223372036854775807) :
    Ints (W.alloc (.cells cs t)) (some ⟨b, 0, none⟩) xs := by
  subst hb
  refine ⟨by omega, hw, W.heap.size, 0, fun _ => ⟨rfl, by simp⟩, fun i hi => ?_⟩
  rw [cell?_alloc_if, if_neg (by omega), if_pos rfl, Nat.zero_add, ← Array.getElem?_toList, hcs, List.getElem?_map, List.getElem?_eq_getElem hi, ge_eq xs hi]
  rfl
theorem Mat.made (W : World) (t : TypeId) (m : List (List Int)) (cs : Array Value) (b : Nat) (rp : Nat → Option Addr) (rc : Nat → Nat) (hb : b = W.heap.size) (hl : m.length ≤ 1000)
    (h : ∀ u, u < m.length → cs[u]? = some (.slice (rp u) (rowOf m u).length (rc u)) ∧ Ints W (rp u) (rowOf m u)) : Mat (W.alloc (.cells cs t)) (some ⟨b, 0, none⟩) m := by
  subst hb
  refine ⟨by omega, W.heap.size, 0, rp, rc, fun _ => ⟨rfl, by simp⟩, fun u hu => ?_⟩
  rw [cell?_alloc_if, if_neg (by omega), if_pos rfl, Nat.zero_add]
  exact ⟨(h u hu).1, (h u hu).2.grew ((Grew.refl W).alloc _)⟩
theorem same_e {p q : Option Addr} {n k cp cq : Nat} {a b : List Int} {w : World} {r : Bool} (he : decide (a = b) = r) (ha : Ints w p a) (hb : Ints w q b) (hn : a.length = n) (hk : b.length = k) :
    Calls Try.prog 19 #[.slice p n cp, .slice q k cq] w fun e w' => e = .returned (.bool r) ∧ Grew w w' := he ▸ same_r p q n k cp cq a b w ha hb hn hk
end Go.Proofs.Ytdenjldadlgniaa
