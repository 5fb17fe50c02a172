/- The laws AssignShifts and AssignWidens. -/
import Derived.Test.YtjodkhcgibabpaaAsgK
set_option linter.unusedSimpArgs false
set_option linter.unusedVariables false
namespace Go.Proofs.Ytjodkhcgibabpaa
open Go.RowKit

theorem best_same {m M : List (List Int)} (hl : M.length = m.length) (d : Int) (hA : ∀ a, Asg M a ↔ Asg m a) (hc : ∀ a, Asg m a → costN M a = costN m a + d) {a : List Nat} (h : BestA m a) : BestA M a := by
  refine ⟨(hA a).2 h.asg, fun b hb => ?_, fun b hb he => ?_⟩
  · have hb' := (hA b).1 hb
    rw [hc a h.asg, hc b hb']
    have := h.le b hb'
    omega
  · have hb' := (hA b).1 hb
    rw [hc a h.asg, hc b hb'] at he
    rw [hl]
    exact h.lex b hb' (by omega)

/-! ### A number added to a row -/
theorem kO_cpM (m : List (List Int)) (r b : Int) (h0 : 0 < m.length) : kO (cpM m r b) = kO m := rowlen_cpM m r b h0
theorem at2_cpM {m : List (List Int)} (hV : vA m) (r b : Int) {u v : Nat} (hu : u < m.length) (hv : v < kO m) : at2 (cpM m r b) u v = if (u : Int) = r then shX b (at2 m u v) else at2 m u v :=
  ge_cpM m r b hu (by rw [hV.sq u hu]; exact hv)
theorem shX_nn {b x : Int} (hb : 0 ≤ b) : 0 ≤ shX b x ↔ 0 ≤ x := by
  unfold shX
  split <;> omega
theorem asg_cpM {m : List (List Int)} (hV : vA m) {r b : Int} (hb : 0 ≤ b) (a : List Nat) : Asg (cpM m r b) a ↔ Asg m a := by
  have key : ∀ {i v : Nat}, i < m.length → v < kO m → (0 ≤ at2 (cpM m r b) i v ↔ 0 ≤ at2 m i v) := fun {i v} hi hv => by
    rw [at2_cpM hV r b hi hv]
    split
    · exact shX_nn hb
    · exact Iff.rfl
  constructor
  · intro h
    have hl := h.l
    rw [cpM_length] at hl
    have hlt : ∀ i, i < m.length → gn a i < kO m := fun i hi => by
      have := h.lt i (by rw [cpM_length]; exact hi)
      rwa [kO_cpM m r b (by omega)] at this
    exact ⟨hl, fun i j hi hj => h.nd i j (by rw [cpM_length]; exact hi) (by rw [cpM_length]; exact hj), hlt, fun i hi => (key hi (hlt i hi)).1 (h.ok i (by rw [cpM_length]; exact hi))⟩
  · intro h
    refine ⟨by rw [cpM_length]; exact h.l, fun i j hi hj => h.nd i j (by rw [cpM_length] at hi; exact hi) (by rw [cpM_length] at hj; exact hj), fun i hi => ?_, fun i hi => ?_⟩
    · rw [cpM_length] at hi
      rw [kO_cpM m r b (by omega)]
      exact h.lt i hi
    · rw [cpM_length] at hi
      exact (key hi (h.lt i hi)).2 (h.ok i hi)
theorem cost_cpM {m : List (List Int)} (hV : vA m) {u : Nat} {b : Int} (hu : u < m.length) {a : List Nat} (h : Asg m a) : costN (cpM m (u : Int) b) a = costN m a + b := by
  unfold costN
  rw [cpM_length]
  have e1 : sumN (fun i => at2 (cpM m (u : Int) b) i (gn a i)) m.length = sumN (fun i => at2 m i (gn a i) + (if i = u then b else 0)) m.length := sumN_congr fun i hi => by
    rw [at2_cpM hV _ b hi (h.lt i hi)]
    by_cases e : i = u
    · rw [if_pos (by omega), if_pos e]
      unfold shX
      rw [if_pos (h.ok i hi)]
    · rw [if_neg (by omega), if_neg e]; omega
  rw [e1, sumN_add, sumN_one (f := fun i => if i = u then b else 0) hu (fun j _ hne => if_neg hne), if_pos rfl]
theorem rng_cpM {m : List (List Int)} (hV : vA m) {r b : Int} (h0 : 0 ≤ b) (h1 : b ≤ 65535) {u : Nat} (hu : u < m.length) : ∀ x ∈ rowOf (cpM m r b) u, -9223372036854775808 ≤ x ∧ x ≤ 9223372036854775807 := by
  intro x hx
  obtain ⟨v, hv, e⟩ := List.getElem_of_mem hx
  rw [rowlen_cpM m r b hu] at hv
  have hg := ge_cpM m r b hu hv
  rw [ge_eq _ (by rw [rowlen_cpM m r b hu]; exact hv), e] at hg
  have := hV.b u hu v (by rw [← hV.sq u hu]; exact hv)
  unfold at2 at this
  rw [hg]
  split
  · unfold shX; split <;> omega
  · omega
theorem cpM_none (m : List (List Int)) : cpM m (-1) 0 = m := by
  refine List.ext_getElem (cpM_length _ _ _) fun i h1 h2 => ?_
  rw [← rowOf_eq _ h1, ← rowOf_eq _ h2, rowOf_cpM m _ _ h2, if_neg (by omega)]
theorem copied_e {p : Option Addr} {n cp : Nat} {m : List (List Int)} {u : Nat} {b : Int} {w : World} (hM : Mat w p m) (hV : vA m) (hn : m.length = n) (hb0 : 0 ≤ b) (hb1 : b ≤ 65535) :
    Calls Try.prog 15 #[.slice p n cp, .int .i64 (u : Int), .int .i64 b] w fun e w' => Grew w w' ∧ ∃ q co, e = .returned (.slice q n co) ∧ Mat w' q (cpM m (u : Int) b) := by
  refine (copied_l p n cp m u b w hM hV hn hb0 hb1).mono fun e w' h => ⟨h.1, ?_⟩
  obtain ⟨v, rfl, hC⟩ := h.2
  have h16 := hV.n16
  obtain ⟨q, co, rfl, hm⟩ := hC.mat (by rw [cpM_length]; omega) (fun u hu => by rw [cpM_length] at hu; rw [rowlen_cpM m _ b hu, hV.sq u hu]; have := hV.k64 (by omega); omega)
    (fun u hu => by rw [cpM_length] at hu; exact rng_cpM hV hb0 hb1 hu)
  rw [cpM_length, hn]
  exact ⟨q, co, rfl, hm⟩

set_option maxHeartbeats 4000000 in
theorem shifts_l (p : Option Addr) (n cp : Nat) (m : List (List Int)) (a : Nat) (d : Int) (w : World) (hM : Mat w p m) (hn : m.length = n) (ha : a ≤ 255) (hd0 : 0 ≤ d) (hd : d ≤ 65535) :
    Calls Try.prog 5 #[.slice p n cp, .int .u8 a, .int .u16 d] w fun e w' => e = .returned (.bool true) ∧ Grew w w' := by
  subst hn
  have hmm := hM.1
  cases hv : vB m
  case false =>
    have Hv := Lib.hid hv
    clear hv
    go_enter Try.func5, Try.ntmps5
    go_wp2_with (first
      | (go_at_call 13; apply Calls.mono; (with_reducible exact validr_e Hv.out (hM.grew (by (repeat (first | exact Grew.refl _ | refine Grew.over ?_ _ | refine Grew.alloc ?_ _ | refine Grew.drew ?_ | refine Grew.drewN ?_ _)))) rfl); rintro e w' ⟨rfl, x, rfl⟩)
      | (go_at_call 8; apply Calls.mono; (with_reducible exact awake_l _); rintro e w' ⟨rfl, x, rfl⟩))
    go_ret
    exact ⟨rfl, by (repeat (first | exact Grew.refl _ | refine Grew.over ?_ _ | refine Grew.alloc ?_ _ | refine Grew.drew ?_ | refine Grew.drewN ?_ _))⟩
  case true =>
  have Hv := Lib.hid hv
  have HV := Lib.hid (vB_iff.1 hv)
  have h16 := HV.out.n16
  clear hv
  by_cases h0 : m.length = 0
  · have Hn0 := Lib.hid h0
    go_enter Try.func5, Try.ntmps5
    go_wp2_with (first
      | (go_at_call 13; apply Calls.mono; (with_reducible exact validr_e Hv.out (hM.grew (by (repeat (first | exact Grew.refl _ | refine Grew.over ?_ _ | refine Grew.alloc ?_ _ | refine Grew.drew ?_ | refine Grew.drewN ?_ _)))) Hn0.out); rintro e w' ⟨rfl, x, rfl⟩)
      | (go_at_call 8; apply Calls.mono; (with_reducible exact awake_l _); rintro e w' ⟨rfl, x, rfl⟩))
    go_ret
    exact ⟨rfl, by (repeat (first | exact Grew.refl _ | refine Grew.over ?_ _ | refine Grew.alloc ?_ _ | refine Grew.drew ?_ | refine Grew.drewN ?_ _))⟩
  have h0' : ((m.length : Int) == 0) = false := by rw [beq_eq_false_iff_ne]; omega
  obtain ⟨u, hu⟩ : ∃ u, u = a % m.length := ⟨_, rfl⟩
  have hul : u < m.length := hu ▸ Nat.mod_lt _ (by omega)
  have hu' : ((a : Int) % (m.length : Int)) = (u : Int) := by rw [hu]; omega
  have hu2 : Int.tmod (a : Int) (m.length : Int) = (u : Int) := by rw [Int.tmod_eq_emod_of_nonneg (by omega)]; exact hu'
  have Hlen := Lib.hid (cpM_length m (u : Int) d)
  have hb := best_or m
  clear hu
  cases hv2 : vB (cpM m (u : Int) d)
  case false =>
    have Hv2 := Lib.hid hv2
    clear hv2 hb
    go_enter Try.func5, Try.ntmps5
    go_wp2_with (first
      | (go_at_call 13; apply Calls.mono; (with_reducible exact validr_e Hv.out (hM.grew (by (repeat (first | exact Grew.refl _ | refine Grew.over ?_ _ | refine Grew.alloc ?_ _ | refine Grew.drew ?_ | refine Grew.drewN ?_ _)))) rfl); rintro e w' ⟨rfl, x, rfl⟩)
      | (go_at_call 15; apply Calls.mono; (with_reducible exact copied_e (u := u) (hM.grew (by (repeat (first | exact Grew.refl _ | refine Grew.over ?_ _ | refine Grew.alloc ?_ _ | refine Grew.drew ?_ | refine Grew.drewN ?_ _)))) HV.out rfl hd0 hd); rintro e w1 ⟨⟨x1, rfl⟩, q1, co1, rfl, hM2⟩)
      | (go_at_call 13; apply Calls.mono; (with_reducible exact validr_e Hv2.out (hM2.grew (by (repeat (first | exact Grew.refl _ | refine Grew.over ?_ _ | refine Grew.alloc ?_ _ | refine Grew.drew ?_ | refine Grew.drewN ?_ _)))) Hlen.out); rintro e w' ⟨rfl, x, rfl⟩)
      | (go_at_call 8; apply Calls.mono; (with_reducible exact awake_l _); rintro e w' ⟨rfl, x, rfl⟩))
    go_ret
    exact ⟨rfl, by (repeat (first | exact Grew.refl _ | refine Grew.over ?_ _ | refine Grew.alloc ?_ _ | refine Grew.drew ?_ | refine Grew.drewN ?_ _))⟩
  case true =>
    have Hv2 := Lib.hid hv2
    clear hv2
    rcases hb with ⟨o, ho⟩ | hno
    · have ho2 : BestA (cpM m (u : Int) d) o := best_same (cpM_length _ _ _) d (asg_cpM HV.out hd0) (fun a h => cost_cpM HV.out hul h) ho
      have hc2 := cost_cpM (b := d) HV.out hul ho.asg
      obtain ⟨b1, b2⟩ := costN_lt HV.out ho.asg
      have Hl := Lib.hid (intL_length o)
      obtain ⟨c, hc⟩ : ∃ c, costN m o = c := ⟨_, rfl⟩
      rw [hc] at b1 b2 hc2
      have Hc := Lib.hid hc
      have Hc2 := Lib.hid hc2
      have Ho := Lib.hid ho
      have Ho2 := Lib.hid ho2
      have Hs1 : Hid (∀ (p' : Option Addr) (cp' : Nat) (w1 : World), Mat w1 p' m → Calls Try.prog 9 #[.slice p' m.length cp'] w1 fun e w' => Grew w1 w' ∧ ∃ q c', e = .returned (.tuple #[.slice q o.length c', .int .i64 c, .int .i64 0]) ∧ Ints w' q (intL o) ∧ o.length ≤ c') := Lib.hid (fun p' cp' w1 hM => by
        have := solve_ok (cp := cp') hM rfl Hv.out Ho.out
        rw [Hc.out] at this
        exact this)
      have Hs2 : Hid (∀ (p' : Option Addr) (cp' : Nat) (w1 : World), Mat w1 p' (cpM m (u : Int) d) → Calls Try.prog 9 #[.slice p' m.length cp'] w1 fun e w' => Grew w1 w' ∧ ∃ q c', e = .returned (.tuple #[.slice q o.length c', .int .i64 (c + d), .int .i64 0]) ∧ Ints w' q (intL o) ∧ o.length ≤ c') := Lib.hid (fun p' cp' w1 hM => by
        have := solve_ok (cp := cp') hM Hlen.out Hv2.out Ho2.out
        rw [Hc2.out] at this
        exact this)
      clear ho ho2 hc hc2
      go_enter Try.func5, Try.ntmps5
      go_wp2_with (first
        | (go_at_call 13; apply Calls.mono; (with_reducible exact validr_e Hv.out (hM.grew (by (repeat (first | exact Grew.refl _ | refine Grew.over ?_ _ | refine Grew.alloc ?_ _ | refine Grew.drew ?_ | refine Grew.drewN ?_ _)))) rfl); rintro e w' ⟨rfl, x, rfl⟩)
        | (go_at_call 15; apply Calls.mono; (with_reducible exact copied_e (u := u) (hM.grew (by (repeat (first | exact Grew.refl _ | refine Grew.over ?_ _ | refine Grew.alloc ?_ _ | refine Grew.drew ?_ | refine Grew.drewN ?_ _)))) HV.out rfl hd0 hd); rintro e w1 ⟨⟨x1, rfl⟩, q1, co1, rfl, hM2⟩)
        | (go_at_call 13; apply Calls.mono; (with_reducible exact validr_e Hv2.out (hM2.grew (by (repeat (first | exact Grew.refl _ | refine Grew.over ?_ _ | refine Grew.alloc ?_ _ | refine Grew.drew ?_ | refine Grew.drewN ?_ _)))) Hlen.out); rintro e w' ⟨rfl, x, rfl⟩)
        | (go_at_call 9; apply Calls.mono; (with_reducible exact Hs1.out _ _ _ (hM.grew (by (repeat (first | exact Grew.refl _ | refine Grew.over ?_ _ | refine Grew.alloc ?_ _ | refine Grew.drew ?_ | refine Grew.drewN ?_ _))))); rintro e w' ⟨⟨x2, rfl⟩, q2, cap2, rfl, hI2, hcap2⟩)
        | (go_at_call 9; apply Calls.mono; (with_reducible exact Hs2.out _ _ _ (hM2.grew (by (repeat (first | exact Grew.refl _ | refine Grew.over ?_ _ | refine Grew.alloc ?_ _ | refine Grew.drew ?_ | refine Grew.drewN ?_ _))))); rintro e w' ⟨⟨x3, rfl⟩, q3, cap3, rfl, hI3, hcap3⟩)
        | (go_at_call 11; apply Calls.mono; (with_reducible exact same_e rfl (hI2.grew (by (repeat (first | exact Grew.refl _ | refine Grew.over ?_ _ | refine Grew.alloc ?_ _ | refine Grew.drew ?_ | refine Grew.drewN ?_ _)))) (hI3.grew (by (repeat (first | exact Grew.refl _ | refine Grew.over ?_ _ | refine Grew.alloc ?_ _ | refine Grew.drew ?_ | refine Grew.drewN ?_ _)))) Hl.out Hl.out); rintro e w' ⟨rfl, x, rfl⟩)
        | (go_at_call 8; apply Calls.mono; (with_reducible exact awake_l _); rintro e w' ⟨rfl, x, rfl⟩))
      go_ret
      exact ⟨rfl, by (repeat (first | exact Grew.refl _ | refine Grew.over ?_ _ | refine Grew.alloc ?_ _ | refine Grew.drew ?_ | refine Grew.drewN ?_ _))⟩
    · have Hno := Lib.hid hno
      have Hno2 : Hid (∀ a, ¬ Asg (cpM m (u : Int) d) a) := Lib.hid (fun a ha => Hno.out a ((asg_cpM HV.out hd0 a).1 ha))
      clear hno
      go_enter Try.func5, Try.ntmps5
      go_wp2_with (first
        | (go_at_call 13; apply Calls.mono; (with_reducible exact validr_e Hv.out (hM.grew (by (repeat (first | exact Grew.refl _ | refine Grew.over ?_ _ | refine Grew.alloc ?_ _ | refine Grew.drew ?_ | refine Grew.drewN ?_ _)))) rfl); rintro e w' ⟨rfl, x, rfl⟩)
        | (go_at_call 15; apply Calls.mono; (with_reducible exact copied_e (u := u) (hM.grew (by (repeat (first | exact Grew.refl _ | refine Grew.over ?_ _ | refine Grew.alloc ?_ _ | refine Grew.drew ?_ | refine Grew.drewN ?_ _)))) HV.out rfl hd0 hd); rintro e w1 ⟨⟨x1, rfl⟩, q1, co1, rfl, hM2⟩)
        | (go_at_call 13; apply Calls.mono; (with_reducible exact validr_e Hv2.out (hM2.grew (by (repeat (first | exact Grew.refl _ | refine Grew.over ?_ _ | refine Grew.alloc ?_ _ | refine Grew.drew ?_ | refine Grew.drewN ?_ _)))) Hlen.out); rintro e w' ⟨rfl, x, rfl⟩)
        | (go_at_call 9; apply Calls.mono; (with_reducible exact solve_no (hM.grew (by (repeat (first | exact Grew.refl _ | refine Grew.over ?_ _ | refine Grew.alloc ?_ _ | refine Grew.drew ?_ | refine Grew.drewN ?_ _)))) rfl Hv.out Hno.out); rintro e w' ⟨rfl, x, rfl⟩)
        | (go_at_call 9; apply Calls.mono; (with_reducible exact solve_no (hM2.grew (by (repeat (first | exact Grew.refl _ | refine Grew.over ?_ _ | refine Grew.alloc ?_ _ | refine Grew.drew ?_ | refine Grew.drewN ?_ _)))) Hlen.out Hv2.out Hno2.out); rintro e w' ⟨rfl, x, rfl⟩)
        | (go_at_call 11; apply Calls.mono; (with_reducible exact same_e rfl (Ints.nil _ _) (Ints.nil _ _) rfl rfl); rintro e w' ⟨rfl, x, rfl⟩)
        | (go_at_call 8; apply Calls.mono; (with_reducible exact awake_l _); rintro e w' ⟨rfl, x, rfl⟩))
      go_ret
      exact ⟨rfl, by (repeat (first | exact Grew.refl _ | refine Grew.over ?_ _ | refine Grew.alloc ?_ _ | refine Grew.drew ?_ | refine Grew.drewN ?_ _))⟩
end Go.Proofs.Ytjodkhcgibabpaa
