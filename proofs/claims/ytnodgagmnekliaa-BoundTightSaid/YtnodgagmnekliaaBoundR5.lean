/- Contract of the reference: best. -/
import Derived.Test.YtnodgagmnekliaaBoundR4
import Derived.Test.YtnodgagmnekliaaOwn
set_option linter.unusedSimpArgs false
set_option linter.unusedVariables false
namespace Go.Proofs.Ytnodgagmnekliaa
open Go.RowKit

def intL (l : List Nat) : List Int := l.map Int.ofNat
theorem intL_length (l : List Nat) : (intL l).length = l.length := by simp [intL]
theorem natL_intL (l : List Nat) : natL (intL l) = l := by
  unfold natL intL
  induction l with
  | nil => rfl
  | cons x l ih => simp [ih]
theorem intL_natL {l : List Int} (h : ∀ x ∈ l, 0 ≤ x) : intL (natL l) = l := by
  unfold natL intL
  induction l with
  | nil => rfl
  | cons x l ih =>
    have := h x List.mem_cons_self
    simp only [List.map_cons]
    rw [ih (fun y hy => h y (List.mem_cons_of_mem _ hy))]
    congr 1
    show ((x.toNat : Nat) : Int) = x
    omega
theorem natL_append (a b : List Int) : natL (a ++ b) = natL a ++ natL b := by simp [natL]
theorem natL_mem {xs : List Int} (h : ∀ x ∈ xs, 0 ≤ x) (v : Nat) : (natL xs).contains v = decide ((v : Int) ∈ xs) := by
  rw [Bool.eq_iff_iff]
  simp only [List.contains_eq_mem, decide_eq_true_eq, natL, List.mem_map]
  constructor
  · rintro ⟨x, hx, rfl⟩
    rw [show ((x.toNat : Nat) : Int) = x by have := h x hx; omega]
    exact hx
  · intro hv
    exact ⟨_, hv, by simp⟩

/-- The best of the first j elements at the next place. -/
def foldN (n : Nat) (c : Nat → Nat → Int) (k : Nat) (l : List Nat) (j : Nat) : Option (List Nat × Int) :=
  (List.range j).foldl (fun s v => if l.contains v then s else updO s (bestF n c k (l ++ [v]))) none
theorem foldN_all (n : Nat) (c : Nat → Nat → Int) (k : Nat) (l : List Nat) : foldN n c k l n = bestF n c (k + 1) l := by
  rw [bestF_succ]
  unfold foldN left
  rw [List.foldl_filter]
  congr 1
  funext s v
  cases l.contains v <;> simp
theorem foldN_succ (n : Nat) (c : Nat → Nat → Int) (k : Nat) (l : List Nat) (j : Nat) :
    foldN n c k l (j + 1) = if l.contains j then foldN n c k l j else updO (foldN n c k l j) (bestF n c k (l ++ [j])) := by
  unfold foldN
  rw [List.range_succ, List.foldl_append]
  rfl

/-- A slice value reads as a list of numbers from 0 on. -/
def Reads (w : World) (v : Value) (o : List Nat) : Prop := ∃ q cap, v = .slice q o.length cap ∧ Ints w q (intL o) ∧ o.length ≤ cap ∧ (q = none → cap = 0)
theorem Reads.grew {w w' : World} {v : Value} {o : List Nat} (h : Reads w v o) (hg : Grew w w') : Reads w' v o := by
  obtain ⟨q, cap, h1, h2, h3⟩ := h
  exact ⟨q, cap, h1, h2.grew hg, h3⟩

/-- The variables of the search hold the best so far. -/
def BState (s : Option (List Nat × Int)) (v6 v7 : Value) (w : World) : Prop :=
  (s = none ∧ v6 = .slice none 0 0 ∧ v7 = .int .i64 (-1)) ∨ (∃ o c, s = some (o, c) ∧ 0 ≤ c ∧ c ≤ 64000000 ∧ v7 = .int .i64 c ∧ Reads w v6 o)
theorem BState.grew {s : Option (List Nat × Int)} {v6 v7 : Value} {w w' : World} (h : BState s v6 v7 w) (hg : Grew w w') : BState s v6 v7 w' := by
  rcases h with h | ⟨o, c, h1, h2, h3, h4, h5⟩
  · exact Or.inl h
  · exact Or.inr ⟨o, c, h1, h2, h3, h4, h5.grew hg⟩

def BestPost (m : List (List Int)) (k : Nat) (l : List Nat) (w : World) (e : Ending) (w' : World) : Prop :=
  ∃ o c v, bestF m.length (at2 m) k l = some (o, c) ∧ 0 ≤ c ∧ c ≤ 64000000 ∧ e = .returned (.tuple #[v, .int .i64 c]) ∧ Reads w' v o ∧ Grew w w'

theorem sound_bd {m : List (List Int)} (hv : vMat m) {k : Nat} {l : List Nat} (hl : ∀ x ∈ l, x < m.length) (hk : (left m.length l).length = k) (hlen : l.length + k = m.length) {o : List Nat} {c : Int}
    (h : bestF m.length (at2 m) k l = some (o, c)) : 0 ≤ c ∧ c ≤ 64000000 := by
  obtain ⟨⟨r, h1, h2⟩, h3⟩ := bestF_sound m.length (at2 m) k l hk (o, c) h
  simp only at h1 h3
  have hmem : ∀ x ∈ o, x < m.length := by
    intro x hx
    rw [h1] at hx
    rcases List.mem_append.1 hx with hx | hx
    · exact hl x hx
    · have := h2.mem_iff.1 hx
      simp [left] at this
      exact this.1
  have hlo : o.length = m.length := by
    rw [h1, List.length_append, h2.length_eq, hk]
    exact hlen
  have h8 := hv.1
  have := costL_bd (c := at2 m) (l := o) (fun x hx y hy => (hv.2 x (hmem x hx)).2 y (hmem y hy)) (by omega)
  rw [h3]
  omega

set_option maxHeartbeats 4000000 in
theorem best_r (m : List (List Int)) (hV : vMat m) : ∀ (k : Nat) (p q : Option Addr) (cp nq cq : Nat) (xs : List Int) (w : World), xs.length = nq → Mat w p m → Ints w q xs → (∀ x ∈ xs, 0 ≤ x ∧ x < (m.length : Int)) → xs.length ≤ cq → (q = none → cq = 0) →
    (left m.length (natL xs)).length = k → xs.length + k = m.length →
    Calls Try.prog 21 #[.slice p m.length cp, .slice q nq cq] w (BestPost m k (natL xs) w) := by
  intro k
  have h8 := hV.1
  have HV := Lib.hid hV
  clear hV
  induction k with
  | zero =>
    intro p q cp nq cq xs w hnq hM hx hr hcap hnil hk hlen
    subst hnq
    have hl : ((xs.length : Int) == (m.length : Int)) = true := by rw [beq_iff_eq]; omega
    have hx8 : xs.length ≤ 8 := by omega
    have Hr := Lib.hid hr
    have Hb := Lib.hid (sound_bd HV.out (k := 0) (l := natL xs) (fun x hx => by
      obtain ⟨y, hy, rfl⟩ := List.mem_map.1 hx
      have := Hr.out y hy
      omega) hk (by rw [natL_length]; exact hlen) rfl)
    have Hnil := Lib.hid hnil
    clear hr hlen hk hnil
    go_enter Try.func21, Try.ntmps21
    go_wp2_with ((go_at_call 23; apply Calls.mono; (with_reducible exact sum_r _ _ _ _ _ _ _ _ _ hM HV.out hx rfl rfl Hr.out hx8); rintro e w' ⟨rfl, x, rfl⟩))
    go_ret2
    refine ⟨natL xs, costL (at2 m) (natL xs), .slice q xs.length cq, rfl, Hb.out.1, Hb.out.2, rfl, ?_, ?_⟩
    · refine ⟨q, cq, by rw [natL_length], ?_, by rw [natL_length]; exact hcap, Hnil.out⟩
      rw [intL_natL (fun x hx => (Hr.out x hx).1)]
      exact hx.grew (by (repeat (first | exact Grew.refl _ | refine Grew.over ?_ _ | refine Grew.alloc ?_ _ | refine Grew.drew ?_ | refine Grew.drewN ?_ _)))
    · (repeat (first | exact Grew.refl _ | refine Grew.over ?_ _ | refine Grew.alloc ?_ _ | refine Grew.drew ?_ | refine Grew.drewN ?_ _))
  | succ k ih =>
    intro p q cp nq cq xs w hnq hM hx hr hcap hnil hk hlen
    subst hnq
    have hl : ((xs.length : Int) == (m.length : Int)) = false := by rw [beq_eq_false_iff_ne]; omega
    have hx8 : xs.length ≤ 8 := by omega
    have Hih := Lib.hid ih
    have Hr := Lib.hid hr
    have Hk := Lib.hid hk
    have Hlen := Lib.hid hlen
    have Hnil := Lib.hid hnil
    clear hr hlen hk hnil ih
    go_enter Try.func21, Try.ntmps21
    go_wp2
    go_loopw [6, 7, 8] (fun v6 v7 i wr => ∃ j : Nat, j ≤ m.length ∧ i = .int .i64 j ∧ BState (foldN m.length (at2 m) k (natL xs) j) v6 v7 wr ∧ Grew w wr) (fun _ _ i _ => m.length - (intOf i).toNat)
    case atStart => exact ⟨0, Nat.zero_le _, rfl, Or.inl ⟨rfl, rfl, rfl⟩, Grew.refl w⟩
    case round =>
      obtain ⟨j, hj, rfl, hst, x, rfl⟩ := hrel
      have Hst := Lib.hid hst
      clear hst
      by_cases hlt : j < m.length
      · by_cases hin : decide ((j : Int) ∈ xs) = true
        · have Hin := Lib.hid hin
          clear hin
          go_wp2_with ((go_at_call 22; apply Calls.mono; (with_reducible exact in_e Hin.out (hx.grew (by (repeat (first | exact Grew.refl _ | refine Grew.over ?_ _ | refine Grew.alloc ?_ _ | refine Grew.drew ?_ | refine Grew.drewN ?_ _)))) rfl); rintro e w' ⟨rfl, rfl⟩))
          go_roundw
          case rel =>
            refine ⟨j + 1, by omega, by go_num, ?_, ?_⟩
            · rw [foldN_succ, natL_mem (fun x hx => (Hr.out x hx).1), Hin.out]
              exact Hst.out
            · (repeat (first | exact Grew.refl _ | refine Grew.over ?_ _ | refine Grew.alloc ?_ _ | refine Grew.drew ?_ | refine Grew.drewN ?_ _))
          case measure => simp [intOf]; omega
        · have Hin := Lib.hid (show decide ((j : Int) ∈ xs) = false by simpa using hin)
          clear hin
          have hw : ∀ x ∈ xs ++ [(j : Int)], 0 ≤ x ∧ x < (m.length : Int) := by
            intro x hx
            rcases List.mem_append.1 hx with h | h
            · exact Hr.out x h
            · simp at h; omega
          have Hw := Lib.hid hw
          have Hw2 : Hid (∀ x ∈ xs ++ [(j : Int)], -9223372036854775808 ≤ x ∧ x ≤ 9223372036854775807) := Lib.hid (fun x hx => by
            have := Hw.out x hx
            omega)
          have hjl : j ∈ left m.length (natL xs) := by
            have h0 := natL_mem (fun x hx => (Hr.out x hx).1) j
            rw [Hin.out] at h0
            unfold left
            rw [List.mem_filter]
            exact ⟨by simpa using hlt, by rw [h0]; rfl⟩
          have hkk : (left m.length (natL (xs ++ [(j : Int)]))).length = k := by
            rw [natL_append]
            exact left_len Hk.out (by simpa [natL] using hjl)
          have Hkk := Lib.hid hkk
          have Hll : Hid ((xs ++ [(j : Int)]).length + k = m.length) := Lib.hid (by
            have := Hlen.out
            simp
            omega)
          have Hln : Hid ((xs ++ [(j : Int)]).length = xs.length + 1) := Lib.hid (by simp)
          have Hfold : Hid (foldN m.length (at2 m) k (natL xs) (j + 1) = updO (foldN m.length (at2 m) k (natL xs) j) (bestF m.length (at2 m) k (natL (xs ++ [(j : Int)])))) := Lib.hid (by
            rw [foldN_succ, natL_mem (fun x hx => (Hr.out x hx).1), Hin.out, natL_append]
            rfl)
          clear hw hkk hjl
          rcases Hst.out with ⟨hs, rfl, rfl⟩ | ⟨o0, c0, hs, hc0, hc1, rfl, hrd0⟩
          · have Hs := Lib.hid hs
            clear hs
            go_wp2_with (first
              | (go_at_call 22; apply Calls.mono; (with_reducible exact in_e Hin.out (hx.grew (by (repeat (first | exact Grew.refl _ | refine Grew.over ?_ _ | refine Grew.alloc ?_ _ | refine Grew.drew ?_ | refine Grew.drewN ?_ _)))) rfl); rintro e w' ⟨rfl, rfl⟩)
              | (at_builtin; refine wp_append_ints rfl _ _ rfl (over w x) (by (repeat (first | exact Grew.refl _ | refine Grew.over ?_ _ | refine Grew.alloc ?_ _ | refine Grew.drew ?_ | refine Grew.drewN ?_ _))) _ [] xs rfl (Own.empty _ _ _ (by simp) (by simp)) q _ cq rfl (hx.grew (by (repeat (first | exact Grew.refl _ | refine Grew.over ?_ _ | refine Grew.alloc ?_ _ | refine Grew.drew ?_ | refine Grew.drewN ?_ _)))) rfl Hnil.out (by simp; omega) ?_; intro v1 x1 hown1 _)
              | (at_builtin; refine wp_append_ints rfl _ _ rfl (over w x) (by (repeat (first | exact Grew.refl _ | refine Grew.over ?_ _ | refine Grew.alloc ?_ _ | refine Grew.drew ?_ | refine Grew.drewN ?_ _))) _ _ [(j : Int)] rfl (Own.grew hown1 (by (repeat (first | exact Grew.refl _ | refine Grew.over ?_ _ | refine Grew.alloc ?_ _ | refine Grew.drew ?_ | refine Grew.drewN ?_ _)))) _ 1 1 rfl (Ints.one _ _ _ _ (by simp) ⟨by omega, by omega⟩) rfl (by simp) (by simp; omega) ?_; intro v2 x2 hown2 _; clear hown1; simp only [List.nil_append] at hown2; obtain ⟨p2, cap2, rfl, hc2, hn2, hI2⟩ := hown2.ints Hw2.out)
              | (go_at_call 21; apply Calls.mono; (with_reducible exact Hih.out _ _ _ _ _ _ _ Hln.out (hM.grew (by (repeat (first | exact Grew.refl _ | refine Grew.over ?_ _ | refine Grew.alloc ?_ _ | refine Grew.drew ?_ | refine Grew.drewN ?_ _)))) hI2 Hw.out hc2 hn2 Hkk.out Hll.out); rintro e w' ⟨o, c, v, hb, hb1, hb2, rfl, hrd, x3, rfl⟩; have Hb := Lib.hid hb; clear hb))
            go_roundw
            case rel =>
              refine ⟨j + 1, by omega, by go_num, ?_, ?_⟩
              · rw [Hfold.out, Hb.out, Hs.out]
                exact Or.inr ⟨o, c, rfl, hb1, hb2, rfl, hrd⟩
              · (repeat (first | exact Grew.refl _ | refine Grew.over ?_ _ | refine Grew.alloc ?_ _ | refine Grew.drew ?_ | refine Grew.drewN ?_ _))
            case measure => simp [intOf]; omega
          · have Hs := Lib.hid hs
            clear hs
            go_wp2_with (first
              | (go_at_call 22; apply Calls.mono; (with_reducible exact in_e Hin.out (hx.grew (by (repeat (first | exact Grew.refl _ | refine Grew.over ?_ _ | refine Grew.alloc ?_ _ | refine Grew.drew ?_ | refine Grew.drewN ?_ _)))) rfl); rintro e w' ⟨rfl, rfl⟩)
              | (at_builtin; refine wp_append_ints rfl _ _ rfl (over w x) (by (repeat (first | exact Grew.refl _ | refine Grew.over ?_ _ | refine Grew.alloc ?_ _ | refine Grew.drew ?_ | refine Grew.drewN ?_ _))) _ [] xs rfl (Own.empty _ _ _ (by simp) (by simp)) q _ cq rfl (hx.grew (by (repeat (first | exact Grew.refl _ | refine Grew.over ?_ _ | refine Grew.alloc ?_ _ | refine Grew.drew ?_ | refine Grew.drewN ?_ _)))) rfl Hnil.out (by simp; omega) ?_; intro v1 x1 hown1 _)
              | (at_builtin; refine wp_append_ints rfl _ _ rfl (over w x) (by (repeat (first | exact Grew.refl _ | refine Grew.over ?_ _ | refine Grew.alloc ?_ _ | refine Grew.drew ?_ | refine Grew.drewN ?_ _))) _ _ [(j : Int)] rfl (Own.grew hown1 (by (repeat (first | exact Grew.refl _ | refine Grew.over ?_ _ | refine Grew.alloc ?_ _ | refine Grew.drew ?_ | refine Grew.drewN ?_ _)))) _ 1 1 rfl (Ints.one _ _ _ _ (by simp) ⟨by omega, by omega⟩) rfl (by simp) (by simp; omega) ?_; intro v2 x2 hown2 _; clear hown1; simp only [List.nil_append] at hown2; obtain ⟨p2, cap2, rfl, hc2, hn2, hI2⟩ := hown2.ints Hw2.out)
              | (go_at_call 21; apply Calls.mono; (with_reducible exact Hih.out _ _ _ _ _ _ _ Hln.out (hM.grew (by (repeat (first | exact Grew.refl _ | refine Grew.over ?_ _ | refine Grew.alloc ?_ _ | refine Grew.drew ?_ | refine Grew.drewN ?_ _)))) hI2 Hw.out hc2 hn2 Hkk.out Hll.out); rintro e w' ⟨o, c, v, hb, hb1, hb2, rfl, hrd, x3, rfl⟩; have Hb := Lib.hid hb; clear hb))
            all_goals
              go_roundw
              case rel =>
                refine ⟨j + 1, by omega, by go_num, ?_, ?_⟩
                · rw [Hfold.out, Hb.out, Hs.out]
                  first
                  | exact Or.inr ⟨o, c, if_pos (by omega), hb1, hb2, rfl, hrd⟩
                  | (refine Or.inr ⟨o0, c0, if_neg ?_, hc0, hc1, rfl, hrd0.grew ?_⟩
                     · omega
                     · (repeat (first | exact Grew.refl _ | refine Grew.over ?_ _ | refine Grew.alloc ?_ _ | refine Grew.drew ?_ | refine Grew.drewN ?_ _)))
                · (repeat (first | exact Grew.refl _ | refine Grew.over ?_ _ | refine Grew.alloc ?_ _ | refine Grew.drew ?_ | refine Grew.drewN ?_ _))
              case measure => simp [intOf]; omega
      · have hj2 : j = m.length := by omega
        have Hall : Hid (foldN m.length (at2 m) k (natL xs) j = bestF m.length (at2 m) (k + 1) (natL xs)) := Lib.hid (by rw [hj2, foldN_all])
        have Hsome := Lib.hid (bestF_some m.length (at2 m) (k + 1) (natL xs) Hk.out)
        clear hj2
        rcases Hst.out with ⟨hs, rfl, rfl⟩ | ⟨o0, c0, hs, hc0, hc1, rfl, hrd0⟩
        · exfalso
          have h1 := Hall.out
          have h2 := Hsome.out
          rw [hs] at h1
          rw [← h1] at h2
          cases h2
        · have Hs := Lib.hid hs
          clear hs
          go_wp2
          go_ret2
          refine ⟨o0, c0, _, by rw [← Hall.out]; exact Hs.out, hc0, hc1, rfl, hrd0, ?_⟩
          (repeat (first | exact Grew.refl _ | refine Grew.over ?_ _ | refine Grew.alloc ?_ _ | refine Grew.drew ?_ | refine Grew.drewN ?_ _))

end Go.Proofs.Ytnodgagmnekliaa
