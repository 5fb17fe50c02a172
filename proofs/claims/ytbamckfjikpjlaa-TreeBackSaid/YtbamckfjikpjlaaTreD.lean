/- visit: all statements in preorder, with whatever closure over one captured variable. -/
import Derived.Test.YtbamckfjikpjlaaTreC
set_option linter.unusedSimpArgs false
set_option linter.unusedVariables false
namespace Go.Proofs.Ytbamckfjikpjlaa
open Go.RowKit
attribute [local go_sem ↓] Go.wp_at_zero Go.wp_at_succ

theorem Gr.comp {X X' : Nat → Prop} {a b c : World} (h : Gr X a b) (hx : ∀ k, X' k → X k ∨ a.heap.size ≤ k) (h' : Gr X' b c) : Gr X a c := by
  refine ⟨h'.os.trans h.os, h'.tape.trans h.tape, h'.output.trans h.output, Nat.le_trans h.size h'.size, fun k hk hn => ?_⟩
  rw [h'.block k (Nat.lt_of_lt_of_le hk h.size) (fun e => ?_)]
  · exact h.block k hk hn
  · rcases hx k e with h1 | h1
    · exact hn h1
    · omega
theorem Grew.gr {X : Nat → Prop} {a b c : World} (h : Grew a b) (hx : ∀ k, X k → a.heap.size ≤ k) (h' : Gr X b c) : Grew a c :=
  (Gr.comp (X := fun _ => False) (Gr.of_grew _ h) (fun k hk => Or.inr (hx k hk)) h').grew

theorem comp_x {X X' X2 : Nat → Prop} {a b : Nat} (h : ∀ k, X' k → X k ∨ a ≤ k) (h2 : ∀ k, X2 k → X' k ∨ b ≤ k) (hab : a ≤ b) : ∀ k, X2 k → X k ∨ a ≤ k := fun k hk => by
  rcases h2 k hk with h3 | h3
  · exact h k h3
  · right; omega
theorem app4 {α : Type} (a b : List α) (x : α) (c : List α) : a ++ (b ++ (x :: c)) = a ++ b ++ [x] ++ c := by simp
/-- What a closure may do at a statement: go on, or stop. -/
def Went (Inv : List (St × Nat) → (Nat → Prop) → World → Prop) (Stop : List (St × Nat) → World → Prop) (X : Nat → Prop) (done : List (St × Nat)) (more : List (St × Nat)) (W : World) (e : Ending) (w' : World) : Prop :=
  (e = .returned (.bool true) ∧ ∃ X', Inv (done ++ more) X' w' ∧ Gr X W w' ∧ (∀ k, X' k → X k ∨ W.heap.size ≤ k)) ∨
  (e = .returned (.bool false) ∧ (∃ a b, a <+: more ∧ a ≠ [] ∧ b = done ++ a ∧ Stop b w') ∧ Gr X W w')

theorem pre_split {l : List St} {k : Nat} {kd : Int} {nm : ByteArray} {rs ats : List P2} {bd : List St} (h : l[k]? = some (.mk kd nm rs ats bd)) (lv : Nat) :
    ∃ rest, pre l lv = pre (l.take k) lv ++ ((.mk kd nm rs ats bd, lv) :: (pre bd (inn kd lv) ++ rest)) := by
  obtain ⟨h1, h2⟩ := List.getElem?_eq_some_iff.1 h
  have e : l = l.take k ++ (St.mk kd nm rs ats bd :: l.drop (k + 1)) := by
    rw [← h2, ← List.drop_eq_getElem_cons h1, List.take_append_drop]
  refine ⟨pre (l.drop (k + 1)) lv, ?_⟩
  conv => lhs; rw [e]
  rw [pre_app]
  simp only [pre]
theorem pre_next {l : List St} {k : Nat} {kd : Int} {nm : ByteArray} {rs ats : List P2} {bd : List St} (h : l[k]? = some (.mk kd nm rs ats bd)) (lv : Nat) :
    pre (l.take (k + 1)) lv = pre (l.take k) lv ++ ((.mk kd nm rs ats bd, lv) :: pre bd (inn kd lv)) := by
  rw [take_snoc' h, pre_app, pre_one]
theorem tot_here {done tot : List (St × Nat)} {l : List St} {k : Nat} {kd : Int} {nm : ByteArray} {rs ats : List P2} {bd : List St} {lv : Nat} (h : l[k]? = some (.mk kd nm rs ats bd)) (ht : done ++ pre l lv <+: tot) :
    done ++ pre (l.take k) lv ++ [(.mk kd nm rs ats bd, lv)] <+: tot := by
  obtain ⟨rest, hr⟩ := pre_split h lv
  obtain ⟨z, hz⟩ := ht
  rw [← hz, hr]
  exact ⟨pre bd (inn kd lv) ++ rest ++ z, by simp⟩
theorem tot_body {done tot : List (St × Nat)} {l : List St} {k : Nat} {kd : Int} {nm : ByteArray} {rs ats : List P2} {bd : List St} {lv : Nat} (h : l[k]? = some (.mk kd nm rs ats bd)) (ht : done ++ pre l lv <+: tot) :
    done ++ pre (l.take k) lv ++ [(.mk kd nm rs ats bd, lv)] ++ pre bd (inn kd lv) <+: tot := by
  obtain ⟨rest, hr⟩ := pre_split h lv
  obtain ⟨z, hz⟩ := ht
  rw [← hz, hr]
  exact ⟨rest ++ z, by simp⟩
/-- Stopped at the statement itself, or in its body. -/
theorem stop_here {Stop : List (St × Nat) → World → Prop} {done : List (St × Nat)} {l : List St} {k : Nat} {kd : Int} {nm : ByteArray} {rs ats : List P2} {bd : List St} {lv : Nat} {w : World}
    (h : l[k]? = some (.mk kd nm rs ats bd)) (hs : ∃ a b, a <+: [(St.mk kd nm rs ats bd, lv)] ∧ a ≠ [] ∧ b = done ++ pre (l.take k) lv ++ a ∧ Stop b w) :
    ∃ a b, a <+: pre l lv ∧ a ≠ [] ∧ b = done ++ a ∧ Stop b w := by
  obtain ⟨a, b, ha, hn, rfl, hs⟩ := hs
  obtain ⟨rest, hr⟩ := pre_split h lv
  refine ⟨pre (l.take k) lv ++ a, _, ?_, by simp [hn], rfl, by rw [← List.append_assoc]; exact hs⟩
  obtain ⟨z, hz⟩ := ha
  rw [hr]
  exact ⟨z ++ (pre bd (inn kd lv) ++ rest), by rw [← List.append_assoc, List.append_assoc (pre (l.take k) lv), hz]; simp⟩
theorem stop_body {Stop : List (St × Nat) → World → Prop} {done : List (St × Nat)} {l : List St} {k : Nat} {kd : Int} {nm : ByteArray} {rs ats : List P2} {bd : List St} {lv : Nat} {w : World}
    (h : l[k]? = some (.mk kd nm rs ats bd)) (hs : ∃ a b, a <+: pre bd (inn kd lv) ∧ a ≠ [] ∧ b = done ++ pre (l.take k) lv ++ [(St.mk kd nm rs ats bd, lv)] ++ a ∧ Stop b w) :
    ∃ a b, a <+: pre l lv ∧ a ≠ [] ∧ b = done ++ a ∧ Stop b w := by
  obtain ⟨a, b, ha, hn, rfl, hs⟩ := hs
  obtain ⟨rest, hr⟩ := pre_split h lv
  refine ⟨pre (l.take k) lv ++ [(St.mk kd nm rs ats bd, lv)] ++ a, _, ?_, by simp [hn], rfl, by simpa using hs⟩
  obtain ⟨z, hz⟩ := ha
  rw [hr, ← hz]
  exact ⟨z ++ rest, by simp⟩

set_option maxHeartbeats 4000000 in
theorem visit_count (cv : Value) (w0 : World) (Inv : List (St × Nat) → (Nat → Prop) → World → Prop) (Stop : List (St × Nat) → World → Prop) (tot : List (St × Nat))
    (hG : ∀ done X W W', Inv done X W → Grew W W' → Inv done X W') (hX : ∀ done X W, Inv done X W → ∀ k, X k → w0.heap.size ≤ k ∧ k < W.heap.size)
    (hF : ∀ (done : List (St × Nat)) (X : Nat → Prop) (W : World) (m lv : Nat) (k : Int) (nm : ByteArray) (rs ats : List P2) (bd : List St) (rp : Option Addr) (rc : Nat) (ap : Option Addr) (ac : Nat) (bp : Option Addr) (bc : Nat),
      lv ≤ 1000 → done ++ [(.mk k nm rs ats bd, lv)] <+: tot → Inv done X W → Grew w0 W → (Lit.int .i64 k).wf = true → nm.size ≤ maxLen → P2s W rp rc rs → P2s W ap ac ats → Sts m W bp bc bd →
      Calls Try.prog 41 #[.agg #[.int .i64 k, .string nm, .slice rp rs.length rc, .slice ap ats.length ac, .slice bp bd.length bc], .int .i64 lv, cv] W (Went Inv Stop X done [(.mk k nm rs ats bd, lv)] W)) :
    ∀ (n : Nat) (p : Option Addr) (m cap : Nat) (l : List St) (lv : Nat) (done : List (St × Nat)) (X : Nat → Prop) (W : World) (_ : Sts n w0 p cap l) (_ : l.length = m) (_ : lv + n ≤ 1000) (_ : done ++ pre l lv <+: tot) (_ : Grew w0 W) (_ : Inv done X W),
    Calls Try.prog 28 #[.slice p m cap, .int .i64 lv, .func (.func 41) #[] #[cv]] W (Went Inv Stop X done (pre l lv) W) := by
  intro n
  induction n using Nat.strongRecOn with
  | ind n ih =>
  intro p m cap l lv done X W hS hm hlv htot hg0 hI
  subst hm
  have hml := hS.1
  have hmc := len_lt hS
  have HS := Lib.hid hS
  have Ih := Lib.hid ih
  have Htot := Lib.hid htot
  have HF := Lib.hid hF
  have HG := Lib.hid hG
  have HX := Lib.hid hX
  have Hg0 := Lib.hid hg0
  have HI := Lib.hid hI
  clear ih hS hF hG hX hg0 hI htot
  go_enter Try.func28, Try.ntmps28
  go_wp2
  go_loopw [6, 8, 9, 12] (fun _ _ _ i wr => ∃ k : Nat, k ≤ l.length ∧ i = .int .i64 k ∧ ∃ X', Inv (done ++ pre (l.take k) lv) X' wr ∧ Gr X W wr ∧ (∀ k, X' k → X k ∨ W.heap.size ≤ k)) (fun _ _ _ i _ => l.length - (intOf i).toNat)
  case atStart => exact ⟨0, Nat.zero_le _, rfl, X, by simp only [List.take_zero, pre, List.append_nil]; exact HG.out _ _ _ _ HI.out (by (repeat (first | exact Grew.refl _ | refine Grew.over ?_ _ | refine Grew.alloc ?_ _ | refine Grew.drew ?_ | refine Grew.drewN ?_ _))), Gr.of_grew _ (by (repeat (first | exact Grew.refl _ | refine Grew.over ?_ _ | refine Grew.alloc ?_ _ | refine Grew.drew ?_ | refine Grew.drewN ?_ _))), fun k hk => Or.inl hk⟩
  case round =>
    obtain ⟨k, hk, rfl, X', hI', hgr, hXX⟩ := hrel
    have HI' := Lib.hid hI'
    have Hgr := Lib.hid hgr
    have HXX := Lib.hid hXX
    have Hg1 := Lib.hid (Hg0.out.gr (fun k hk => (HX.out _ _ _ HI.out k hk).1) hgr)
    clear hI' hgr hXX
    by_cases hlt : k < l.length
    · obtain ⟨b, o, kd, nm, rs, ats, bd, rp, rc, ap, ac, bp, bc, m', hm', rfl, hb, hx, hkw, hnm, c0, c1, c2, c3, c4, hR, hA, hB⟩ := sts_el HS.out hlt
      replace c0 := Hg1.out.cellEq c0
      replace c1 := Hg1.out.cellEq c1
      replace c2 := Hg1.out.cellEq c2
      replace c3 := Hg1.out.cellEq c3
      replace c4 := Hg1.out.cellEq c4
      replace hb := Nat.lt_of_lt_of_le hb Hg1.out.below.size
      have hm1 : m' < n := by omega
      have Hx := Lib.hid hx
      have HB := Lib.hid hB
      have HR := Lib.hid hR
      have HA := Lib.hid hA
      have Hkw := Lib.hid hkw
      have Hnm := Lib.hid hnm
      clear hx hB hR hA hkw hm' hnm
      have hno : ¬ X' wr.heap.size := fun h => by have := (HX.out _ _ _ HI'.out _ h).2; omega
      have Hno := Lib.hid hno
      clear hno
      have Ht1 := Lib.hid (tot_here Hx.out Htot.out)
      have Ht2 := Lib.hid (tot_body Hx.out Htot.out)
      by_cases h5 : kd = 5
      · subst h5
        have e1 : ((lv + 1 : Nat) : Int) = (lv : Int) + 1 := by omega
        have Hin := Lib.hid (show inn 5 lv = lv + 1 from rfl)
        rw [Hin.out] at Ht2
        go_wp2_with (first
          | (go_at_call 28; apply Calls.mono; (rw [← e1]; with_reducible exact Ih.out _ hm1 _ _ _ _ (lv + 1) _ _ _ HB.out rfl (by omega) Ht2.out hgw hi2); intro e w3 hw; (rcases hw with ⟨rfl, X3, hi3, hg3, hx3⟩ | ⟨rfl, hs3, hg3⟩))
          | (go_at_call 41; apply Calls.mono; (with_reducible exact HF.out _ _ _ _ _ _ _ _ _ _ _ _ _ _ _ _ (by omega) Ht1.out (HG.out _ _ _ _ HI'.out (by (repeat (first | exact Grew.refl _ | refine Grew.over ?_ _ | refine Grew.alloc ?_ _ | refine Grew.drew ?_ | refine Grew.drewN ?_ _)))) (Hg1.out.trans (by (repeat (first | exact Grew.refl _ | refine Grew.over ?_ _ | refine Grew.alloc ?_ _ | refine Grew.drew ?_ | refine Grew.drewN ?_ _)))) Hkw.out Hnm.out (HR.out.grew stable_p2 (Hg1.out.trans (by (repeat (first | exact Grew.refl _ | refine Grew.over ?_ _ | refine Grew.alloc ?_ _ | refine Grew.drew ?_ | refine Grew.drewN ?_ _))))) (HA.out.grew stable_p2 (Hg1.out.trans (by (repeat (first | exact Grew.refl _ | refine Grew.over ?_ _ | refine Grew.alloc ?_ _ | refine Grew.drew ?_ | refine Grew.drewN ?_ _))))) (HB.out.grew (stable_st _) (Hg1.out.trans (by (repeat (first | exact Grew.refl _ | refine Grew.over ?_ _ | refine Grew.alloc ?_ _ | refine Grew.drew ?_ | refine Grew.drewN ?_ _)))))); intro e w2 hw; (rcases hw with ⟨rfl, X2, hi2, hg2, hx2⟩ | ⟨rfl, hs2, hg2⟩); (try (have hgw := Grew.gr (a := w0) (Hg1.out.trans (by (repeat (first | exact Grew.refl _ | refine Grew.over ?_ _ | refine Grew.alloc ?_ _ | refine Grew.drew ?_ | refine Grew.drewN ?_ _)))) (fun k hk => (HX.out _ _ _ HI'.out k hk).1) hg2; have d0 := (hg2.cell (b := wr.heap.size) (i := 0) (by simp [go_sem]) Hno.out).trans (by simp [go_sem]; rfl); have d4 := (hg2.cell (b := wr.heap.size) (i := 4) (by simp [go_sem]) Hno.out).trans (by simp [go_sem]; rfl)))))
        all_goals first
          | (go_ret
             exact Or.inr ⟨rfl, stop_here Hx.out hs2, Gr.comp (Gr.over Hgr.out (by (repeat (first | exact Grew.refl _ | refine Grew.over ?_ _ | refine Grew.alloc ?_ _ | refine Grew.drew ?_ | refine Grew.drewN ?_ _)))) HXX.out hg2⟩)
          | (go_ret
             have hx2' := comp_x HXX.out hx2 (Nat.le_trans Hgr.out.size (show Grew wr _ from (by (repeat (first | exact Grew.refl _ | refine Grew.over ?_ _ | refine Grew.alloc ?_ _ | refine Grew.drew ?_ | refine Grew.drewN ?_ _)))).below.size)
             exact Or.inr ⟨rfl, stop_body Hx.out (by rw [Hin.out]; exact hs3), Gr.comp (Gr.comp (Gr.over Hgr.out (by (repeat (first | exact Grew.refl _ | refine Grew.over ?_ _ | refine Grew.alloc ?_ _ | refine Grew.drew ?_ | refine Grew.drewN ?_ _)))) HXX.out hg2) hx2' hg3⟩)
          | (have hx2' := comp_x HXX.out hx2 (Nat.le_trans Hgr.out.size (show Grew wr _ from (by (repeat (first | exact Grew.refl _ | refine Grew.over ?_ _ | refine Grew.alloc ?_ _ | refine Grew.drew ?_ | refine Grew.drewN ?_ _)))).below.size)
             have hgr2 := Gr.comp (Gr.over Hgr.out (by (repeat (first | exact Grew.refl _ | refine Grew.over ?_ _ | refine Grew.alloc ?_ _ | refine Grew.drew ?_ | refine Grew.drewN ?_ _)))) HXX.out hg2
             have Hx3 := Lib.hid (comp_x hx2' hx3 hgr2.size)
             have Hgr3 := Lib.hid (Gr.comp hgr2 hx2' hg3)
             have Hi3 := Lib.hid (show Inv (done ++ pre (l.take (k + 1)) lv) X3 w3 by rw [pre_next Hx.out, Hin.out, app4]; exact hi3)
             clear hx2' hgr2 hx3 hg3 hi3 hx2 hg2 hi2 hgw
             go_roundw
             case rel => exact ⟨k + 1, hlt, by go_num, X3, Hi3.out, Hgr3.out, Hx3.out⟩
             case measure => simp [intOf]; omega)
      · have hin : inn kd lv = lv := by unfold inn; rw [if_neg h5]
        have Hin := Lib.hid hin
        rw [hin] at Ht2
        clear hin
        go_wp2_with (first
          | (go_at_call 28; apply Calls.mono; (with_reducible exact Ih.out _ hm1 _ _ _ _ (lv) _ _ _ HB.out rfl (by omega) Ht2.out hgw hi2); intro e w3 hw; (rcases hw with ⟨rfl, X3, hi3, hg3, hx3⟩ | ⟨rfl, hs3, hg3⟩))
          | (go_at_call 41; apply Calls.mono; (with_reducible exact HF.out _ _ _ _ _ _ _ _ _ _ _ _ _ _ _ _ (by omega) Ht1.out (HG.out _ _ _ _ HI'.out (by (repeat (first | exact Grew.refl _ | refine Grew.over ?_ _ | refine Grew.alloc ?_ _ | refine Grew.drew ?_ | refine Grew.drewN ?_ _)))) (Hg1.out.trans (by (repeat (first | exact Grew.refl _ | refine Grew.over ?_ _ | refine Grew.alloc ?_ _ | refine Grew.drew ?_ | refine Grew.drewN ?_ _)))) Hkw.out Hnm.out (HR.out.grew stable_p2 (Hg1.out.trans (by (repeat (first | exact Grew.refl _ | refine Grew.over ?_ _ | refine Grew.alloc ?_ _ | refine Grew.drew ?_ | refine Grew.drewN ?_ _))))) (HA.out.grew stable_p2 (Hg1.out.trans (by (repeat (first | exact Grew.refl _ | refine Grew.over ?_ _ | refine Grew.alloc ?_ _ | refine Grew.drew ?_ | refine Grew.drewN ?_ _))))) (HB.out.grew (stable_st _) (Hg1.out.trans (by (repeat (first | exact Grew.refl _ | refine Grew.over ?_ _ | refine Grew.alloc ?_ _ | refine Grew.drew ?_ | refine Grew.drewN ?_ _)))))); intro e w2 hw; (rcases hw with ⟨rfl, X2, hi2, hg2, hx2⟩ | ⟨rfl, hs2, hg2⟩); (try (have hgw := Grew.gr (a := w0) (Hg1.out.trans (by (repeat (first | exact Grew.refl _ | refine Grew.over ?_ _ | refine Grew.alloc ?_ _ | refine Grew.drew ?_ | refine Grew.drewN ?_ _)))) (fun k hk => (HX.out _ _ _ HI'.out k hk).1) hg2; have d0 := (hg2.cell (b := wr.heap.size) (i := 0) (by simp [go_sem]) Hno.out).trans (by simp [go_sem]; rfl); have d4 := (hg2.cell (b := wr.heap.size) (i := 4) (by simp [go_sem]) Hno.out).trans (by simp [go_sem]; rfl)))))
        all_goals first
          | (go_ret
             exact Or.inr ⟨rfl, stop_here Hx.out hs2, Gr.comp (Gr.over Hgr.out (by (repeat (first | exact Grew.refl _ | refine Grew.over ?_ _ | refine Grew.alloc ?_ _ | refine Grew.drew ?_ | refine Grew.drewN ?_ _)))) HXX.out hg2⟩)
          | (go_ret
             have hx2' := comp_x HXX.out hx2 (Nat.le_trans Hgr.out.size (show Grew wr _ from (by (repeat (first | exact Grew.refl _ | refine Grew.over ?_ _ | refine Grew.alloc ?_ _ | refine Grew.drew ?_ | refine Grew.drewN ?_ _)))).below.size)
             exact Or.inr ⟨rfl, stop_body Hx.out (by rw [Hin.out]; exact hs3), Gr.comp (Gr.comp (Gr.over Hgr.out (by (repeat (first | exact Grew.refl _ | refine Grew.over ?_ _ | refine Grew.alloc ?_ _ | refine Grew.drew ?_ | refine Grew.drewN ?_ _)))) HXX.out hg2) hx2' hg3⟩)
          | (have hx2' := comp_x HXX.out hx2 (Nat.le_trans Hgr.out.size (show Grew wr _ from (by (repeat (first | exact Grew.refl _ | refine Grew.over ?_ _ | refine Grew.alloc ?_ _ | refine Grew.drew ?_ | refine Grew.drewN ?_ _)))).below.size)
             have hgr2 := Gr.comp (Gr.over Hgr.out (by (repeat (first | exact Grew.refl _ | refine Grew.over ?_ _ | refine Grew.alloc ?_ _ | refine Grew.drew ?_ | refine Grew.drewN ?_ _)))) HXX.out hg2
             have Hx3 := Lib.hid (comp_x hx2' hx3 hgr2.size)
             have Hgr3 := Lib.hid (Gr.comp hgr2 hx2' hg3)
             have Hi3 := Lib.hid (show Inv (done ++ pre (l.take (k + 1)) lv) X3 w3 by rw [pre_next Hx.out, Hin.out, app4]; exact hi3)
             clear hx2' hgr2 hx3 hg3 hi3 hx2 hg2 hi2 hgw
             go_roundw
             case rel => exact ⟨k + 1, hlt, by go_num, X3, Hi3.out, Hgr3.out, Hx3.out⟩
             case measure => simp [intOf]; omega)
    · have ht : l.take k = l := List.take_of_length_le (by omega)
      rw [ht] at HI'
      go_wp2
      go_ret
      exact Or.inl ⟨rfl, X', HG.out _ _ _ _ HI'.out (by (repeat (first | exact Grew.refl _ | refine Grew.over ?_ _ | refine Grew.alloc ?_ _ | refine Grew.drew ?_ | refine Grew.drewN ?_ _))), Gr.over Hgr.out (by (repeat (first | exact Grew.refl _ | refine Grew.over ?_ _ | refine Grew.alloc ?_ _ | refine Grew.drew ?_ | refine Grew.drewN ?_ _))), HXX.out⟩
set_option maxHeartbeats 4000000 in
theorem visit_depth (cv : Value) (w0 : World) (Inv : List (St × Nat) → (Nat → Prop) → World → Prop) (Stop : List (St × Nat) → World → Prop) (tot : List (St × Nat))
    (hG : ∀ done X W W', Inv done X W → Grew W W' → Inv done X W') (hX : ∀ done X W, Inv done X W → ∀ k, X k → w0.heap.size ≤ k ∧ k < W.heap.size)
    (hF : ∀ (done : List (St × Nat)) (X : Nat → Prop) (W : World) (m lv : Nat) (k : Int) (nm : ByteArray) (rs ats : List P2) (bd : List St) (rp : Option Addr) (rc : Nat) (ap : Option Addr) (ac : Nat) (bp : Option Addr) (bc : Nat),
      lv ≤ 1000 → done ++ [(.mk k nm rs ats bd, lv)] <+: tot → Inv done X W → Grew w0 W → (Lit.int .i64 k).wf = true → nm.size ≤ maxLen → P2s W rp rc rs → P2s W ap ac ats → Sts m W bp bc bd →
      Calls Try.prog 40 #[.agg #[.int .i64 k, .string nm, .slice rp rs.length rc, .slice ap ats.length ac, .slice bp bd.length bc], .int .i64 lv, cv] W (Went Inv Stop X done [(.mk k nm rs ats bd, lv)] W)) :
    ∀ (n : Nat) (p : Option Addr) (m cap : Nat) (l : List St) (lv : Nat) (done : List (St × Nat)) (X : Nat → Prop) (W : World) (_ : Sts n w0 p cap l) (_ : l.length = m) (_ : lv + n ≤ 1000) (_ : done ++ pre l lv <+: tot) (_ : Grew w0 W) (_ : Inv done X W),
    Calls Try.prog 28 #[.slice p m cap, .int .i64 lv, .func (.func 40) #[] #[cv]] W (Went Inv Stop X done (pre l lv) W) := by
  intro n
  induction n using Nat.strongRecOn with
  | ind n ih =>
  intro p m cap l lv done X W hS hm hlv htot hg0 hI
  subst hm
  have hml := hS.1
  have hmc := len_lt hS
  have HS := Lib.hid hS
  have Ih := Lib.hid ih
  have Htot := Lib.hid htot
  have HF := Lib.hid hF
  have HG := Lib.hid hG
  have HX := Lib.hid hX
  have Hg0 := Lib.hid hg0
  have HI := Lib.hid hI
  clear ih hS hF hG hX hg0 hI htot
  go_enter Try.func28, Try.ntmps28
  go_wp2
  go_loopw [6, 8, 9, 12] (fun _ _ _ i wr => ∃ k : Nat, k ≤ l.length ∧ i = .int .i64 k ∧ ∃ X', Inv (done ++ pre (l.take k) lv) X' wr ∧ Gr X W wr ∧ (∀ k, X' k → X k ∨ W.heap.size ≤ k)) (fun _ _ _ i _ => l.length - (intOf i).toNat)
  case atStart => exact ⟨0, Nat.zero_le _, rfl, X, by simp only [List.take_zero, pre, List.append_nil]; exact HG.out _ _ _ _ HI.out (by (repeat (first | exact Grew.refl _ | refine Grew.over ?_ _ | refine Grew.alloc ?_ _ | refine Grew.drew ?_ | refine Grew.drewN ?_ _))), Gr.of_grew _ (by (repeat (first | exact Grew.refl _ | refine Grew.over ?_ _ | refine Grew.alloc ?_ _ | refine Grew.drew ?_ | refine Grew.drewN ?_ _))), fun k hk => Or.inl hk⟩
  case round =>
    obtain ⟨k, hk, rfl, X', hI', hgr, hXX⟩ := hrel
    have HI' := Lib.hid hI'
    have Hgr := Lib.hid hgr
    have HXX := Lib.hid hXX
    have Hg1 := Lib.hid (Hg0.out.gr (fun k hk => (HX.out _ _ _ HI.out k hk).1) hgr)
    clear hI' hgr hXX
    by_cases hlt : k < l.length
    · obtain ⟨b, o, kd, nm, rs, ats, bd, rp, rc, ap, ac, bp, bc, m', hm', rfl, hb, hx, hkw, hnm, c0, c1, c2, c3, c4, hR, hA, hB⟩ := sts_el HS.out hlt
      replace c0 := Hg1.out.cellEq c0
      replace c1 := Hg1.out.cellEq c1
      replace c2 := Hg1.out.cellEq c2
      replace c3 := Hg1.out.cellEq c3
      replace c4 := Hg1.out.cellEq c4
      replace hb := Nat.lt_of_lt_of_le hb Hg1.out.below.size
      have hm1 : m' < n := by omega
      have Hx := Lib.hid hx
      have HB := Lib.hid hB
      have HR := Lib.hid hR
      have HA := Lib.hid hA
      have Hkw := Lib.hid hkw
      have Hnm := Lib.hid hnm
      clear hx hB hR hA hkw hm' hnm
      have hno : ¬ X' wr.heap.size := fun h => by have := (HX.out _ _ _ HI'.out _ h).2; omega
      have Hno := Lib.hid hno
      clear hno
      have Ht1 := Lib.hid (tot_here Hx.out Htot.out)
      have Ht2 := Lib.hid (tot_body Hx.out Htot.out)
      by_cases h5 : kd = 5
      · subst h5
        have e1 : ((lv + 1 : Nat) : Int) = (lv : Int) + 1 := by omega
        have Hin := Lib.hid (show inn 5 lv = lv + 1 from rfl)
        rw [Hin.out] at Ht2
        go_wp2_with (first
          | (go_at_call 28; apply Calls.mono; (rw [← e1]; with_reducible exact Ih.out _ hm1 _ _ _ _ (lv + 1) _ _ _ HB.out rfl (by omega) Ht2.out hgw hi2); intro e w3 hw; (rcases hw with ⟨rfl, X3, hi3, hg3, hx3⟩ | ⟨rfl, hs3, hg3⟩))
          | (go_at_call 40; apply Calls.mono; (with_reducible exact HF.out _ _ _ _ _ _ _ _ _ _ _ _ _ _ _ _ (by omega) Ht1.out (HG.out _ _ _ _ HI'.out (by (repeat (first | exact Grew.refl _ | refine Grew.over ?_ _ | refine Grew.alloc ?_ _ | refine Grew.drew ?_ | refine Grew.drewN ?_ _)))) (Hg1.out.trans (by (repeat (first | exact Grew.refl _ | refine Grew.over ?_ _ | refine Grew.alloc ?_ _ | refine Grew.drew ?_ | refine Grew.drewN ?_ _)))) Hkw.out Hnm.out (HR.out.grew stable_p2 (Hg1.out.trans (by (repeat (first | exact Grew.refl _ | refine Grew.over ?_ _ | refine Grew.alloc ?_ _ | refine Grew.drew ?_ | refine Grew.drewN ?_ _))))) (HA.out.grew stable_p2 (Hg1.out.trans (by (repeat (first | exact Grew.refl _ | refine Grew.over ?_ _ | refine Grew.alloc ?_ _ | refine Grew.drew ?_ | refine Grew.drewN ?_ _))))) (HB.out.grew (stable_st _) (Hg1.out.trans (by (repeat (first | exact Grew.refl _ | refine Grew.over ?_ _ | refine Grew.alloc ?_ _ | refine Grew.drew ?_ | refine Grew.drewN ?_ _)))))); intro e w2 hw; (rcases hw with ⟨rfl, X2, hi2, hg2, hx2⟩ | ⟨rfl, hs2, hg2⟩); (try (have hgw := Grew.gr (a := w0) (Hg1.out.trans (by (repeat (first | exact Grew.refl _ | refine Grew.over ?_ _ | refine Grew.alloc ?_ _ | refine Grew.drew ?_ | refine Grew.drewN ?_ _)))) (fun k hk => (HX.out _ _ _ HI'.out k hk).1) hg2; have d0 := (hg2.cell (b := wr.heap.size) (i := 0) (by simp [go_sem]) Hno.out).trans (by simp [go_sem]; rfl); have d4 := (hg2.cell (b := wr.heap.size) (i := 4) (by simp [go_sem]) Hno.out).trans (by simp [go_sem]; rfl)))))
        all_goals first
          | (go_ret
             exact Or.inr ⟨rfl, stop_here Hx.out hs2, Gr.comp (Gr.over Hgr.out (by (repeat (first | exact Grew.refl _ | refine Grew.over ?_ _ | refine Grew.alloc ?_ _ | refine Grew.drew ?_ | refine Grew.drewN ?_ _)))) HXX.out hg2⟩)
          | (go_ret
             have hx2' := comp_x HXX.out hx2 (Nat.le_trans Hgr.out.size (show Grew wr _ from (by (repeat (first | exact Grew.refl _ | refine Grew.over ?_ _ | refine Grew.alloc ?_ _ | refine Grew.drew ?_ | refine Grew.drewN ?_ _)))).below.size)
             exact Or.inr ⟨rfl, stop_body Hx.out (by rw [Hin.out]; exact hs3), Gr.comp (Gr.comp (Gr.over Hgr.out (by (repeat (first | exact Grew.refl _ | refine Grew.over ?_ _ | refine Grew.alloc ?_ _ | refine Grew.drew ?_ | refine Grew.drewN ?_ _)))) HXX.out hg2) hx2' hg3⟩)
          | (have hx2' := comp_x HXX.out hx2 (Nat.le_trans Hgr.out.size (show Grew wr _ from (by (repeat (first | exact Grew.refl _ | refine Grew.over ?_ _ | refine Grew.alloc ?_ _ | refine Grew.drew ?_ | refine Grew.drewN ?_ _)))).below.size)
             have hgr2 := Gr.comp (Gr.over Hgr.out (by (repeat (first | exact Grew.refl _ | refine Grew.over ?_ _ | refine Grew.alloc ?_ _ | refine Grew.drew ?_ | refine Grew.drewN ?_ _)))) HXX.out hg2
             have Hx3 := Lib.hid (comp_x hx2' hx3 hgr2.size)
             have Hgr3 := Lib.hid (Gr.comp hgr2 hx2' hg3)
             have Hi3 := Lib.hid (show Inv (done ++ pre (l.take (k + 1)) lv) X3 w3 by rw [pre_next Hx.out, Hin.out, app4]; exact hi3)
             clear hx2' hgr2 hx3 hg3 hi3 hx2 hg2 hi2 hgw
             go_roundw
             case rel => exact ⟨k + 1, hlt, by go_num, X3, Hi3.out, Hgr3.out, Hx3.out⟩
             case measure => simp [intOf]; omega)
      · have hin : inn kd lv = lv := by unfold inn; rw [if_neg h5]
        have Hin := Lib.hid hin
        rw [hin] at Ht2
        clear hin
        go_wp2_with (first
          | (go_at_call 28; apply Calls.mono; (with_reducible exact Ih.out _ hm1 _ _ _ _ (lv) _ _ _ HB.out rfl (by omega) Ht2.out hgw hi2); intro e w3 hw; (rcases hw with ⟨rfl, X3, hi3, hg3, hx3⟩ | ⟨rfl, hs3, hg3⟩))
          | (go_at_call 40; apply Calls.mono; (with_reducible exact HF.out _ _ _ _ _ _ _ _ _ _ _ _ _ _ _ _ (by omega) Ht1.out (HG.out _ _ _ _ HI'.out (by (repeat (first | exact Grew.refl _ | refine Grew.over ?_ _ | refine Grew.alloc ?_ _ | refine Grew.drew ?_ | refine Grew.drewN ?_ _)))) (Hg1.out.trans (by (repeat (first | exact Grew.refl _ | refine Grew.over ?_ _ | refine Grew.alloc ?_ _ | refine Grew.drew ?_ | refine Grew.drewN ?_ _)))) Hkw.out Hnm.out (HR.out.grew stable_p2 (Hg1.out.trans (by (repeat (first | exact Grew.refl _ | refine Grew.over ?_ _ | refine Grew.alloc ?_ _ | refine Grew.drew ?_ | refine Grew.drewN ?_ _))))) (HA.out.grew stable_p2 (Hg1.out.trans (by (repeat (first | exact Grew.refl _ | refine Grew.over ?_ _ | refine Grew.alloc ?_ _ | refine Grew.drew ?_ | refine Grew.drewN ?_ _))))) (HB.out.grew (stable_st _) (Hg1.out.trans (by (repeat (first | exact Grew.refl _ | refine Grew.over ?_ _ | refine Grew.alloc ?_ _ | refine Grew.drew ?_ | refine Grew.drewN ?_ _)))))); intro e w2 hw; (rcases hw with ⟨rfl, X2, hi2, hg2, hx2⟩ | ⟨rfl, hs2, hg2⟩); (try (have hgw := Grew.gr (a := w0) (Hg1.out.trans (by (repeat (first | exact Grew.refl _ | refine Grew.over ?_ _ | refine Grew.alloc ?_ _ | refine Grew.drew ?_ | refine Grew.drewN ?_ _)))) (fun k hk => (HX.out _ _ _ HI'.out k hk).1) hg2; have d0 := (hg2.cell (b := wr.heap.size) (i := 0) (by simp [go_sem]) Hno.out).trans (by simp [go_sem]; rfl); have d4 := (hg2.cell (b := wr.heap.size) (i := 4) (by simp [go_sem]) Hno.out).trans (by simp [go_sem]; rfl)))))
        all_goals first
          | (go_ret
             exact Or.inr ⟨rfl, stop_here Hx.out hs2, Gr.comp (Gr.over Hgr.out (by (repeat (first | exact Grew.refl _ | refine Grew.over ?_ _ | refine Grew.alloc ?_ _ | refine Grew.drew ?_ | refine Grew.drewN ?_ _)))) HXX.out hg2⟩)
          | (go_ret
             have hx2' := comp_x HXX.out hx2 (Nat.le_trans Hgr.out.size (show Grew wr _ from (by (repeat (first | exact Grew.refl _ | refine Grew.over ?_ _ | refine Grew.alloc ?_ _ | refine Grew.drew ?_ | refine Grew.drewN ?_ _)))).below.size)
             exact Or.inr ⟨rfl, stop_body Hx.out (by rw [Hin.out]; exact hs3), Gr.comp (Gr.comp (Gr.over Hgr.out (by (repeat (first | exact Grew.refl _ | refine Grew.over ?_ _ | refine Grew.alloc ?_ _ | refine Grew.drew ?_ | refine Grew.drewN ?_ _)))) HXX.out hg2) hx2' hg3⟩)
          | (have hx2' := comp_x HXX.out hx2 (Nat.le_trans Hgr.out.size (show Grew wr _ from (by (repeat (first | exact Grew.refl _ | refine Grew.over ?_ _ | refine Grew.alloc ?_ _ | refine Grew.drew ?_ | refine Grew.drewN ?_ _)))).below.size)
             have hgr2 := Gr.comp (Gr.over Hgr.out (by (repeat (first | exact Grew.refl _ | refine Grew.over ?_ _ | refine Grew.alloc ?_ _ | refine Grew.drew ?_ | refine Grew.drewN ?_ _)))) HXX.out hg2
             have Hx3 := Lib.hid (comp_x hx2' hx3 hgr2.size)
             have Hgr3 := Lib.hid (Gr.comp hgr2 hx2' hg3)
             have Hi3 := Lib.hid (show Inv (done ++ pre (l.take (k + 1)) lv) X3 w3 by rw [pre_next Hx.out, Hin.out, app4]; exact hi3)
             clear hx2' hgr2 hx3 hg3 hi3 hx2 hg2 hi2 hgw
             go_roundw
             case rel => exact ⟨k + 1, hlt, by go_num, X3, Hi3.out, Hgr3.out, Hx3.out⟩
             case measure => simp [intOf]; omega)
    · have ht : l.take k = l := List.take_of_length_le (by omega)
      rw [ht] at HI'
      go_wp2
      go_ret
      exact Or.inl ⟨rfl, X', HG.out _ _ _ _ HI'.out (by (repeat (first | exact Grew.refl _ | refine Grew.over ?_ _ | refine Grew.alloc ?_ _ | refine Grew.drew ?_ | refine Grew.drewN ?_ _))), Gr.over Hgr.out (by (repeat (first | exact Grew.refl _ | refine Grew.over ?_ _ | refine Grew.alloc ?_ _ | refine Grew.drew ?_ | refine Grew.drewN ?_ _))), HXX.out⟩
set_option maxHeartbeats 4000000 in
theorem visit_valid (cv : Value) (w0 : World) (Inv : List (St × Nat) → (Nat → Prop) → World → Prop) (Stop : List (St × Nat) → World → Prop) (tot : List (St × Nat))
    (hG : ∀ done X W W', Inv done X W → Grew W W' → Inv done X W') (hX : ∀ done X W, Inv done X W → ∀ k, X k → w0.heap.size ≤ k ∧ k < W.heap.size)
    (hF : ∀ (done : List (St × Nat)) (X : Nat → Prop) (W : World) (m lv : Nat) (k : Int) (nm : ByteArray) (rs ats : List P2) (bd : List St) (rp : Option Addr) (rc : Nat) (ap : Option Addr) (ac : Nat) (bp : Option Addr) (bc : Nat),
      lv ≤ 1000 → done ++ [(.mk k nm rs ats bd, lv)] <+: tot → Inv done X W → Grew w0 W → (Lit.int .i64 k).wf = true → nm.size ≤ maxLen → P2s W rp rc rs → P2s W ap ac ats → Sts m W bp bc bd →
      Calls Try.prog 38 #[.agg #[.int .i64 k, .string nm, .slice rp rs.length rc, .slice ap ats.length ac, .slice bp bd.length bc], .int .i64 lv, cv] W (Went Inv Stop X done [(.mk k nm rs ats bd, lv)] W)) :
    ∀ (n : Nat) (p : Option Addr) (m cap : Nat) (l : List St) (lv : Nat) (done : List (St × Nat)) (X : Nat → Prop) (W : World) (_ : Sts n w0 p cap l) (_ : l.length = m) (_ : lv + n ≤ 1000) (_ : done ++ pre l lv <+: tot) (_ : Grew w0 W) (_ : Inv done X W),
    Calls Try.prog 28 #[.slice p m cap, .int .i64 lv, .func (.func 38) #[] #[cv]] W (Went Inv Stop X done (pre l lv) W) := by
  intro n
  induction n using Nat.strongRecOn with
  | ind n ih =>
  intro p m cap l lv done X W hS hm hlv htot hg0 hI
  subst hm
  have hml := hS.1
  have hmc := len_lt hS
  have HS := Lib.hid hS
  have Ih := Lib.hid ih
  have Htot := Lib.hid htot
  have HF := Lib.hid hF
  have HG := Lib.hid hG
  have HX := Lib.hid hX
  have Hg0 := Lib.hid hg0
  have HI := Lib.hid hI
  clear ih hS hF hG hX hg0 hI htot
  go_enter Try.func28, Try.ntmps28
  go_wp2
  go_loopw [6, 8, 9, 12] (fun _ _ _ i wr => ∃ k : Nat, k ≤ l.length ∧ i = .int .i64 k ∧ ∃ X', Inv (done ++ pre (l.take k) lv) X' wr ∧ Gr X W wr ∧ (∀ k, X' k → X k ∨ W.heap.size ≤ k)) (fun _ _ _ i _ => l.length - (intOf i).toNat)
  case atStart => exact ⟨0, Nat.zero_le _, rfl, X, by simp only [List.take_zero, pre, List.append_nil]; exact HG.out _ _ _ _ HI.out (by (repeat (first | exact Grew.refl _ | refine Grew.over ?_ _ | refine Grew.alloc ?_ _ | refine Grew.drew ?_ | refine Grew.drewN ?_ _))), Gr.of_grew _ (by (repeat (first | exact Grew.refl _ | refine Grew.over ?_ _ | refine Grew.alloc ?_ _ | refine Grew.drew ?_ | refine Grew.drewN ?_ _))), fun k hk => Or.inl hk⟩
  case round =>
    obtain ⟨k, hk, rfl, X', hI', hgr, hXX⟩ := hrel
    have HI' := Lib.hid hI'
    have Hgr := Lib.hid hgr
    have HXX := Lib.hid hXX
    have Hg1 := Lib.hid (Hg0.out.gr (fun k hk => (HX.out _ _ _ HI.out k hk).1) hgr)
    clear hI' hgr hXX
    by_cases hlt : k < l.length
    · obtain ⟨b, o, kd, nm, rs, ats, bd, rp, rc, ap, ac, bp, bc, m', hm', rfl, hb, hx, hkw, hnm, c0, c1, c2, c3, c4, hR, hA, hB⟩ := sts_el HS.out hlt
      replace c0 := Hg1.out.cellEq c0
      replace c1 := Hg1.out.cellEq c1
      replace c2 := Hg1.out.cellEq c2
      replace c3 := Hg1.out.cellEq c3
      replace c4 := Hg1.out.cellEq c4
      replace hb := Nat.lt_of_lt_of_le hb Hg1.out.below.size
      have hm1 : m' < n := by omega
      have Hx := Lib.hid hx
      have HB := Lib.hid hB
      have HR := Lib.hid hR
      have HA := Lib.hid hA
      have Hkw := Lib.hid hkw
      have Hnm := Lib.hid hnm
      clear hx hB hR hA hkw hm' hnm
      have hno : ¬ X' wr.heap.size := fun h => by have := (HX.out _ _ _ HI'.out _ h).2; omega
      have Hno := Lib.hid hno
      clear hno
      have Ht1 := Lib.hid (tot_here Hx.out Htot.out)
      have Ht2 := Lib.hid (tot_body Hx.out Htot.out)
      by_cases h5 : kd = 5
      · subst h5
        have e1 : ((lv + 1 : Nat) : Int) = (lv : Int) + 1 := by omega
        have Hin := Lib.hid (show inn 5 lv = lv + 1 from rfl)
        rw [Hin.out] at Ht2
        go_wp2_with (first
          | (go_at_call 28; apply Calls.mono; (rw [← e1]; with_reducible exact Ih.out _ hm1 _ _ _ _ (lv + 1) _ _ _ HB.out rfl (by omega) Ht2.out hgw hi2); intro e w3 hw; (rcases hw with ⟨rfl, X3, hi3, hg3, hx3⟩ | ⟨rfl, hs3, hg3⟩))
          | (go_at_call 38; apply Calls.mono; (with_reducible exact HF.out _ _ _ _ _ _ _ _ _ _ _ _ _ _ _ _ (by omega) Ht1.out (HG.out _ _ _ _ HI'.out (by (repeat (first | exact Grew.refl _ | refine Grew.over ?_ _ | refine Grew.alloc ?_ _ | refine Grew.drew ?_ | refine Grew.drewN ?_ _)))) (Hg1.out.trans (by (repeat (first | exact Grew.refl _ | refine Grew.over ?_ _ | refine Grew.alloc ?_ _ | refine Grew.drew ?_ | refine Grew.drewN ?_ _)))) Hkw.out Hnm.out (HR.out.grew stable_p2 (Hg1.out.trans (by (repeat (first | exact Grew.refl _ | refine Grew.over ?_ _ | refine Grew.alloc ?_ _ | refine Grew.drew ?_ | refine Grew.drewN ?_ _))))) (HA.out.grew stable_p2 (Hg1.out.trans (by (repeat (first | exact Grew.refl _ | refine Grew.over ?_ _ | refine Grew.alloc ?_ _ | refine Grew.drew ?_ | refine Grew.drewN ?_ _))))) (HB.out.grew (stable_st _) (Hg1.out.trans (by (repeat (first | exact Grew.refl _ | refine Grew.over ?_ _ | refine Grew.alloc ?_ _ | refine Grew.drew ?_ | refine Grew.drewN ?_ _)))))); intro e w2 hw; (rcases hw with ⟨rfl, X2, hi2, hg2, hx2⟩ | ⟨rfl, hs2, hg2⟩); (try (have hgw := Grew.gr (a := w0) (Hg1.out.trans (by (repeat (first | exact Grew.refl _ | refine Grew.over ?_ _ | refine Grew.alloc ?_ _ | refine Grew.drew ?_ | refine Grew.drewN ?_ _)))) (fun k hk => (HX.out _ _ _ HI'.out k hk).1) hg2; have d0 := (hg2.cell (b := wr.heap.size) (i := 0) (by simp [go_sem]) Hno.out).trans (by simp [go_sem]; rfl); have d4 := (hg2.cell (b := wr.heap.size) (i := 4) (by simp [go_sem]) Hno.out).trans (by simp [go_sem]; rfl)))))
        all_goals first
          | (go_ret
             exact Or.inr ⟨rfl, stop_here Hx.out hs2, Gr.comp (Gr.over Hgr.out (by (repeat (first | exact Grew.refl _ | refine Grew.over ?_ _ | refine Grew.alloc ?_ _ | refine Grew.drew ?_ | refine Grew.drewN ?_ _)))) HXX.out hg2⟩)
          | (go_ret
             have hx2' := comp_x HXX.out hx2 (Nat.le_trans Hgr.out.size (show Grew wr _ from (by (repeat (first | exact Grew.refl _ | refine Grew.over ?_ _ | refine Grew.alloc ?_ _ | refine Grew.drew ?_ | refine Grew.drewN ?_ _)))).below.size)
             exact Or.inr ⟨rfl, stop_body Hx.out (by rw [Hin.out]; exact hs3), Gr.comp (Gr.comp (Gr.over Hgr.out (by (repeat (first | exact Grew.refl _ | refine Grew.over ?_ _ | refine Grew.alloc ?_ _ | refine Grew.drew ?_ | refine Grew.drewN ?_ _)))) HXX.out hg2) hx2' hg3⟩)
          | (have hx2' := comp_x HXX.out hx2 (Nat.le_trans Hgr.out.size (show Grew wr _ from (by (repeat (first | exact Grew.refl _ | refine Grew.over ?_ _ | refine Grew.alloc ?_ _ | refine Grew.drew ?_ | refine Grew.drewN ?_ _)))).below.size)
             have hgr2 := Gr.comp (Gr.over Hgr.out (by (repeat (first | exact Grew.refl _ | refine Grew.over ?_ _ | refine Grew.alloc ?_ _ | refine Grew.drew ?_ | refine Grew.drewN ?_ _)))) HXX.out hg2
             have Hx3 := Lib.hid (comp_x hx2' hx3 hgr2.size)
             have Hgr3 := Lib.hid (Gr.comp hgr2 hx2' hg3)
             have Hi3 := Lib.hid (show Inv (done ++ pre (l.take (k + 1)) lv) X3 w3 by rw [pre_next Hx.out, Hin.out, app4]; exact hi3)
             clear hx2' hgr2 hx3 hg3 hi3 hx2 hg2 hi2 hgw
             go_roundw
             case rel => exact ⟨k + 1, hlt, by go_num, X3, Hi3.out, Hgr3.out, Hx3.out⟩
             case measure => simp [intOf]; omega)
      · have hin : inn kd lv = lv := by unfold inn; rw [if_neg h5]
        have Hin := Lib.hid hin
        rw [hin] at Ht2
        clear hin
        go_wp2_with (first
          | (go_at_call 28; apply Calls.mono; (with_reducible exact Ih.out _ hm1 _ _ _ _ (lv) _ _ _ HB.out rfl (by omega) Ht2.out hgw hi2); intro e w3 hw; (rcases hw with ⟨rfl, X3, hi3, hg3, hx3⟩ | ⟨rfl, hs3, hg3⟩))
          | (go_at_call 38; apply Calls.mono; (with_reducible exact HF.out _ _ _ _ _ _ _ _ _ _ _ _ _ _ _ _ (by omega) Ht1.out (HG.out _ _ _ _ HI'.out (by (repeat (first | exact Grew.refl _ | refine Grew.over ?_ _ | refine Grew.alloc ?_ _ | refine Grew.drew ?_ | refine Grew.drewN ?_ _)))) (Hg1.out.trans (by (repeat (first | exact Grew.refl _ | refine Grew.over ?_ _ | refine Grew.alloc ?_ _ | refine Grew.drew ?_ | refine Grew.drewN ?_ _)))) Hkw.out Hnm.out (HR.out.grew stable_p2 (Hg1.out.trans (by (repeat (first | exact Grew.refl _ | refine Grew.over ?_ _ | refine Grew.alloc ?_ _ | refine Grew.drew ?_ | refine Grew.drewN ?_ _))))) (HA.out.grew stable_p2 (Hg1.out.trans (by (repeat (first | exact Grew.refl _ | refine Grew.over ?_ _ | refine Grew.alloc ?_ _ | refine Grew.drew ?_ | refine Grew.drewN ?_ _))))) (HB.out.grew (stable_st _) (Hg1.out.trans (by (repeat (first | exact Grew.refl _ | refine Grew.over ?_ _ | refine Grew.alloc ?_ _ | refine Grew.drew ?_ | refine Grew.drewN ?_ _)))))); intro e w2 hw; (rcases hw with ⟨rfl, X2, hi2, hg2, hx2⟩ | ⟨rfl, hs2, hg2⟩); (try (have hgw := Grew.gr (a := w0) (Hg1.out.trans (by (repeat (first | exact Grew.refl _ | refine Grew.over ?_ _ | refine Grew.alloc ?_ _ | refine Grew.drew ?_ | refine Grew.drewN ?_ _)))) (fun k hk => (HX.out _ _ _ HI'.out k hk).1) hg2; have d0 := (hg2.cell (b := wr.heap.size) (i := 0) (by simp [go_sem]) Hno.out).trans (by simp [go_sem]; rfl); have d4 := (hg2.cell (b := wr.heap.size) (i := 4) (by simp [go_sem]) Hno.out).trans (by simp [go_sem]; rfl)))))
        all_goals first
          | (go_ret
             exact Or.inr ⟨rfl, stop_here Hx.out hs2, Gr.comp (Gr.over Hgr.out (by (repeat (first | exact Grew.refl _ | refine Grew.over ?_ _ | refine Grew.alloc ?_ _ | refine Grew.drew ?_ | refine Grew.drewN ?_ _)))) HXX.out hg2⟩)
          | (go_ret
             have hx2' := comp_x HXX.out hx2 (Nat.le_trans Hgr.out.size (show Grew wr _ from (by (repeat (first | exact Grew.refl _ | refine Grew.over ?_ _ | refine Grew.alloc ?_ _ | refine Grew.drew ?_ | refine Grew.drewN ?_ _)))).below.size)
             exact Or.inr ⟨rfl, stop_body Hx.out (by rw [Hin.out]; exact hs3), Gr.comp (Gr.comp (Gr.over Hgr.out (by (repeat (first | exact Grew.refl _ | refine Grew.over ?_ _ | refine Grew.alloc ?_ _ | refine Grew.drew ?_ | refine Grew.drewN ?_ _)))) HXX.out hg2) hx2' hg3⟩)
          | (have hx2' := comp_x HXX.out hx2 (Nat.le_trans Hgr.out.size (show Grew wr _ from (by (repeat (first | exact Grew.refl _ | refine Grew.over ?_ _ | refine Grew.alloc ?_ _ | refine Grew.drew ?_ | refine Grew.drewN ?_ _)))).below.size)
             have hgr2 := Gr.comp (Gr.over Hgr.out (by (repeat (first | exact Grew.refl _ | refine Grew.over ?_ _ | refine Grew.alloc ?_ _ | refine Grew.drew ?_ | refine Grew.drewN ?_ _)))) HXX.out hg2
             have Hx3 := Lib.hid (comp_x hx2' hx3 hgr2.size)
             have Hgr3 := Lib.hid (Gr.comp hgr2 hx2' hg3)
             have Hi3 := Lib.hid (show Inv (done ++ pre (l.take (k + 1)) lv) X3 w3 by rw [pre_next Hx.out, Hin.out, app4]; exact hi3)
             clear hx2' hgr2 hx3 hg3 hi3 hx2 hg2 hi2 hgw
             go_roundw
             case rel => exact ⟨k + 1, hlt, by go_num, X3, Hi3.out, Hgr3.out, Hx3.out⟩
             case measure => simp [intOf]; omega)
    · have ht : l.take k = l := List.take_of_length_le (by omega)
      rw [ht] at HI'
      go_wp2
      go_ret
      exact Or.inl ⟨rfl, X', HG.out _ _ _ _ HI'.out (by (repeat (first | exact Grew.refl _ | refine Grew.over ?_ _ | refine Grew.alloc ?_ _ | refine Grew.drew ?_ | refine Grew.drewN ?_ _))), Gr.over Hgr.out (by (repeat (first | exact Grew.refl _ | refine Grew.over ?_ _ | refine Grew.alloc ?_ _ | refine Grew.drew ?_ | refine Grew.drewN ?_ _))), HXX.out⟩
set_option maxHeartbeats 4000000 in
theorem visit_names (cv : Value) (w0 : World) (Inv : List (St × Nat) → (Nat → Prop) → World → Prop) (Stop : List (St × Nat) → World → Prop) (tot : List (St × Nat))
    (hG : ∀ done X W W', Inv done X W → Grew W W' → Inv done X W') (hX : ∀ done X W, Inv done X W → ∀ k, X k → w0.heap.size ≤ k ∧ k < W.heap.size)
    (hF : ∀ (done : List (St × Nat)) (X : Nat → Prop) (W : World) (m lv : Nat) (k : Int) (nm : ByteArray) (rs ats : List P2) (bd : List St) (rp : Option Addr) (rc : Nat) (ap : Option Addr) (ac : Nat) (bp : Option Addr) (bc : Nat),
      lv ≤ 1000 → done ++ [(.mk k nm rs ats bd, lv)] <+: tot → Inv done X W → Grew w0 W → (Lit.int .i64 k).wf = true → nm.size ≤ maxLen → P2s W rp rc rs → P2s W ap ac ats → Sts m W bp bc bd →
      Calls Try.prog 29 #[.agg #[.int .i64 k, .string nm, .slice rp rs.length rc, .slice ap ats.length ac, .slice bp bd.length bc], .int .i64 lv, cv] W (Went Inv Stop X done [(.mk k nm rs ats bd, lv)] W)) :
    ∀ (n : Nat) (p : Option Addr) (m cap : Nat) (l : List St) (lv : Nat) (done : List (St × Nat)) (X : Nat → Prop) (W : World) (_ : Sts n w0 p cap l) (_ : l.length = m) (_ : lv + n ≤ 1000) (_ : done ++ pre l lv <+: tot) (_ : Grew w0 W) (_ : Inv done X W),
    Calls Try.prog 28 #[.slice p m cap, .int .i64 lv, .func (.func 29) #[] #[cv]] W (Went Inv Stop X done (pre l lv) W) := by
  intro n
  induction n using Nat.strongRecOn with
  | ind n ih =>
  intro p m cap l lv done X W hS hm hlv htot hg0 hI
  subst hm
  have hml := hS.1
  have hmc := len_lt hS
  have HS := Lib.hid hS
  have Ih := Lib.hid ih
  have Htot := Lib.hid htot
  have HF := Lib.hid hF
  have HG := Lib.hid hG
  have HX := Lib.hid hX
  have Hg0 := Lib.hid hg0
  have HI := Lib.hid hI
  clear ih hS hF hG hX hg0 hI htot
  go_enter Try.func28, Try.ntmps28
  go_wp2
  go_loopw [6, 8, 9, 12] (fun _ _ _ i wr => ∃ k : Nat, k ≤ l.length ∧ i = .int .i64 k ∧ ∃ X', Inv (done ++ pre (l.take k) lv) X' wr ∧ Gr X W wr ∧ (∀ k, X' k → X k ∨ W.heap.size ≤ k)) (fun _ _ _ i _ => l.length - (intOf i).toNat)
  case atStart => exact ⟨0, Nat.zero_le _, rfl, X, by simp only [List.take_zero, pre, List.append_nil]; exact HG.out _ _ _ _ HI.out (by (repeat (first | exact Grew.refl _ | refine Grew.over ?_ _ | refine Grew.alloc ?_ _ | refine Grew.drew ?_ | refine Grew.drewN ?_ _))), Gr.of_grew _ (by (repeat (first | exact Grew.refl _ | refine Grew.over ?_ _ | refine Grew.alloc ?_ _ | refine Grew.drew ?_ | refine Grew.drewN ?_ _))), fun k hk => Or.inl hk⟩
  case round =>
    obtain ⟨k, hk, rfl, X', hI', hgr, hXX⟩ := hrel
    have HI' := Lib.hid hI'
    have Hgr := Lib.hid hgr
    have HXX := Lib.hid hXX
    have Hg1 := Lib.hid (Hg0.out.gr (fun k hk => (HX.out _ _ _ HI.out k hk).1) hgr)
    clear hI' hgr hXX
    by_cases hlt : k < l.length
    · obtain ⟨b, o, kd, nm, rs, ats, bd, rp, rc, ap, ac, bp, bc, m', hm', rfl, hb, hx, hkw, hnm, c0, c1, c2, c3, c4, hR, hA, hB⟩ := sts_el HS.out hlt
      replace c0 := Hg1.out.cellEq c0
      replace c1 := Hg1.out.cellEq c1
      replace c2 := Hg1.out.cellEq c2
      replace c3 := Hg1.out.cellEq c3
      replace c4 := Hg1.out.cellEq c4
      replace hb := Nat.lt_of_lt_of_le hb Hg1.out.below.size
      have hm1 : m' < n := by omega
      have Hx := Lib.hid hx
      have HB := Lib.hid hB
      have HR := Lib.hid hR
      have HA := Lib.hid hA
      have Hkw := Lib.hid hkw
      have Hnm := Lib.hid hnm
      clear hx hB hR hA hkw hm' hnm
      have hno : ¬ X' wr.heap.size := fun h => by have := (HX.out _ _ _ HI'.out _ h).2; omega
      have Hno := Lib.hid hno
      clear hno
      have Ht1 := Lib.hid (tot_here Hx.out Htot.out)
      have Ht2 := Lib.hid (tot_body Hx.out Htot.out)
      by_cases h5 : kd = 5
      · subst h5
        have e1 : ((lv + 1 : Nat) : Int) = (lv : Int) + 1 := by omega
        have Hin := Lib.hid (show inn 5 lv = lv + 1 from rfl)
        rw [Hin.out] at Ht2
        go_wp2_with (first
          | (go_at_call 28; apply Calls.mono; (rw [← e1]; with_reducible exact Ih.out _ hm1 _ _ _ _ (lv + 1) _ _ _ HB.out rfl (by omega) Ht2.out hgw hi2); intro e w3 hw; (rcases hw with ⟨rfl, X3, hi3, hg3, hx3⟩ | ⟨rfl, hs3, hg3⟩))
          | (go_at_call 29; apply Calls.mono; (with_reducible exact HF.out _ _ _ _ _ _ _ _ _ _ _ _ _ _ _ _ (by omega) Ht1.out (HG.out _ _ _ _ HI'.out (by (repeat (first | exact Grew.refl _ | refine Grew.over ?_ _ | refine Grew.alloc ?_ _ | refine Grew.drew ?_ | refine Grew.drewN ?_ _)))) (Hg1.out.trans (by (repeat (first | exact Grew.refl _ | refine Grew.over ?_ _ | refine Grew.alloc ?_ _ | refine Grew.drew ?_ | refine Grew.drewN ?_ _)))) Hkw.out Hnm.out (HR.out.grew stable_p2 (Hg1.out.trans (by (repeat (first | exact Grew.refl _ | refine Grew.over ?_ _ | refine Grew.alloc ?_ _ | refine Grew.drew ?_ | refine Grew.drewN ?_ _))))) (HA.out.grew stable_p2 (Hg1.out.trans (by (repeat (first | exact Grew.refl _ | refine Grew.over ?_ _ | refine Grew.alloc ?_ _ | refine Grew.drew ?_ | refine Grew.drewN ?_ _))))) (HB.out.grew (stable_st _) (Hg1.out.trans (by (repeat (first | exact Grew.refl _ | refine Grew.over ?_ _ | refine Grew.alloc ?_ _ | refine Grew.drew ?_ | refine Grew.drewN ?_ _)))))); intro e w2 hw; (rcases hw with ⟨rfl, X2, hi2, hg2, hx2⟩ | ⟨rfl, hs2, hg2⟩); (try (have hgw := Grew.gr (a := w0) (Hg1.out.trans (by (repeat (first | exact Grew.refl _ | refine Grew.over ?_ _ | refine Grew.alloc ?_ _ | refine Grew.drew ?_ | refine Grew.drewN ?_ _)))) (fun k hk => (HX.out _ _ _ HI'.out k hk).1) hg2; have d0 := (hg2.cell (b := wr.heap.size) (i := 0) (by simp [go_sem]) Hno.out).trans (by simp [go_sem]; rfl); have d4 := (hg2.cell (b := wr.heap.size) (i := 4) (by simp [go_sem]) Hno.out).trans (by simp [go_sem]; rfl)))))
        all_goals first
          | (go_ret
             exact Or.inr ⟨rfl, stop_here Hx.out hs2, Gr.comp (Gr.over Hgr.out (by (repeat (first | exact Grew.refl _ | refine Grew.over ?_ _ | refine Grew.alloc ?_ _ | refine Grew.drew ?_ | refine Grew.drewN ?_ _)))) HXX.out hg2⟩)
          | (go_ret
             have hx2' := comp_x HXX.out hx2 (Nat.le_trans Hgr.out.size (show Grew wr _ from (by (repeat (first | exact Grew.refl _ | refine Grew.over ?_ _ | refine Grew.alloc ?_ _ | refine Grew.drew ?_ | refine Grew.drewN ?_ _)))).below.size)
             exact Or.inr ⟨rfl, stop_body Hx.out (by rw [Hin.out]; exact hs3), Gr.comp (Gr.comp (Gr.over Hgr.out (by (repeat (first | exact Grew.refl _ | refine Grew.over ?_ _ | refine Grew.alloc ?_ _ | refine Grew.drew ?_ | refine Grew.drewN ?_ _)))) HXX.out hg2) hx2' hg3⟩)
          | (have hx2' := comp_x HXX.out hx2 (Nat.le_trans Hgr.out.size (show Grew wr _ from (by (repeat (first | exact Grew.refl _ | refine Grew.over ?_ _ | refine Grew.alloc ?_ _ | refine Grew.drew ?_ | refine Grew.drewN ?_ _)))).below.size)
             have hgr2 := Gr.comp (Gr.over Hgr.out (by (repeat (first | exact Grew.refl _ | refine Grew.over ?_ _ | refine Grew.alloc ?_ _ | refine Grew.drew ?_ | refine Grew.drewN ?_ _)))) HXX.out hg2
             have Hx3 := Lib.hid (comp_x hx2' hx3 hgr2.size)
             have Hgr3 := Lib.hid (Gr.comp hgr2 hx2' hg3)
             have Hi3 := Lib.hid (show Inv (done ++ pre (l.take (k + 1)) lv) X3 w3 by rw [pre_next Hx.out, Hin.out, app4]; exact hi3)
             clear hx2' hgr2 hx3 hg3 hi3 hx2 hg2 hi2 hgw
             go_roundw
             case rel => exact ⟨k + 1, hlt, by go_num, X3, Hi3.out, Hgr3.out, Hx3.out⟩
             case measure => simp [intOf]; omega)
      · have hin : inn kd lv = lv := by unfold inn; rw [if_neg h5]
        have Hin := Lib.hid hin
        rw [hin] at Ht2
        clear hin
        go_wp2_with (first
          | (go_at_call 28; apply Calls.mono; (with_reducible exact Ih.out _ hm1 _ _ _ _ (lv) _ _ _ HB.out rfl (by omega) Ht2.out hgw hi2); intro e w3 hw; (rcases hw with ⟨rfl, X3, hi3, hg3, hx3⟩ | ⟨rfl, hs3, hg3⟩))
          | (go_at_call 29; apply Calls.mono; (with_reducible exact HF.out _ _ _ _ _ _ _ _ _ _ _ _ _ _ _ _ (by omega) Ht1.out (HG.out _ _ _ _ HI'.out (by (repeat (first | exact Grew.refl _ | refine Grew.over ?_ _ | refine Grew.alloc ?_ _ | refine Grew.drew ?_ | refine Grew.drewN ?_ _)))) (Hg1.out.trans (by (repeat (first | exact Grew.refl _ | refine Grew.over ?_ _ | refine Grew.alloc ?_ _ | refine Grew.drew ?_ | refine Grew.drewN ?_ _)))) Hkw.out Hnm.out (HR.out.grew stable_p2 (Hg1.out.trans (by (repeat (first | exact Grew.refl _ | refine Grew.over ?_ _ | refine Grew.alloc ?_ _ | refine Grew.drew ?_ | refine Grew.drewN ?_ _))))) (HA.out.grew stable_p2 (Hg1.out.trans (by (repeat (first | exact Grew.refl _ | refine Grew.over ?_ _ | refine Grew.alloc ?_ _ | refine Grew.drew ?_ | refine Grew.drewN ?_ _))))) (HB.out.grew (stable_st _) (Hg1.out.trans (by (repeat (first | exact Grew.refl _ | refine Grew.over ?_ _ | refine Grew.alloc ?_ _ | refine Grew.drew ?_ | refine Grew.drewN ?_ _)))))); intro e w2 hw; (rcases hw with ⟨rfl, X2, hi2, hg2, hx2⟩ | ⟨rfl, hs2, hg2⟩); (try (have hgw := Grew.gr (a := w0) (Hg1.out.trans (by (repeat (first | exact Grew.refl _ | refine Grew.over ?_ _ | refine Grew.alloc ?_ _ | refine Grew.drew ?_ | refine Grew.drewN ?_ _)))) (fun k hk => (HX.out _ _ _ HI'.out k hk).1) hg2; have d0 := (hg2.cell (b := wr.heap.size) (i := 0) (by simp [go_sem]) Hno.out).trans (by simp [go_sem]; rfl); have d4 := (hg2.cell (b := wr.heap.size) (i := 4) (by simp [go_sem]) Hno.out).trans (by simp [go_sem]; rfl)))))
        all_goals first
          | (go_ret
             exact Or.inr ⟨rfl, stop_here Hx.out hs2, Gr.comp (Gr.over Hgr.out (by (repeat (first | exact Grew.refl _ | refine Grew.over ?_ _ | refine Grew.alloc ?_ _ | refine Grew.drew ?_ | refine Grew.drewN ?_ _)))) HXX.out hg2⟩)
          | (go_ret
             have hx2' := comp_x HXX.out hx2 (Nat.le_trans Hgr.out.size (show Grew wr _ from (by (repeat (first | exact Grew.refl _ | refine Grew.over ?_ _ | refine Grew.alloc ?_ _ | refine Grew.drew ?_ | refine Grew.drewN ?_ _)))).below.size)
             exact Or.inr ⟨rfl, stop_body Hx.out (by rw [Hin.out]; exact hs3), Gr.comp (Gr.comp (Gr.over Hgr.out (by (repeat (first | exact Grew.refl _ | refine Grew.over ?_ _ | refine Grew.alloc ?_ _ | refine Grew.drew ?_ | refine Grew.drewN ?_ _)))) HXX.out hg2) hx2' hg3⟩)
          | (have hx2' := comp_x HXX.out hx2 (Nat.le_trans Hgr.out.size (show Grew wr _ from (by (repeat (first | exact Grew.refl _ | refine Grew.over ?_ _ | refine Grew.alloc ?_ _ | refine Grew.drew ?_ | refine Grew.drewN ?_ _)))).below.size)
             have hgr2 := Gr.comp (Gr.over Hgr.out (by (repeat (first | exact Grew.refl _ | refine Grew.over ?_ _ | refine Grew.alloc ?_ _ | refine Grew.drew ?_ | refine Grew.drewN ?_ _)))) HXX.out hg2
             have Hx3 := Lib.hid (comp_x hx2' hx3 hgr2.size)
             have Hgr3 := Lib.hid (Gr.comp hgr2 hx2' hg3)
             have Hi3 := Lib.hid (show Inv (done ++ pre (l.take (k + 1)) lv) X3 w3 by rw [pre_next Hx.out, Hin.out, app4]; exact hi3)
             clear hx2' hgr2 hx3 hg3 hi3 hx2 hg2 hi2 hgw
             go_roundw
             case rel => exact ⟨k + 1, hlt, by go_num, X3, Hi3.out, Hgr3.out, Hx3.out⟩
             case measure => simp [intOf]; omega)
    · have ht : l.take k = l := List.take_of_length_le (by omega)
      rw [ht] at HI'
      go_wp2
      go_ret
      exact Or.inl ⟨rfl, X', HG.out _ _ _ _ HI'.out (by (repeat (first | exact Grew.refl _ | refine Grew.over ?_ _ | refine Grew.alloc ?_ _ | refine Grew.drew ?_ | refine Grew.drewN ?_ _))), Gr.over Hgr.out (by (repeat (first | exact Grew.refl _ | refine Grew.over ?_ _ | refine Grew.alloc ?_ _ | refine Grew.drew ?_ | refine Grew.drewN ?_ _))), HXX.out⟩
set_option maxHeartbeats 4000000 in
theorem visit_clusters (cv : Value) (w0 : World) (Inv : List (St × Nat) → (Nat → Prop) → World → Prop) (Stop : List (St × Nat) → World → Prop) (tot : List (St × Nat))
    (hG : ∀ done X W W', Inv done X W → Grew W W' → Inv done X W') (hX : ∀ done X W, Inv done X W → ∀ k, X k → w0.heap.size ≤ k ∧ k < W.heap.size)
    (hF : ∀ (done : List (St × Nat)) (X : Nat → Prop) (W : World) (m lv : Nat) (k : Int) (nm : ByteArray) (rs ats : List P2) (bd : List St) (rp : Option Addr) (rc : Nat) (ap : Option Addr) (ac : Nat) (bp : Option Addr) (bc : Nat),
      lv ≤ 1000 → done ++ [(.mk k nm rs ats bd, lv)] <+: tot → Inv done X W → Grew w0 W → (Lit.int .i64 k).wf = true → nm.size ≤ maxLen → P2s W rp rc rs → P2s W ap ac ats → Sts m W bp bc bd →
      Calls Try.prog 32 #[.agg #[.int .i64 k, .string nm, .slice rp rs.length rc, .slice ap ats.length ac, .slice bp bd.length bc], .int .i64 lv, cv] W (Went Inv Stop X done [(.mk k nm rs ats bd, lv)] W)) :
    ∀ (n : Nat) (p : Option Addr) (m cap : Nat) (l : List St) (lv : Nat) (done : List (St × Nat)) (X : Nat → Prop) (W : World) (_ : Sts n w0 p cap l) (_ : l.length = m) (_ : lv + n ≤ 1000) (_ : done ++ pre l lv <+: tot) (_ : Grew w0 W) (_ : Inv done X W),
    Calls Try.prog 28 #[.slice p m cap, .int .i64 lv, .func (.func 32) #[] #[cv]] W (Went Inv Stop X done (pre l lv) W) := by
  intro n
  induction n using Nat.strongRecOn with
  | ind n ih =>
  intro p m cap l lv done X W hS hm hlv htot hg0 hI
  subst hm
  have hml := hS.1
  have hmc := len_lt hS
  have HS := Lib.hid hS
  have Ih := Lib.hid ih
  have Htot := Lib.hid htot
  have HF := Lib.hid hF
  have HG := Lib.hid hG
  have HX := Lib.hid hX
  have Hg0 := Lib.hid hg0
  have HI := Lib.hid hI
  clear ih hS hF hG hX hg0 hI htot
  go_enter Try.func28, Try.ntmps28
  go_wp2
  go_loopw [6, 8, 9, 12] (fun _ _ _ i wr => ∃ k : Nat, k ≤ l.length ∧ i = .int .i64 k ∧ ∃ X', Inv (done ++ pre (l.take k) lv) X' wr ∧ Gr X W wr ∧ (∀ k, X' k → X k ∨ W.heap.size ≤ k)) (fun _ _ _ i _ => l.length - (intOf i).toNat)
  case atStart => exact ⟨0, Nat.zero_le _, rfl, X, by simp only [List.take_zero, pre, List.append_nil]; exact HG.out _ _ _ _ HI.out (by (repeat (first | exact Grew.refl _ | refine Grew.over ?_ _ | refine Grew.alloc ?_ _ | refine Grew.drew ?_ | refine Grew.drewN ?_ _))), Gr.of_grew _ (by (repeat (first | exact Grew.refl _ | refine Grew.over ?_ _ | refine Grew.alloc ?_ _ | refine Grew.drew ?_ | refine Grew.drewN ?_ _))), fun k hk => Or.inl hk⟩
  case round =>
    obtain ⟨k, hk, rfl, X', hI', hgr, hXX⟩ := hrel
    have HI' := Lib.hid hI'
    have Hgr := Lib.hid hgr
    have HXX := Lib.hid hXX
    have Hg1 := Lib.hid (Hg0.out.gr (fun k hk => (HX.out _ _ _ HI.out k hk).1) hgr)
    clear hI' hgr hXX
    by_cases hlt : k < l.length
    · obtain ⟨b, o, kd, nm, rs, ats, bd, rp, rc, ap, ac, bp, bc, m', hm', rfl, hb, hx, hkw, hnm, c0, c1, c2, c3, c4, hR, hA, hB⟩ := sts_el HS.out hlt
      replace c0 := Hg1.out.cellEq c0
      replace c1 := Hg1.out.cellEq c1
      replace c2 := Hg1.out.cellEq c2
      replace c3 := Hg1.out.cellEq c3
      replace c4 := Hg1.out.cellEq c4
      replace hb := Nat.lt_of_lt_of_le hb Hg1.out.below.size
      have hm1 : m' < n := by omega
      have Hx := Lib.hid hx
      have HB := Lib.hid hB
      have HR := Lib.hid hR
      have HA := Lib.hid hA
      have Hkw := Lib.hid hkw
      have Hnm := Lib.hid hnm
      clear hx hB hR hA hkw hm' hnm
      have hno : ¬ X' wr.heap.size := fun h => by have := (HX.out _ _ _ HI'.out _ h).2; omega
      have Hno := Lib.hid hno
      clear hno
      have Ht1 := Lib.hid (tot_here Hx.out Htot.out)
      have Ht2 := Lib.hid (tot_body Hx.out Htot.out)
      by_cases h5 : kd = 5
      · subst h5
        have e1 : ((lv + 1 : Nat) : Int) = (lv : Int) + 1 := by omega
        have Hin := Lib.hid (show inn 5 lv = lv + 1 from rfl)
        rw [Hin.out] at Ht2
        go_wp2_with (first
          | (go_at_call 28; apply Calls.mono; (rw [← e1]; with_reducible exact Ih.out _ hm1 _ _ _ _ (lv + 1) _ _ _ HB.out rfl (by omega) Ht2.out hgw hi2); intro e w3 hw; (rcases hw with ⟨rfl, X3, hi3, hg3, hx3⟩ | ⟨rfl, hs3, hg3⟩))
          | (go_at_call 32; apply Calls.mono; (with_reducible exact HF.out _ _ _ _ _ _ _ _ _ _ _ _ _ _ _ _ (by omega) Ht1.out (HG.out _ _ _ _ HI'.out (by (repeat (first | exact Grew.refl _ | refine Grew.over ?_ _ | refine Grew.alloc ?_ _ | refine Grew.drew ?_ | refine Grew.drewN ?_ _)))) (Hg1.out.trans (by (repeat (first | exact Grew.refl _ | refine Grew.over ?_ _ | refine Grew.alloc ?_ _ | refine Grew.drew ?_ | refine Grew.drewN ?_ _)))) Hkw.out Hnm.out (HR.out.grew stable_p2 (Hg1.out.trans (by (repeat (first | exact Grew.refl _ | refine Grew.over ?_ _ | refine Grew.alloc ?_ _ | refine Grew.drew ?_ | refine Grew.drewN ?_ _))))) (HA.out.grew stable_p2 (Hg1.out.trans (by (repeat (first | exact Grew.refl _ | refine Grew.over ?_ _ | refine Grew.alloc ?_ _ | refine Grew.drew ?_ | refine Grew.drewN ?_ _))))) (HB.out.grew (stable_st _) (Hg1.out.trans (by (repeat (first | exact Grew.refl _ | refine Grew.over ?_ _ | refine Grew.alloc ?_ _ | refine Grew.drew ?_ | refine Grew.drewN ?_ _)))))); intro e w2 hw; (rcases hw with ⟨rfl, X2, hi2, hg2, hx2⟩ | ⟨rfl, hs2, hg2⟩); (try (have hgw := Grew.gr (a := w0) (Hg1.out.trans (by (repeat (first | exact Grew.refl _ | refine Grew.over ?_ _ | refine Grew.alloc ?_ _ | refine Grew.drew ?_ | refine Grew.drewN ?_ _)))) (fun k hk => (HX.out _ _ _ HI'.out k hk).1) hg2; have d0 := (hg2.cell (b := wr.heap.size) (i := 0) (by simp [go_sem]) Hno.out).trans (by simp [go_sem]; rfl); have d4 := (hg2.cell (b := wr.heap.size) (i := 4) (by simp [go_sem]) Hno.out).trans (by simp [go_sem]; rfl)))))
        all_goals first
          | (go_ret
             exact Or.inr ⟨rfl, stop_here Hx.out hs2, Gr.comp (Gr.over Hgr.out (by (repeat (first | exact Grew.refl _ | refine Grew.over ?_ _ | refine Grew.alloc ?_ _ | refine Grew.drew ?_ | refine Grew.drewN ?_ _)))) HXX.out hg2⟩)
          | (go_ret
             have hx2' := comp_x HXX.out hx2 (Nat.le_trans Hgr.out.size (show Grew wr _ from (by (repeat (first | exact Grew.refl _ | refine Grew.over ?_ _ | refine Grew.alloc ?_ _ | refine Grew.drew ?_ | refine Grew.drewN ?_ _)))).below.size)
             exact Or.inr ⟨rfl, stop_body Hx.out (by rw [Hin.out]; exact hs3), Gr.comp (Gr.comp (Gr.over Hgr.out (by (repeat (first | exact Grew.refl _ | refine Grew.over ?_ _ | refine Grew.alloc ?_ _ | refine Grew.drew ?_ | refine Grew.drewN ?_ _)))) HXX.out hg2) hx2' hg3⟩)
          | (have hx2' := comp_x HXX.out hx2 (Nat.le_trans Hgr.out.size (show Grew wr _ from (by (repeat (first | exact Grew.refl _ | refine Grew.over ?_ _ | refine Grew.alloc ?_ _ | refine Grew.drew ?_ | refine Grew.drewN ?_ _)))).below.size)
             have hgr2 := Gr.comp (Gr.over Hgr.out (by (repeat (first | exact Grew.refl _ | refine Grew.over ?_ _ | refine Grew.alloc ?_ _ | refine Grew.drew ?_ | refine Grew.drewN ?_ _)))) HXX.out hg2
             have Hx3 := Lib.hid (comp_x hx2' hx3 hgr2.size)
             have Hgr3 := Lib.hid (Gr.comp hgr2 hx2' hg3)
             have Hi3 := Lib.hid (show Inv (done ++ pre (l.take (k + 1)) lv) X3 w3 by rw [pre_next Hx.out, Hin.out, app4]; exact hi3)
             clear hx2' hgr2 hx3 hg3 hi3 hx2 hg2 hi2 hgw
             go_roundw
             case rel => exact ⟨k + 1, hlt, by go_num, X3, Hi3.out, Hgr3.out, Hx3.out⟩
             case measure => simp [intOf]; omega)
      · have hin : inn kd lv = lv := by unfold inn; rw [if_neg h5]
        have Hin := Lib.hid hin
        rw [hin] at Ht2
        clear hin
        go_wp2_with (first
          | (go_at_call 28; apply Calls.mono; (with_reducible exact Ih.out _ hm1 _ _ _ _ (lv) _ _ _ HB.out rfl (by omega) Ht2.out hgw hi2); intro e w3 hw; (rcases hw with ⟨rfl, X3, hi3, hg3, hx3⟩ | ⟨rfl, hs3, hg3⟩))
          | (go_at_call 32; apply Calls.mono; (with_reducible exact HF.out _ _ _ _ _ _ _ _ _ _ _ _ _ _ _ _ (by omega) Ht1.out (HG.out _ _ _ _ HI'.out (by (repeat (first | exact Grew.refl _ | refine Grew.over ?_ _ | refine Grew.alloc ?_ _ | refine Grew.drew ?_ | refine Grew.drewN ?_ _)))) (Hg1.out.trans (by (repeat (first | exact Grew.refl _ | refine Grew.over ?_ _ | refine Grew.alloc ?_ _ | refine Grew.drew ?_ | refine Grew.drewN ?_ _)))) Hkw.out Hnm.out (HR.out.grew stable_p2 (Hg1.out.trans (by (repeat (first | exact Grew.refl _ | refine Grew.over ?_ _ | refine Grew.alloc ?_ _ | refine Grew.drew ?_ | refine Grew.drewN ?_ _))))) (HA.out.grew stable_p2 (Hg1.out.trans (by (repeat (first | exact Grew.refl _ | refine Grew.over ?_ _ | refine Grew.alloc ?_ _ | refine Grew.drew ?_ | refine Grew.drewN ?_ _))))) (HB.out.grew (stable_st _) (Hg1.out.trans (by (repeat (first | exact Grew.refl _ | refine Grew.over ?_ _ | refine Grew.alloc ?_ _ | refine Grew.drew ?_ | refine Grew.drewN ?_ _)))))); intro e w2 hw; (rcases hw with ⟨rfl, X2, hi2, hg2, hx2⟩ | ⟨rfl, hs2, hg2⟩); (try (have hgw := Grew.gr (a := w0) (Hg1.out.trans (by (repeat (first | exact Grew.refl _ | refine Grew.over ?_ _ | refine Grew.alloc ?_ _ | refine Grew.drew ?_ | refine Grew.drewN ?_ _)))) (fun k hk => (HX.out _ _ _ HI'.out k hk).1) hg2; have d0 := (hg2.cell (b := wr.heap.size) (i := 0) (by simp [go_sem]) Hno.out).trans (by simp [go_sem]; rfl); have d4 := (hg2.cell (b := wr.heap.size) (i := 4) (by simp [go_sem]) Hno.out).trans (by simp [go_sem]; rfl)))))
        all_goals first
          | (go_ret
             exact Or.inr ⟨rfl, stop_here Hx.out hs2, Gr.comp (Gr.over Hgr.out (by (repeat (first | exact Grew.refl _ | refine Grew.over ?_ _ | refine Grew.alloc ?_ _ | refine Grew.drew ?_ | refine Grew.drewN ?_ _)))) HXX.out hg2⟩)
          | (go_ret
             have hx2' := comp_x HXX.out hx2 (Nat.le_trans Hgr.out.size (show Grew wr _ from (by (repeat (first | exact Grew.refl _ | refine Grew.over ?_ _ | refine Grew.alloc ?_ _ | refine Grew.drew ?_ | refine Grew.drewN ?_ _)))).below.size)
             exact Or.inr ⟨rfl, stop_body Hx.out (by rw [Hin.out]; exact hs3), Gr.comp (Gr.comp (Gr.over Hgr.out (by (repeat (first | exact Grew.refl _ | refine Grew.over ?_ _ | refine Grew.alloc ?_ _ | refine Grew.drew ?_ | refine Grew.drewN ?_ _)))) HXX.out hg2) hx2' hg3⟩)
          | (have hx2' := comp_x HXX.out hx2 (Nat.le_trans Hgr.out.size (show Grew wr _ from (by (repeat (first | exact Grew.refl _ | refine Grew.over ?_ _ | refine Grew.alloc ?_ _ | refine Grew.drew ?_ | refine Grew.drewN ?_ _)))).below.size)
             have hgr2 := Gr.comp (Gr.over Hgr.out (by (repeat (first | exact Grew.refl _ | refine Grew.over ?_ _ | refine Grew.alloc ?_ _ | refine Grew.drew ?_ | refine Grew.drewN ?_ _)))) HXX.out hg2
             have Hx3 := Lib.hid (comp_x hx2' hx3 hgr2.size)
             have Hgr3 := Lib.hid (Gr.comp hgr2 hx2' hg3)
             have Hi3 := Lib.hid (show Inv (done ++ pre (l.take (k + 1)) lv) X3 w3 by rw [pre_next Hx.out, Hin.out, app4]; exact hi3)
             clear hx2' hgr2 hx3 hg3 hi3 hx2 hg2 hi2 hgw
             go_roundw
             case rel => exact ⟨k + 1, hlt, by go_num, X3, Hi3.out, Hgr3.out, Hx3.out⟩
             case measure => simp [intOf]; omega)
    · have ht : l.take k = l := List.take_of_length_le (by omega)
      rw [ht] at HI'
      go_wp2
      go_ret
      exact Or.inl ⟨rfl, X', HG.out _ _ _ _ HI'.out (by (repeat (first | exact Grew.refl _ | refine Grew.over ?_ _ | refine Grew.alloc ?_ _ | refine Grew.drew ?_ | refine Grew.drewN ?_ _))), Gr.over Hgr.out (by (repeat (first | exact Grew.refl _ | refine Grew.over ?_ _ | refine Grew.alloc ?_ _ | refine Grew.drew ?_ | refine Grew.drewN ?_ _))), HXX.out⟩
end Go.Proofs.Ytbamckfjikpjlaa
