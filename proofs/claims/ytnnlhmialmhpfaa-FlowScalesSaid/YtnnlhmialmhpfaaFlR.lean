/- slices.Reverse on steps. -/
import Derived.Test.YtnnlhmialmhpfaaFlQ
set_option linter.unusedSimpArgs false
set_option linter.unusedVariables false
namespace Go.Proofs.Ytnnlhmialmhpfaa
open Go.RowKit
attribute [local go_sem ↓] Go.wp_at_zero Go.wp_at_succ

def lg (L : List (Nat × Bool)) (t : Nat) : Nat × Bool := L.getD t (0, false)
theorem lg_get (L : List (Nat × Bool)) {t : Nat} (h : t < L.length) : L[t]? = some (lg L t) := by simp [lg, h]
/-- What has been turned round when the first i and the last i have changed places. -/
def revL (L : List (Nat × Bool)) (i : Nat) : List (Nat × Bool) := (List.range L.length).map fun t => if t < i ∨ L.length ≤ t + i then lg L (L.length - 1 - t) else lg L t
theorem revL_len (L : List (Nat × Bool)) (i : Nat) : (revL L i).length = L.length := by simp [revL]
theorem revL_get (L : List (Nat × Bool)) (i : Nat) {t : Nat} (h : t < L.length) : (revL L i)[t]? = some (if t < i ∨ L.length ≤ t + i then lg L (L.length - 1 - t) else lg L t) := by
  simp [revL, h]
theorem list_ext? {α : Type} {xs ys : List α} (n : Nat) (h1 : xs.length = n) (h2 : ys.length = n) (h : ∀ t, t < n → xs[t]? = ys[t]?) : xs = ys := by
  refine List.ext_getElem? fun t => ?_
  by_cases e : t < n
  · exact h t e
  · rw [List.getElem?_eq_none (by omega), List.getElem?_eq_none (by omega)]
theorem revL_zero (L : List (Nat × Bool)) : L = revL L 0 := list_ext? L.length rfl (revL_len L 0) fun t ht => by
  rw [revL_get L 0 ht, if_neg (by omega), lg_get L ht]
theorem revL_mid (L : List (Nat × Bool)) {i t : Nat} (ht : t < L.length) (h1 : ¬ t < i) (h2 : ¬ L.length ≤ t + i) : (revL L i)[t]? = some (lg L t) := by
  rw [revL_get L i ht, if_neg (by omega)]
theorem revL_step (L : List (Nat × Bool)) {i j : Nat} (hj : j + i + 1 = L.length) (hij : i < j) : ((revL L i).set i (lg L j)).set j (lg L i) = revL L (i + 1) := by
  refine list_ext? L.length (by simp [revL_len]) (revL_len _ _) fun t ht => ?_
  rw [revL_get L (i + 1) ht, List.getElem?_set, List.getElem?_set, revL_get L i ht]
  simp only [List.length_set, revL_len]
  by_cases h1 : j = t
  · rw [if_pos h1, if_pos (by omega), if_pos (by omega)]; congr 2; omega
  · rw [if_neg h1]
    by_cases h2 : i = t
    · rw [if_pos h2, if_pos (by omega), if_pos (by omega)]; congr 2; omega
    · rw [if_neg h2]
      by_cases h3 : t < i ∨ L.length ≤ t + i
      · rw [if_pos h3, if_pos (by omega)]
      · rw [if_neg h3, if_neg (by omega)]
theorem revL_all (L : List (Nat × Bool)) {i : Nat} (hi : L.length ≤ 2 * i + 1) (hi2 : 2 * i ≤ L.length) : revL L i = L.reverse := by
  refine list_ext? L.length (revL_len _ _) List.length_reverse fun t ht => ?_
  rw [revL_get L i ht, List.getElem?_reverse ht, lg_get L (by omega)]
  split
  · rfl
  · congr 2; omega
theorem stVs_set (A : List Ark) (f : List Int) (i : Nat) (b : Bool) : ∀ (L : List (Nat × Bool)) (t : Nat), t < L.length → stVs A f (L.set t (i, b)) =
    ((((((stVs A f L).set (t * 6) (.int .i64 (sF A i b : Int))).set (t * 6 + 1) (.int .i64 (sT A i b : Int))).set (t * 6 + 2) (.int .i64 (cst A i))).set (t * 6 + 3) (.int .i64 (sR A f i b))).set (t * 6 + 4) (.int .i64 (i : Int))).set (t * 6 + 5) (.bool b)
  | [], t, h => by simp at h
  | x :: L, 0, _ => by
    simp only [stVs, List.set_cons_zero, List.flatMap_cons, st1, Nat.zero_mul, Nat.zero_add, List.cons_append, List.nil_append, List.set_cons_succ]
  | x :: L, t + 1, h => by
    have ih := stVs_set A f i b L t (by simpa using h)
    have e : ∀ (M : List Value) k u, (st1 A f x.1 x.2 ++ M).set ((t + 1) * 6 + k) u = st1 A f x.1 x.2 ++ M.set (t * 6 + k) u := fun M k u => by
      rw [List.set_append_right _ _ (by simp [st1]; omega)]
      congr 2
      simp [st1]; omega
    show st1 A f x.1 x.2 ++ stVs A f (L.set t (i, b)) = ((((((st1 A f x.1 x.2 ++ stVs A f L).set ((t + 1) * 6 + 0) _).set _ _).set _ _).set _ _).set _ _).set _ _
    rw [e, e, e, e, e, e, ih]
    simp only [Nat.add_zero]
abbrev stRn (g n cap : Nat) (A : List Ark) (f : List Int) (L : List (Nat × Bool)) : Row := ⟨.slice (some ⟨g, 0, none⟩) n cap, 54, 6, n, stVs A f L⟩
theorem own_setSt {w : World} {B g n cap : Nat} {A : List Ark} {f : List Int} {L : List (Nat × Bool)} (h : Owns w B [stRn g n cap A f L]) {t : Nat} (ht : t < L.length) (i : Nat) (b : Bool) :
    Owns ((((((w.setCell ⟨g, t * 6, none⟩ (.int .i64 (sF A i b : Int))).setCell ⟨g, t * 6 + 1, none⟩ (.int .i64 (sT A i b : Int))).setCell ⟨g, t * 6 + 2, none⟩ (.int .i64 (cst A i))).setCell ⟨g, t * 6 + 3, none⟩ (.int .i64 (sR A f i b))).setCell ⟨g, t * 6 + 4, none⟩ (.int .i64 (i : Int))).setCell ⟨g, t * 6 + 5, none⟩ (.bool b)) B [stRn g n cap A f (L.set t (i, b))] := by
  have h1 := (((((h.set (k := 0) rfl (t * 6) (.int .i64 (sF A i b : Int))).set (k := 0) rfl (t * 6 + 1) (.int .i64 (sT A i b : Int))).set (k := 0) rfl (t * 6 + 2) (.int .i64 (cst A i))).set (k := 0) rfl (t * 6 + 3) (.int .i64 (sR A f i b))).set (k := 0) rfl (t * 6 + 4) (.int .i64 (i : Int))).set (k := 0) rfl (t * 6 + 5) (.bool b)
  simp only [List.set_cons_zero] at h1
  rw [← stVs_set A f i b L t ht] at h1
  exact h1

theorem own_blk6 {w : World} {B g n cap : Nat} {A : List Ark} {f : List Int} {L : List (Nat × Bool)} (h : Owns w B [stRn g n cap A f L]) :
    (stVs A f L).length = n * 6 ∧ B ≤ g ∧ g < w.heap.size ∧ (∀ i, w.frozen? ⟨g, i, none⟩ = false) ∧ ∀ i u, (stVs A f L)[i]? = some u → w.cell? ⟨g, i, none⟩ = some u := by
  obtain ⟨h1, h2⟩ := h.get (k := 0) rfl
  rcases h2 with ⟨h2, _⟩ | ⟨g', cap', hv, h3, h4, _, _, h5, h6⟩
  · cases h2
  · have hg : g' = g := by
      simp only [Value.slice.injEq, Option.some.injEq, Addr.mk.injEq] at hv
      exact hv.1.1.symm
    subst hg
    exact ⟨h1, h3, h4, h5, h6⟩

set_option maxRecDepth 8000 in
set_option maxHeartbeats 16000000 in
theorem reverse_s (g n cap B : Nat) (A : List Ark) (f : List Int) (L : List (Nat × Bool)) (w w0 : World) (hO : Owns w B [stRn g n cap A f L]) (hn : L.length = n) (hn1 : n ≤ 4096) (h0 : 0 < n) (hB : w0.heap.size ≤ B) (hg : Grew w0 w) :
    Calls Try.prog 35 #[.slice (some ⟨g, 0, none⟩) n cap] w fun e w' => e = .returned (.tuple #[]) ∧ Grew w0 w' ∧ Owns w' B [stRn g n cap A f L.reverse] := by
  subst hn
  obtain ⟨g', c', eg, hBg, hgl, _⟩ := hO.some (k := 0) rfl h0
  simp only [Value.slice.injEq, Option.some.injEq, Addr.mk.injEq, and_true, true_and] at eg
  obtain ⟨rfl, rfl⟩ := eg
  have HO := Lib.hid hO
  have Hg := Lib.hid hg
  obtain ⟨n, hn⟩ : ∃ n, L.length = n := ⟨_, rfl⟩
  have Hn := Lib.hid hn
  rw [hn] at HO hn1 h0 ⊢
  clear hO hg hn
  go_enter Try.func35, Try.ntmps35
  go_wp2
  go_loopw [2, 3] (fun v2 v3 wq => ∃ i : Nat, 2 * i ≤ n ∧ v2 = .int .i64 i ∧ v3 = .int .i64 ((n : Int) - 1 - i) ∧ Grew w0 wq ∧ Owns wq B [stRn g n cap A f (revL L i)]) (fun v2 _ _ => n - (intOf v2).toNat)
  case atStart =>
    refine ⟨0, by omega, rfl, by simp, Hg.out, ?_⟩
    rw [← revL_zero]
    exact HO.out
  case round =>
    obtain ⟨i, hi, rfl, rfl, hgq, hOq⟩ := hrel
    have Hgq := Lib.hid hgq
    have HOq := Lib.hid hOq
    clear hgq hOq
    by_cases hlt : 2 * i + 1 < n
    · obtain ⟨j, hj⟩ : ∃ j, j + i + 1 = n := ⟨n - 1 - i, by omega⟩
      have hij : i < j := by omega
      have ej : (n : Int) - 1 - i = j := by omega
      have hlen := Hn.out
      have ri := revL_mid L (i := i) (t := i) (by omega) (by omega) (by omega)
      have rj := revL_mid L (i := i) (t := j) (by omega) (by omega) (by omega)
      have Hst := Lib.hid (revL_step L (i := i) (j := j) (by omega) hij)
      obtain ⟨⟨a1, b1⟩, h1⟩ : ∃ x, lg L i = x := ⟨_, rfl⟩
      obtain ⟨⟨a2, b2⟩, h2⟩ : ∃ x, lg L j = x := ⟨_, rfl⟩
      rw [h1] at ri Hst
      rw [h2] at rj Hst
      obtain ⟨_, _, hgl2, nG, mG⟩ := own_blk6 HOq.out
      have c10 := mG (i * 6) _ (by rw [← Nat.add_zero (i * 6)]; exact (stVs_get A f ri 0 (by omega)).trans rfl)
      have c11 := mG (i * 6 + 1) _ ((stVs_get A f ri 1 (by omega)).trans rfl)
      have c12 := mG (i * 6 + 2) _ ((stVs_get A f ri 2 (by omega)).trans rfl)
      have c13 := mG (i * 6 + 3) _ ((stVs_get A f ri 3 (by omega)).trans rfl)
      have c14 := mG (i * 6 + 4) _ ((stVs_get A f ri 4 (by omega)).trans rfl)
      have c15 := mG (i * 6 + 5) _ ((stVs_get A f ri 5 (by omega)).trans rfl)
      have c20 := mG (j * 6) _ (by rw [← Nat.add_zero (j * 6)]; exact (stVs_get A f rj 0 (by omega)).trans rfl)
      have c21 := mG (j * 6 + 1) _ ((stVs_get A f rj 1 (by omega)).trans rfl)
      have c22 := mG (j * 6 + 2) _ ((stVs_get A f rj 2 (by omega)).trans rfl)
      have c23 := mG (j * 6 + 3) _ ((stVs_get A f rj 3 (by omega)).trans rfl)
      have c24 := mG (j * 6 + 4) _ ((stVs_get A f rj 4 (by omega)).trans rfl)
      have c25 := mG (j * 6 + 5) _ ((stVs_get A f rj 5 (by omega)).trans rfl)
      have hne : i ≠ j := by omega
      have hne2 : j ≠ i := by omega
      have hin : i < n := by omega
      have hjn : j < n := by omega
      rw [ej]
      have f1 := fun k => nG k
      clear mG ri rj h1 h2 hlen nG
      go_upto_region 3 with fail
      refine wp_region_lex (Two 13 15 (fun b c => if c then ((((((((((((wr.setCell ⟨g, i * 6, none⟩ (.int .i64 (sF A a2 b2 : Int))).setCell ⟨g, i * 6 + 1, none⟩ (.int .i64 (sT A a2 b2 : Int))).setCell ⟨g, i * 6 + 2, none⟩ (.int .i64 (cst A a2))).setCell ⟨g, i * 6 + 3, none⟩ (.int .i64 (sR A f a2 b2))).setCell ⟨g, i * 6 + 4, none⟩ (.int .i64 (a2 : Int))).setCell ⟨g, i * 6 + 5, none⟩ (.bool b2)).setCell ⟨g, j * 6, none⟩ (.int .i64 (sF A a1 b1 : Int))).setCell ⟨g, j * 6 + 1, none⟩ (.int .i64 (sT A a1 b1 : Int))).setCell ⟨g, j * 6 + 2, none⟩ (.int .i64 (cst A a1))).setCell ⟨g, j * 6 + 3, none⟩ (.int .i64 (sR A f a1 b1))).setCell ⟨g, j * 6 + 4, none⟩ (.int .i64 (a1 : Int))).setCell ⟨g, j * 6 + 5, none⟩ (.bool b1)) else if b then ((((((wr.setCell ⟨g, i * 6, none⟩ (.int .i64 (sF A a2 b2 : Int))).setCell ⟨g, i * 6 + 1, none⟩ (.int .i64 (sT A a2 b2 : Int))).setCell ⟨g, i * 6 + 2, none⟩ (.int .i64 (cst A a2))).setCell ⟨g, i * 6 + 3, none⟩ (.int .i64 (sR A f a2 b2))).setCell ⟨g, i * 6 + 4, none⟩ (.int .i64 (a2 : Int))).setCell ⟨g, i * 6 + 5, none⟩ (.bool b2)) else wr)) (by kernel_rfl) (by kernel_rfl) ?_ ?_
      · (repeat (first | exact Grew.refl _ | refine Grew.over ?_ _ | refine Grew.alloc ?_ _ | refine Grew.drew ?_ | refine Grew.drewN ?_ _))
      repeat (first
        | (refine lex_skip rfl ?_ ?_
           · exact Two.keep (by decide) (by decide)
           (try simp only [Act.put, List.setIfInBounds_toArray, List.set_cons_zero, List.set_cons_succ]))
        | (refine lex_pure (v := ?_) rfl ?_ (fun d w hd hr hC => ?_) ?_
           rotate_left
           · exact Two.keep (by decide) (by decide)
           · (first
               | (have hs1 := closed_undone (s := 13) hr.2 rfl (by decide +kernel) hd; have hs2 := closed_undone (s := 15) hr.2 rfl (by decide +kernel) hd; unfold Two at hC; rw [hs1, hs2] at hC; obtain ⟨x, rfl⟩ := hC; simp [go_sem, ↓IntWalk.iteOmega, c10, c11, c12, c13, c14, c15, c20, c21, c22, c23, c24, c25, f1, hne, hne2, hin, hjn, Nat.not_le.2 hgl2]; try rfl)
               | (have hs2 := closed_undone (s := 15) hr.2 rfl (by decide +kernel) hd; unfold Two at hC; rw [hs2] at hC; cases hs1 : d 13 <;> rw [hs1] at hC <;> obtain ⟨x, rfl⟩ := hC <;> simp [go_sem, ↓IntWalk.iteOmega, c10, c11, c12, c13, c14, c15, c20, c21, c22, c23, c24, c25, f1, hne, hne2, hin, hjn, Nat.not_le.2 hgl2] <;> (try rfl))
               | (obtain ⟨x, rfl⟩ := hC; simp [go_sem, ↓IntWalk.iteOmega, c10, c11, c12, c13, c14, c15, c20, c21, c22, c23, c24, c25, f1, hne, hne2, hin, hjn, Nat.not_le.2 hgl2]; try rfl))
           (try simp only [Act.put, List.setIfInBounds_toArray, List.set_cons_zero, List.set_cons_succ]))
        | (refine lex_store rfl (fun d w hd hr hC => ?_) ?_
           · (first
               | (have hs2 := closed_undone (s := 15) hr.2 rfl (by decide +kernel) hd; unfold Two at hC ⊢; rw [mark_same, mark_other _ (by decide), hs2]; rw [hd, hs2] at hC; obtain ⟨x, rfl⟩ := hC; refine ⟨?_, ?_, ?_⟩; rotate_left; (simp [go_sem, ↓IntWalk.iteOmega, c10, c11, c12, c13, c14, c15, c20, c21, c22, c23, c24, c25, f1, hne, hne2, hin, hjn, Nat.not_le.2 hgl2]; try rfl); (simp; exact ⟨_, rfl⟩))
               | (have hs1 := ready_done (k := 13) hr.1 (by decide +kernel); unfold Two at hC ⊢; rw [mark_same, mark_other _ (by decide), hs1]; rw [hd, hs1] at hC; obtain ⟨x, rfl⟩ := hC; refine ⟨?_, ?_, ?_⟩; rotate_left; (simp [go_sem, ↓IntWalk.iteOmega, c10, c11, c12, c13, c14, c15, c20, c21, c22, c23, c24, c25, f1, hne, hne2, hin, hjn, Nat.not_le.2 hgl2]; try rfl); (simp; exact ⟨_, rfl⟩)))
           (try simp only [Act.put, List.setIfInBounds_toArray, List.set_cons_zero, List.set_cons_succ])))
      refine lex_nil ?_
      intro dLx w hd hC
      unfold Two at hC; rw [hd 13 (by decide), hd 15 (by decide)] at hC; obtain ⟨x, rfl⟩ := hC; simp only [if_true]
      obtain ⟨w5, hw5⟩ : ∃ w5, ((((((((((((wr.setCell ⟨g, i * 6, none⟩ (.int .i64 (sF A a2 b2 : Int))).setCell ⟨g, i * 6 + 1, none⟩ (.int .i64 (sT A a2 b2 : Int))).setCell ⟨g, i * 6 + 2, none⟩ (.int .i64 (cst A a2))).setCell ⟨g, i * 6 + 3, none⟩ (.int .i64 (sR A f a2 b2))).setCell ⟨g, i * 6 + 4, none⟩ (.int .i64 (a2 : Int))).setCell ⟨g, i * 6 + 5, none⟩ (.bool b2)).setCell ⟨g, j * 6, none⟩ (.int .i64 (sF A a1 b1 : Int))).setCell ⟨g, j * 6 + 1, none⟩ (.int .i64 (sT A a1 b1 : Int))).setCell ⟨g, j * 6 + 2, none⟩ (.int .i64 (cst A a1))).setCell ⟨g, j * 6 + 3, none⟩ (.int .i64 (sR A f a1 b1))).setCell ⟨g, j * 6 + 4, none⟩ (.int .i64 (a1 : Int))).setCell ⟨g, j * 6 + 5, none⟩ (.bool b1)) = w5 := ⟨_, rfl⟩
      have HO5 : Hid (Owns w5 B [stRn g n cap A f (revL L (i + 1))]) := Lib.hid (by
        have hl := Hn.out
        have h1 := own_setSt HOq.out (t := i) (by rw [revL_len]; omega) a2 b2
        have h2 := own_setSt h1 (t := j) (by rw [List.length_set, revL_len]; omega) a1 b1
        rw [Hst.out, hw5] at h2
        exact h2)
      have Hg5 : Hid (Grew w0 w5) := Lib.hid (by
        rw [← hw5]
        have hB2 := Nat.le_trans hB hBg
        exact Hgq.out.setCell hB2 _ |>.setCell hB2 _ |>.setCell hB2 _ |>.setCell hB2 _ |>.setCell hB2 _ |>.setCell hB2 _ |>.setCell hB2 _ |>.setCell hB2 _ |>.setCell hB2 _ |>.setCell hB2 _ |>.setCell hB2 _ |>.setCell hB2 _)
      rw [hw5]
      clear hw5
      go_wp2
      go_roundw
      case rel => exact ⟨i + 1, by omega, by go_num, by go_num, Hg5.out.trans (by (repeat (first | exact Grew.refl _ | refine Grew.over ?_ _ | refine Grew.alloc ?_ _ | refine Grew.drew ?_ | refine Grew.drewN ?_ _))), HO5.out.grew (by (repeat (first | exact Grew.refl _ | refine Grew.over ?_ _ | refine Grew.alloc ?_ _ | refine Grew.drew ?_ | refine Grew.drewN ?_ _)))⟩
      case measure => simp [intOf]; omega
    · have He : Hid (revL L i = L.reverse) := Lib.hid (revL_all L (by rw [Hn.out]; omega) (by rw [Hn.out]; omega))
      go_wp2
      refine bodyPost_end (results_none rfl _ _ _) rfl ?_
      exact ⟨rfl, Hgq.out.trans (by (repeat (first | exact Grew.refl _ | refine Grew.over ?_ _ | refine Grew.alloc ?_ _ | refine Grew.drew ?_ | refine Grew.drewN ?_ _))), by rw [← He.out]; exact HOq.out.grew (by (repeat (first | exact Grew.refl _ | refine Grew.over ?_ _ | refine Grew.alloc ?_ _ | refine Grew.drew ?_ | refine Grew.drewN ?_ _)))⟩
end Go.Proofs.Ytnnlhmialmhpfaa
