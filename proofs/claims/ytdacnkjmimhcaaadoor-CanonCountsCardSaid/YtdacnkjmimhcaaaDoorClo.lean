/- slices.Clone and slices.Reverse of lists of numbers. -/
import Derived.Test.YtdacnkjmimhcaaaDoorRotJ
set_option linter.unusedSimpArgs false
set_option linter.unusedVariables false
namespace Go.Proofs.YtdacnkjmimhcaaaDoor
open Go.RowKit
attribute [local go_sem ↓] Go.wp_at_zero Go.wp_at_succ

theorem clone_i (p : Option Addr) (n cap : Nat) (xs : List Int) (w : World) (hI : Ints w p xs) (hl : xs.length ≤ 100) (hn : xs.length = n) :
    Calls Tryd.prog 21 #[.slice p n cap] w fun e w' => Grew w w' ∧ ∃ q c, e = .returned (.slice q n c) ∧ Owns w' w.heap.size [⟨.slice q n c, 3, 1, n, intVs xs⟩] := by
  subst hn
  have HI := Lib.hid hI
  cases p with
  | none =>
    have h0 : xs = [] := by
      cases xs with
      | nil => rfl
      | cons a xs => obtain ⟨_, _, e, _⟩ := hI.cells (by simp); cases e
    subst h0
    have heq := fun W => Lib.run_eql_slice_nil (P := Tryd.prog) W 26 3 none 0 cap 0 0 Tryd.underlying26
    clear hI
    go_enter Tryd.func21, Tryd.ntmps21
    go_wp2
    go_ret
    exact ⟨by (repeat (first | exact Grew.refl _ | refine Grew.over ?_ _ | refine Grew.alloc ?_ _ | refine Grew.drew ?_ | refine Grew.drewN ?_ _)), none, 0, rfl, (Owns.nil w w.heap.size).none _ _⟩
  | some a =>
    have heq := fun W => Lib.run_eql_slice_nil (P := Tryd.prog) W 26 3 (some a) xs.length cap 0 0 Tryd.underlying26
    clear hI
    go_enter Tryd.func21, Tryd.ntmps21
    go_wp2_with (at_builtin; refine wp_append_owns rfl _ _ 26 rfl 3 1 8 (.int .i64 0) Tryd.underlying26 Tryd.infoInt rfl (by decide) w.heap.size _ 0 _ _ _ ((Owns.nil w w.heap.size).made (Nat.le_refl _) #[] 3 1 0 w.heap.size rfl (by decide) rfl) rfl rfl _ xs.length cap rfl (intVs xs) (by rw [intVs_length, Nat.mul_one]) (fun h => by cases h) (Ints.news (HI.out.grew (by (repeat (first | exact Grew.refl _ | refine Grew.over ?_ _ | refine Grew.alloc ?_ _ | refine Grew.drew ?_ | refine Grew.drewN ?_ _))))) (intVs_one xs) (by simp only [maxLen]; omega) (by omega) (by first | rfl | omega | (simp <;> omega)) ?_; intro v1 w1 hO1 hg1 hb1 hv1; have Hg1 := Lib.hid (Grew.grownBy (w0 := w) (by (repeat (first | exact Grew.refl _ | refine Grew.over ?_ _ | refine Grew.alloc ?_ _ | refine Grew.drew ?_ | refine Grew.drewN ?_ _))) hg1 (fun g h => hb1 g h)); have HO1 := Lib.hid hO1; clear hO1 hg1 hb1 hv1)
    go_ret
    have h := HO1.out
    simp only [List.set_cons_zero, Nat.zero_add, List.nil_append] at h
    obtain ⟨q, c, rfl, _⟩ := h.form (k := 0) rfl
    exact ⟨Hg1.out, q, c, rfl, h⟩

/-- What has been turned round when the first i and the last i have changed places. -/
def revI (n : Nat) (xs : List Int) (i : Nat) : List Int := tab n fun t => if t < i ∨ n ≤ t + i then ge xs (n - 1 - t) else ge xs t
theorem revI_len (n : Nat) (xs : List Int) (i : Nat) : (revI n xs i).length = n := tab_length _ _
theorem revI_zero {n : Nat} {xs : List Int} (h : xs.length = n) : xs = revI n xs 0 := tab_of h fun u hu => by rw [if_neg (by omega)]
theorem revI_get {n : Nat} {xs : List Int} {i t : Nat} (ht : t < n) (h1 : ¬ t < i) (h2 : ¬ n ≤ t + i) : ge (revI n xs i) t = ge xs t := by
  unfold revI
  rw [ge_tab _ ht, if_neg (by omega)]
theorem revI_step {n : Nat} {xs : List Int} {i j : Nat} (hj : j + i + 1 = n) (hij : i < j) : ((revI n xs i).set i (ge xs j)).set j (ge xs i) = revI n xs (i + 1) := by
  unfold revI
  rw [tab_set _ _ (by omega), tab_set _ _ (by omega)]
  refine tab_congr fun u hu => ?_
  by_cases h1 : u = j
  · rw [if_pos h1, if_pos (by omega)]; congr 1; omega
  · rw [if_neg h1]
    by_cases h2 : u = i
    · rw [if_pos h2, if_pos (by omega)]; congr 1; omega
    · rw [if_neg h2]
      by_cases h3 : u < i ∨ n ≤ u + i
      · rw [if_pos h3, if_pos (by omega)]
      · rw [if_neg h3, if_neg (by omega)]
theorem revI_all {n : Nat} {xs : List Int} {i : Nat} (h : xs.length = n) (hi : n ≤ 2 * i + 1) (hi2 : 2 * i ≤ n) : revI n xs i = xs.reverse := by
  refine list_ext_ge (by rw [revI_len, List.length_reverse, h]) fun u hu => ?_
  rw [revI_len] at hu
  have hr : ge xs.reverse u = ge xs (n - 1 - u) := by
    rw [ge_eq _ (by rw [List.length_reverse]; omega), List.getElem_reverse, ge_eq _ (by omega)]
    congr 1
    omega
  rw [hr]
  unfold revI
  rw [ge_tab _ hu]
  split
  · rfl
  · congr 1; omega

set_option maxRecDepth 8000 in
set_option maxHeartbeats 4000000 in
theorem reverse_i (p : Option Addr) (n cap B k : Nat) (xs : List Int) (w w0 : World) (rs : List Row) (hO : Owns w B rs) (hk : rs[k]? = some ⟨.slice p n cap, 3, 1, n, intVs xs⟩) (hn : xs.length = n) (hn1 : n ≤ 100) (hB : w0.heap.size ≤ B) (hg : Grew w0 w) :
    Calls Tryd.prog 29 #[.slice p n cap] w fun e w' => e = .returned (.tuple #[]) ∧ Grew w0 w' ∧ Owns w' B (rs.set k ⟨.slice p n cap, 3, 1, n, intVs xs.reverse⟩) := by
  by_cases h0 : n = 0
  · subst h0
    have hx : xs = [] := List.length_eq_zero_iff.1 hn
    subst hx
    have Hr : Hid (rs.set k ⟨.slice p 0 cap, 3, 1, 0, intVs []⟩ = rs) := Lib.hid (by
      obtain ⟨h3, h4⟩ := List.getElem?_eq_some_iff.1 hk
      rw [← h4]
      exact List.set_getElem_self h3)
    have HO := Lib.hid hO
    have Hg := Lib.hid hg
    clear hO hg hk
    go_enter Tryd.func29, Tryd.ntmps29
    go_wp2
    go_loop [2, 3] (fun v2 v3 => v2 = .int .i64 0 ∧ v3 = .int .i64 (-1)) (fun _ _ => 0)
    case atStart => exact ⟨rfl, rfl⟩
    case round =>
    obtain ⟨rfl, rfl⟩ := hrel
    go_wp2
    refine bodyPost_end (results_none rfl _ _ _) rfl ?_
    exact ⟨rfl, Hg.out.trans (by (repeat (first | exact Grew.refl _ | refine Grew.over ?_ _ | refine Grew.alloc ?_ _ | refine Grew.drew ?_ | refine Grew.drewN ?_ _))), by rw [Hr.out]; exact HO.out.grew (by (repeat (first | exact Grew.refl _ | refine Grew.over ?_ _ | refine Grew.alloc ?_ _ | refine Grew.drew ?_ | refine Grew.drewN ?_ _)))⟩
  obtain ⟨g, c', eg, hBg, hgl, hle, hmx, _, _⟩ := hO.some hk (by omega)
  cases eg
  have HO := Lib.hid hO
  have Hg := Lib.hid hg
  have Hn := Lib.hid hn
  have Hk := Lib.hid hk
  have hkl := (List.getElem?_eq_some_iff.1 hk).1
  clear hO hg hk hn
  go_enter Tryd.func29, Tryd.ntmps29
  go_wp2
  go_loopw [2, 3] (fun v2 v3 wq => ∃ i : Nat, 2 * i ≤ n ∧ v2 = .int .i64 i ∧ v3 = .int .i64 ((n : Int) - 1 - i) ∧ Grew w0 wq ∧ Owns wq B (rs.set k ⟨.slice (some ⟨g, 0, none⟩) n cap, 3, 1, n, intVs (revI n xs i)⟩)) (fun v2 _ _ => n - (intOf v2).toNat)
  case atStart =>
    refine ⟨0, by omega, rfl, by simp, Hg.out, ?_⟩
    rw [← revI_zero Hn.out]
    obtain ⟨h3, h4⟩ := List.getElem?_eq_some_iff.1 Hk.out
    rw [← h4, List.set_getElem_self h3]
    exact HO.out
  case round =>
    obtain ⟨i, hi, rfl, rfl, hgq, hOq⟩ := hrel
    have Hgq := Lib.hid hgq
    have HOq := Lib.hid hOq
    clear hgq hOq
    by_cases hlt : 2 * i + 1 < n
    · obtain ⟨j, hj⟩ : ∃ j, j + i + 1 = n := ⟨n - 1 - i, by omega⟩
      have hij : i < j := by omega
      have ej : (n : Int) - 1 - i = j := by omega
      have hrk : (rs.set k ⟨.slice (some ⟨g, 0, none⟩) n cap, 3, 1, n, intVs (revI n xs i)⟩)[k]? = some ⟨.slice (some ⟨g, 0, none⟩) n cap, 3, 1, n, intVs (revI n xs i)⟩ := by simp [hkl]
      obtain ⟨g', cx, eg, _, hgl2, _, _, nG, mG⟩ := HOq.out.some hrk (by omega)
      cases eg
      have c1 := mG i _ (intVs_get _ (by rw [revI_len]; omega))
      have c2 := mG j _ (intVs_get _ (by rw [revI_len]; omega))
      rw [revI_get (by omega) (by omega) (by omega)] at c1 c2
      have f1 := nG i
      have f2 := nG j
      have hne : i ≠ j := by omega
      have hne2 : j ≠ i := by omega
      have hin : i < n := by omega
      have hjn : j < n := by omega
      have Hrk := Lib.hid hrk
      have Hst := Lib.hid (revI_step (xs := xs) hj hij)
      obtain ⟨vx, hx⟩ : ∃ x, ge xs i = x := ⟨_, rfl⟩
      obtain ⟨vy, hy⟩ : ∃ y, ge xs j = y := ⟨_, rfl⟩
      rw [hx] at c1 Hst
      rw [hy] at c2 Hst
      rw [ej]
      clear nG mG hrk hx hy
      go_upto_region 3 with fail
      refine wp_region_lex (Two 13 15 (fun b c => if c then (wr.setCell ⟨g, i, none⟩ (.int .i64 vy)).setCell ⟨g, j, none⟩ (.int .i64 vx) else if b then wr.setCell ⟨g, i, none⟩ (.int .i64 vy) else wr)) (by kernel_rfl) (by kernel_rfl) ?_ ?_
      · (repeat (first | exact Grew.refl _ | refine Grew.over ?_ _ | refine Grew.alloc ?_ _ | refine Grew.drew ?_ | refine Grew.drewN ?_ _))
      repeat (first
        | (refine lex_skip rfl ?_ ?_
           · exact Two.keep (by decide) (by decide)
           (try simp only [Act.put, List.setIfInBounds_toArray, List.set_cons_zero, List.set_cons_succ]))
        | (refine lex_pure (v := ?_) rfl ?_ (fun d w hd hr hC => ?_) ?_
           rotate_left
           · exact Two.keep (by decide) (by decide)
           · (first
               | (have hs1 := closed_undone (s := 13) hr.2 rfl (by decide +kernel) hd; have hs2 := closed_undone (s := 15) hr.2 rfl (by decide +kernel) hd; unfold Two at hC; rw [hs1, hs2] at hC; obtain ⟨x, rfl⟩ := hC; simp [go_sem, ↓IntWalk.iteOmega, c1, c2, f1, f2, hne, hne2, hin, hjn, Nat.not_le.2 hgl2]; try rfl)
               | (have hs2 := closed_undone (s := 15) hr.2 rfl (by decide +kernel) hd; unfold Two at hC; rw [hs2] at hC; cases hs1 : d 13 <;> rw [hs1] at hC <;> obtain ⟨x, rfl⟩ := hC <;> simp [go_sem, ↓IntWalk.iteOmega, c1, c2, f1, f2, hne, hne2, hin, hjn, Nat.not_le.2 hgl2] <;> (try rfl))
               | (obtain ⟨x, rfl⟩ := hC; simp [go_sem, ↓IntWalk.iteOmega, c1, c2, f1, f2, hne, hne2, hin, hjn, Nat.not_le.2 hgl2]; try rfl))
           (try simp only [Act.put, List.setIfInBounds_toArray, List.set_cons_zero, List.set_cons_succ]))
        | (refine lex_store rfl (fun d w hd hr hC => ?_) ?_
           · (first
               | (have hs2 := closed_undone (s := 15) hr.2 rfl (by decide +kernel) hd; unfold Two at hC ⊢; rw [mark_same, mark_other _ (by decide), hs2]; rw [hd, hs2] at hC; obtain ⟨x, rfl⟩ := hC; refine ⟨?_, ?_, ?_⟩; rotate_left; (simp [go_sem, ↓IntWalk.iteOmega, c1, c2, f1, f2, hne, hne2, hin, hjn, Nat.not_le.2 hgl2]; try rfl); (simp; exact ⟨_, rfl⟩))
               | (have hs1 := ready_done (k := 13) hr.1 (by decide +kernel); unfold Two at hC ⊢; rw [mark_same, mark_other _ (by decide), hs1]; rw [hd, hs1] at hC; obtain ⟨x, rfl⟩ := hC; refine ⟨?_, ?_, ?_⟩; rotate_left; (simp [go_sem, ↓IntWalk.iteOmega, c1, c2, f1, f2, hne, hne2, hin, hjn, Nat.not_le.2 hgl2]; try rfl); (simp; exact ⟨_, rfl⟩)))
           (try simp only [Act.put, List.setIfInBounds_toArray, List.set_cons_zero, List.set_cons_succ])))
      refine lex_nil ?_
      intro dLx w hd hC
      unfold Two at hC; rw [hd 13 (by decide), hd 15 (by decide)] at hC; obtain ⟨x, rfl⟩ := hC; simp only [if_true]
      go_wp2
      go_roundw
      case rel =>
        have h0 := HOq.out.set Hrk.out i (.int .i64 vy)
        have h1 := h0.set (k := k) (e := 3) (sz := 1) (n := n) (g := g) (cap := cap) (vs := (intVs (revI n xs i)).set i (.int .i64 vy)) (by simp [hkl]) j (.int .i64 vx)
        rw [intVs_set, intVs_set, Hst.out, List.set_set, List.set_set] at h1
        refine ⟨i + 1, by omega, by go_num, by go_num, ((Hgq.out.setCell (p := ⟨g, i, none⟩) (Nat.le_trans hB hBg) _).setCell (p := ⟨g, j, none⟩) (Nat.le_trans hB hBg) _).trans (by (repeat (first | exact Grew.refl _ | refine Grew.over ?_ _ | refine Grew.alloc ?_ _ | refine Grew.drew ?_ | refine Grew.drewN ?_ _))), h1.grew (by (repeat (first | exact Grew.refl _ | refine Grew.over ?_ _ | refine Grew.alloc ?_ _ | refine Grew.drew ?_ | refine Grew.drewN ?_ _)))⟩
      case measure => simp [intOf]; omega
    · have He : Hid (revI n xs i = xs.reverse) := Lib.hid (revI_all Hn.out (by omega) hi)
      go_wp2
      refine bodyPost_end (results_none rfl _ _ _) rfl ?_
      exact ⟨rfl, Hgq.out.trans (by (repeat (first | exact Grew.refl _ | refine Grew.over ?_ _ | refine Grew.alloc ?_ _ | refine Grew.drew ?_ | refine Grew.drewN ?_ _))), by rw [← He.out]; exact HOq.out.grew (by (repeat (first | exact Grew.refl _ | refine Grew.over ?_ _ | refine Grew.alloc ?_ _ | refine Grew.drew ?_ | refine Grew.drewN ?_ _)))⟩
end Go.Proofs.YtdacnkjmimhcaaaDoor
