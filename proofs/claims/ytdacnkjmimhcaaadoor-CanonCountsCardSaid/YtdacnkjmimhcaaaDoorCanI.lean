/- The peeling of the program: take. -/
import Derived.Test.YtdacnkjmimhcaaaDoorCanH
set_option linter.unusedSimpArgs false
set_option linter.unusedVariables false
namespace Go.Proofs.YtdacnkjmimhcaaaDoor
open Go.RowKit
attribute [local go_sem ↓] Go.wp_at_zero Go.wp_at_succ

section
variable {P : Program} {Q : Exit → Act → World → Prop} {md : Region.Mode} {S : World → Prop} {s : Nat}
/-- An operation is taken first; S holds behind each operation. -/
theorem wpAnyT_takeV {l : List Oper} {i : Nat} {oi : Oper} {v : Value} {fuel : Nat} {listed : Array Bool} {a : Act} {w : World} (hi : l[i]? = some oi)
    (hn : Region.noSelect l.toArray = true) (hf : Region.free md l.toArray listed i = true) (hr : (Region.ready md l.toArray listed).contains i = true) (hs : l.length ≤ s)
    (hQ : ∀ c a w, Q (.panic c) (a.put oi.dst v) w → Q (.panic c) a w) (hy : YieldsIf P l.toArray S oi v a) (hS : S w)
    (h : wpAnyT P md l.toArray Q S s fuel (listed.setIfInBounds i true) (a.put oi.dst v) w) : wpAnyT P md l.toArray Q S s (fuel + 1) listed a w :=
  wpAnyT_first (by simpa using hi) (Region.noSelect_spec hn) hQ (fun listed h => by
    obtain ⟨_, os, hos, _⟩ := mem_ready.1 h
    rw [Array.getElem?_eq_none (by simpa using hs)] at hos
    cases hos) fuel listed a w (Region.free_spec (by simpa using hi) hf) (by simpa using hr) hy hS h
end

set_option maxRecDepth 8000 in
set_option maxHeartbeats 4000000 in
/-- slices.Reverse of a slice of the call's own without its first element. -/
theorem reverse_1 (g n c cap B k : Nat) (x0 : Int) (xs : List Int) (w w0 : World) (rs : List Row) (hO : Owns w B rs) (hk : rs[k]? = some ⟨.slice (some ⟨g, 0, none⟩) (n + 1) cap, 3, 1, n + 1, intVs (x0 :: xs)⟩) (hn : xs.length = n) (hn1 : n ≤ 100) (hB : w0.heap.size ≤ B) (hg : Grew w0 w) :
    Calls Tryd.prog 29 #[.slice (some ⟨g, 1, none⟩) n c] w fun e w' => e = .returned (.tuple #[]) ∧ Grew w0 w' ∧ Owns w' B (rs.set k ⟨.slice (some ⟨g, 0, none⟩) (n + 1) cap, 3, 1, n + 1, intVs (x0 :: xs.reverse)⟩) := by
  obtain ⟨g', c', eg, hBg, hgl, hle, hmx, _, _⟩ := hO.some hk (by omega)
  cases eg
  have HO := Lib.hid hO
  have Hg := Lib.hid hg
  have Hn := Lib.hid hn
  have Hk := Lib.hid hk
  have hkl := (List.getElem?_eq_some_iff.1 hk).1
  clear hO hg hk hn
  go_enter Tryd.func29, Tryd.ntmps29
  go_wp2
  go_loopw [2, 3] (fun v2 v3 wq => ∃ i : Nat, 2 * i ≤ n ∧ v2 = .int .i64 i ∧ v3 = .int .i64 ((n : Int) - 1 - i) ∧ Grew w0 wq ∧ Owns wq B (rs.set k ⟨.slice (some ⟨g, 0, none⟩) (n + 1) cap, 3, 1, n + 1, intVs (x0 :: revI n xs i)⟩)) (fun v2 _ _ => n - (intOf v2).toNat)
  case atStart =>
    refine ⟨0, by omega, rfl, by simp, Hg.out, ?_⟩
    rw [← revI_zero Hn.out]
    obtain ⟨h3, h4⟩ := List.getElem?_eq_some_iff.1 Hk.out
    rw [← h4, List.set_getElem_self h3]
    exact HO.out
  case round =>
    obtain ⟨i, hi, rfl, rfl, hgq, hOq⟩ := hrel
    have Hgq := Lib.hid hgq
    have HOq := Lib.hid hOq
    clear hgq hOq
    by_cases hlt : 2 * i + 1 < n
    · obtain ⟨j, hj⟩ : ∃ j, j + i + 1 = n := ⟨n - 1 - i, by omega⟩
      have hij : i < j := by omega
      have ej : (n : Int) - 1 - i = j := by omega
      have hrk : (rs.set k ⟨.slice (some ⟨g, 0, none⟩) (n + 1) cap, 3, 1, n + 1, intVs (x0 :: revI n xs i)⟩)[k]? = some ⟨.slice (some ⟨g, 0, none⟩) (n + 1) cap, 3, 1, n + 1, intVs (x0 :: revI n xs i)⟩ := by simp [hkl]
      obtain ⟨g', cx, eg, _, hgl2, _, _, nG, mG⟩ := HOq.out.some hrk (by omega)
      cases eg
      have hgi : ∀ t, ge (x0 :: revI n xs i) (1 + t) = ge (revI n xs i) t := fun t => by unfold ge; rw [Nat.add_comm]; rfl
      have c1 := mG (1 + i) _ (intVs_get _ (by rw [List.length_cons, revI_len]; omega))
      have c2 := mG (1 + j) _ (intVs_get _ (by rw [List.length_cons, revI_len]; omega))
      rw [hgi, revI_get (by omega) (by omega) (by omega)] at c1 c2
      have f1 := nG (1 + i)
      have f2 := nG (1 + j)
      have hne : i ≠ j := by omega
      have hne2 : j ≠ i := by omega
      have hin : i < n := by omega
      have hjn : j < n := by omega
      have Hrk := Lib.hid hrk
      have Hst := Lib.hid (revI_step (xs := xs) hj hij)
      obtain ⟨vx, hx⟩ : ∃ x, ge xs i = x := ⟨_, rfl⟩
      obtain ⟨vy, hy⟩ : ∃ y, ge xs j = y := ⟨_, rfl⟩
      rw [hx] at c1 Hst
      rw [hy] at c2 Hst
      rw [ej]
      clear nG mG hrk hx hy hgi
      go_upto_region 3 with fail
      refine wp_region_lex (Two 13 15 (fun b c => if c then (wr.setCell ⟨g, 1 + i, none⟩ (.int .i64 vy)).setCell ⟨g, 1 + j, none⟩ (.int .i64 vx) else if b then wr.setCell ⟨g, 1 + i, none⟩ (.int .i64 vy) else wr)) (by kernel_rfl) (by kernel_rfl) ?_ ?_
      · (repeat (first | exact Grew.refl _ | refine Grew.over ?_ _ | refine Grew.alloc ?_ _ | refine Grew.drew ?_ | refine Grew.drewN ?_ _))
      repeat (first
        | (refine lex_skip rfl ?_ ?_
           · exact Two.keep (by decide) (by decide)
           (try simp only [Act.put, List.setIfInBounds_toArray, List.set_cons_zero, List.set_cons_succ]))
        | (refine lex_pure (v := ?_) rfl ?_ (fun d w hd hr hC => ?_) ?_
           rotate_left
           · exact Two.keep (by decide) (by decide)
           · (first
               | (have hs1 := closed_undone (s := 13) hr.2 rfl (by decide +kernel) hd; have hs2 := closed_undone (s := 15) hr.2 rfl (by decide +kernel) hd; unfold Two at hC; rw [hs1, hs2] at hC; obtain ⟨x, rfl⟩ := hC; simp [go_sem, ↓IntWalk.iteOmega, c1, c2, f1, f2, hne, hne2, hin, hjn, Nat.not_le.2 hgl2]; try rfl)
               | (have hs2 := closed_undone (s := 15) hr.2 rfl (by decide +kernel) hd; unfold Two at hC; rw [hs2] at hC; cases hs1 : d 13 <;> rw [hs1] at hC <;> obtain ⟨x, rfl⟩ := hC <;> simp [go_sem, ↓IntWalk.iteOmega, c1, c2, f1, f2, hne, hne2, hin, hjn, Nat.not_le.2 hgl2] <;> (try rfl))
               | (obtain ⟨x, rfl⟩ := hC; simp [go_sem, ↓IntWalk.iteOmega, c1, c2, f1, f2, hne, hne2, hin, hjn, Nat.not_le.2 hgl2]; try rfl))
           (try simp only [Act.put, List.setIfInBounds_toArray, List.set_cons_zero, List.set_cons_succ]))
        | (refine lex_store rfl (fun d w hd hr hC => ?_) ?_
           · (first
               | (have hs2 := closed_undone (s := 15) hr.2 rfl (by decide +kernel) hd; unfold Two at hC ⊢; rw [mark_same, mark_other _ (by decide), hs2]; rw [hd, hs2] at hC; obtain ⟨x, rfl⟩ := hC; refine ⟨?_, ?_, ?_⟩; rotate_left; (simp [go_sem, ↓IntWalk.iteOmega, c1, c2, f1, f2, hne, hne2, hin, hjn, Nat.not_le.2 hgl2]; try rfl); (simp; exact ⟨_, rfl⟩))
               | (have hs1 := ready_done (k := 13) hr.1 (by decide +kernel); unfold Two at hC ⊢; rw [mark_same, mark_other _ (by decide), hs1]; rw [hd, hs1] at hC; obtain ⟨x, rfl⟩ := hC; refine ⟨?_, ?_, ?_⟩; rotate_left; (simp [go_sem, ↓IntWalk.iteOmega, c1, c2, f1, f2, hne, hne2, hin, hjn, Nat.not_le.2 hgl2]; try rfl); (simp; exact ⟨_, rfl⟩)))
           (try simp only [Act.put, List.setIfInBounds_toArray, List.set_cons_zero, List.set_cons_succ])))
      refine lex_nil ?_
      intro dLx w hd hC
      unfold Two at hC; rw [hd 13 (by decide), hd 15 (by decide)] at hC; obtain ⟨x, rfl⟩ := hC; simp only [if_true]
      go_wp2
      go_roundw
      case rel =>
        have h0 := HOq.out.set Hrk.out (1 + i) (.int .i64 vy)
        have h1 := h0.set (k := k) (e := 3) (sz := 1) (n := n + 1) (g := g) (cap := cap) (vs := (intVs (x0 :: revI n xs i)).set (1 + i) (.int .i64 vy)) (by simp [hkl]) (1 + j) (.int .i64 vx)
        have e2 : ((intVs (x0 :: revI n xs i)).set (1 + i) (.int .i64 vy)).set (1 + j) (.int .i64 vx) = intVs (x0 :: revI n xs (i + 1)) := by
          rw [intVs_set, intVs_set, Nat.add_comm 1 i, Nat.add_comm 1 j, List.set_cons_succ, List.set_cons_succ, Hst.out]
        rw [e2, List.set_set, List.set_set] at h1
        refine ⟨i + 1, by omega, by go_num, by go_num, ((Hgq.out.setCell (p := ⟨g, 1 + i, none⟩) (Nat.le_trans hB hBg) _).setCell (p := ⟨g, 1 + j, none⟩) (Nat.le_trans hB hBg) _).trans (by (repeat (first | exact Grew.refl _ | refine Grew.over ?_ _ | refine Grew.alloc ?_ _ | refine Grew.drew ?_ | refine Grew.drewN ?_ _))), h1.grew (by (repeat (first | exact Grew.refl _ | refine Grew.over ?_ _ | refine Grew.alloc ?_ _ | refine Grew.drew ?_ | refine Grew.drewN ?_ _)))⟩
      case measure => simp [intOf]; omega
    · have He : Hid (revI n xs i = xs.reverse) := Lib.hid (revI_all Hn.out (by omega) hi)
      go_wp2
      refine bodyPost_end (results_none rfl _ _ _) rfl ?_
      exact ⟨rfl, Hgq.out.trans (by (repeat (first | exact Grew.refl _ | refine Grew.over ?_ _ | refine Grew.alloc ?_ _ | refine Grew.drew ?_ | refine Grew.drewN ?_ _))), by rw [← He.out]; exact HOq.out.grew (by (repeat (first | exact Grew.refl _ | refine Grew.over ?_ _ | refine Grew.alloc ?_ _ | refine Grew.drew ?_ | refine Grew.drewN ?_ _)))⟩

/-! ### Taking a vertex away -/
/-- The neighbours that come in its place, from the left one on. -/
def turnL (l : List Int) (a b : Int) : List Int :=
  let m := l.drop (idx a l).toNat ++ l.take (idx a l).toNat
  if ge m (m.length - 1) = b then m else m.take 1 ++ (m.drop 1).reverse
def stOut (st l : List Int) : List Int := l.foldl (fun s u => s.set u.toNat 1) st
/-- The states and the contour behind the taking of place i. -/
def takeS (st C l : List Int) (i : Nat) : List Int := (stOut st (turnL l (ge C (i - 1)) (ge C (i + 1)))).set (ge C i).toNat 2
def takeC (C l : List Int) (i : Nat) : List Int := C.take (i - 1) ++ turnL l (ge C (i - 1)) (ge C (i + 1)) ++ C.drop (i + 2)
theorem stOut_len (l : List Int) : ∀ st : List Int, (stOut st l).length = st.length := by
  unfold stOut
  induction l with
  | nil => intro st; rfl
  | cons u l ih => intro st; rw [List.foldl_cons, ih]; simp
theorem stOut_take (st : List Int) {l : List Int} {k : Nat} (h : k < l.length) : stOut st (l.take (k + 1)) = (stOut st (l.take k)).set (ge l k).toNat 1 := by
  unfold stOut
  rw [List.take_succ_eq_append_getElem h, List.foldl_append, ← ge_eq l h]
  rfl
theorem st_set {w : World} {gs u : Nat} {st : List Int} {x : Int} (h : ∀ i, i < st.length → w.cell? ⟨gs, i, none⟩ = some (.int .i64 (ge st i)) ∧ w.frozen? ⟨gs, i, none⟩ = false) (hu : u < st.length) :
    ∀ i, i < st.length → (w.setCell ⟨gs, u, none⟩ (.int .i64 x)).cell? ⟨gs, i, none⟩ = some (.int .i64 (ge (st.set u x) i)) ∧ (w.setCell ⟨gs, u, none⟩ (.int .i64 x)).frozen? ⟨gs, i, none⟩ = false := by
  intro i hi
  obtain ⟨h1, h2⟩ := h i hi
  obtain ⟨h3, h4⟩ := h u hu
  by_cases e : i = u
  · subst e
    have : ge (st.set i x) i = x := by unfold ge; simp [hi]
    rw [this]
    refine ⟨?_, ?_⟩
    · simp [go_sem, h1]
    · simp [go_sem, h2]
  · have : ge (st.set u x) i = ge st i := by unfold ge; simp [List.getElem?_set, Ne.symm e]
    rw [this]
    refine ⟨?_, ?_⟩
    · simp [go_sem, h1, e]
    · simp [go_sem, h2]
def pX (g gs k : Nat) : Prop := k = g ∨ k = gs

set_option maxRecDepth 8000 in
set_option maxHeartbeats 16000000 in
theorem take_p (g gs : Nat) (N : Int) (pE pA : Option Addr) (nE nA cE cA : Nat) (E : List (Int × Int)) (A : List (List Int)) (st : List Int) (pC : Option Addr) (cC : Nat) (C l : List Int) (i : Nat) (w : World) (hP : Peel w g gs N pE pA nE nA cE cA st pC cC C)
    (hR : RotAt w pE pA E A) (hL : Lim w) (hV : vRot N E A) (hi : 1 ≤ i) (hi2 : i + 1 < C.length) (hC : ∀ u ∈ C, 0 ≤ u ∧ u < (A.length : Int)) (hC1 : C.length ≤ 100) (hst : st.length = A.length) (hl : restL st (nearL E (rowOf A (ge C i).toNat)) = l) (hleft : ge C (i - 1) ∈ l) (hl2 : 2 ≤ l.length) (hnE : E.length = nE) (hnA : A.length = nA) :
    Calls Tryd.prog 28 #[.pointer (some ⟨g, 0, none⟩), .int .i64 i] w fun e w' => e = .returned (.tuple #[]) ∧ Gr (pX g gs) w w' ∧ ∃ pC' cC', Peel w' g gs N pE pA nE nA cE cA (takeS st C l i) pC' cC' (takeC C l i) ∧ ∀ a, pC' = some a → w.heap.size ≤ a.block := by
  subst hnE hnA
  have HP := Lib.hid hP
  have ha1 := hR.a1
  have c4 := hP.c4
  have hgs := hP.ne
  have hgb := World.block_lt_of_cell? w _ hP.c0
  dsimp only at hgb
  have hgsb := hP.hb
  obtain ⟨bC, oC, rfl, lC, cC'⟩ := hP.hC.cells (by omega)
  obtain ⟨nC1, nC2⟩ := hP.nC _ rfl
  dsimp only at nC1 nC2
  obtain ⟨j, rfl⟩ : ∃ j, i = j + 1 := ⟨i - 1, by omega⟩
  have e0 := cC' w (Grew.refl _) j (by omega)
  have e1 := cC' w (Grew.refl _) (j + 1) (by omega)
  have e2 := cC' w (Grew.refl _) (j + 2) (by omega)
  have hv := hC _ (ge_mem (show j + 1 < C.length by omega))
  obtain ⟨v, hve⟩ : ∃ v : Nat, ge C (j + 1) = (v : Int) := ⟨(ge C (j + 1)).toNat, by omega⟩
  obtain ⟨a, ha⟩ : ∃ a, ge C j = a := ⟨_, rfl⟩
  obtain ⟨b, hb⟩ : ∃ b, ge C (j + 2) = b := ⟨_, rfl⟩
  rw [hve] at e1 hv hl
  rw [ha] at e0
  rw [hb] at e2
  rw [Int.toNat_natCast] at hl
  rw [show j + 1 - 1 = j by omega, ha] at hleft
  have hvl : v < A.length := by omega
  have Hr := Lib.hid (fun (W1 : World) (h : Grew w W1) => rest_p g gs N pE pA E.length A.length cE cA E A st (some ⟨bC, oC, none⟩) cC C v W1 (HP.out.grew h) (hR.grew h) (hL.grew h) hV hvl hst rfl rfl)
  have hll : l.length ≤ 100 := by rw [← hl]; exact Nat.le_trans (List.length_filter_le _ _) (by rw [nearL_length]; exact hR.r1 v hvl)
  have hlb : ∀ u ∈ l, 0 ≤ u ∧ u < (A.length : Int) := fun u hu => by
    rw [← hl] at hu
    have := nearL_bound hV hvl u (List.mem_filter.1 hu).1
    have := hV.al
    omega
  have hnl : restN st (nearL E (rowOf A v)) ≤ 100 := Nat.le_trans List.countP_le_length (by rw [nearL_length]; exact hR.r1 v hvl)
  obtain ⟨n, hn⟩ : ∃ n, restN st (nearL E (rowOf A v)) = n := ⟨_, rfl⟩
  rw [hn, hl] at Hr
  rw [hn] at hnl
  obtain ⟨p, hp, hpe, hpa⟩ := idx_lt hleft
  have HS : Hid (takeS st C l (j + 1) = (stOut st (turnL l a b)).set v 2) := Lib.hid (by unfold takeS; rw [show j + 1 - 1 = j by omega, ha, show j + 1 + 1 = j + 2 by omega, hb, hve]; rfl)
  have HCt : Hid (takeC C l (j + 1) = C.take j ++ turnL l a b ++ C.drop (j + 3)) := Lib.hid (by unfold takeC; rw [show j + 1 - 1 = j by omega, ha, show j + 1 + 1 = j + 2 by omega, hb, show j + 1 + 2 = j + 3 by omega])
  have HT : Hid (turnL l a b = if ge (l.drop p ++ l.take p) (l.length - 1) = b then l.drop p ++ l.take p else (l.drop p ++ l.take p).take 1 ++ ((l.drop p ++ l.take p).drop 1).reverse) := Lib.hid (by
    unfold turnL
    rw [hpe, Int.toNat_natCast]
    simp only
    rw [show (l.drop p ++ l.take p).length = l.length by rw [List.length_append, List.length_drop, List.length_take]; omega])
  have Hlb := Lib.hid hlb
  have Hst := Lib.hid hst
  have Hix := Lib.hid (fun (W1 : World) (q : Option Addr) (cap : Nat) (hI : Ints W1 q l) => index_p q l.length cap l a W1 hI rfl)
  rw [hpe] at Hix
  clear hP cC' hve ha hb hl hn hR hL hV hC hlb hleft hpe hpa hst hv
  go_enter Tryd.func28, Tryd.ntmps28
  go_wp2_with (go_at_call 41; apply Calls.mono; (with_reducible exact Hr.out _ (by (repeat (first | exact Grew.refl _ | refine Grew.over ?_ _ | refine Grew.alloc ?_ _ | refine Grew.drew ?_ | refine Grew.drewN ?_ _)))); rintro e w4 ⟨hg4, q4, cap4, rfl, hI4, hd1, hd2⟩; have HI4 := Lib.hid hI4; have Hg4 := Lib.hid (Grew.trans (a := w) (by (repeat (first | exact Grew.refl _ | refine Grew.over ?_ _ | refine Grew.alloc ?_ _ | refine Grew.drew ?_ | refine Grew.drewN ?_ _))) hg4); have c4' := Hg4.out.cellEq c4; have e0' := Hg4.out.cellEq e0; have e2' := Hg4.out.cellEq e2; have hs4 := Hg4.out.below.size; clear hI4 hg4)
  go_upto_region 2 with fail
  refine wp_region_over (by kernel_rfl) (by kernel_rfl) ?_; (repeat (go_big_quiet_step (fail))); refine wpQuiet_nil ?_; intro w5 hW; replace hW : Grew _ w5 := hW
  have Hw5 := Lib.hid hW
  have hs5 := hW.below.size
  have Hg5 := Lib.hid (Hg4.out.trans hW)
  clear hW e0 e1 e2 e0' e2' c4'
  have hpl : (p : Int) < (l.length : Int) := by omega
  obtain ⟨bL, oL, rfl, lL, _⟩ := HI4.out.cells (by omega)
  go_wp2_with (go_at_call 42; apply Calls.mono; (with_reducible exact Hix.out _ _ _ (HI4.out.grew (Hw5.out.trans (by (repeat (first | exact Grew.refl _ | refine Grew.over ?_ _ | refine Grew.alloc ?_ _ | refine Grew.drew ?_ | refine Grew.drewN ?_ _)))))); rintro e w6 ⟨rfl, rfl⟩)
  have HD := Lib.hid (HI4.out.drop (k := p) (by omega))
  have HK := Lib.hid (HI4.out.cut (k := p) (by omega))
  have hDl : (l.drop p).length = l.length - p := List.length_drop ..
  have hKl : (l.take p).length = p := by rw [List.length_take]; omega
  have HDl := Lib.hid hDl
  have HKl := Lib.hid hKl
  clear hDl hKl
  have hp1 : p ≤ l.length := by omega
  have hp2 : ¬ cap4 = p := by omega
  have hp3 : p ≤ cap4 := by omega
  refine wp_region_T (s := 9) (S := fun _ => True) (by kernel_rfl) trivial (fun hH => ?_)
  refine wpAnyT_takeV (i := 0) (v := ?_) rfl (by kernel_rfl) (by kernel_rfl) (by kernel_rfl) (by decide) (fun _ _ _ h => h) (Or.inl ⟨by rfl, ?_⟩) (by assumption) ?_
  rotate_left
  · (intro w hSw; (try dsimp only at hSw); go_simp; (try with_reducible rfl))
  (try simp only [Act.put, List.setIfInBounds_toArray, List.set_cons_zero, List.set_cons_succ])
  refine wpAnyT_takeV (i := 1) (v := ?_) rfl (by kernel_rfl) (by kernel_rfl) (by kernel_rfl) (by decide) (fun _ _ _ h => h) (Or.inl ⟨by rfl, ?_⟩) (by assumption) ?_
  rotate_left
  · (intro w hSw; (try dsimp only at hSw); go_simp; (try with_reducible rfl))
  (try simp only [Act.put, List.setIfInBounds_toArray, List.set_cons_zero, List.set_cons_succ])
  refine wpAnyT_takeV (i := 2) (v := ?_) rfl (by kernel_rfl) (by kernel_rfl) (by kernel_rfl) (by decide) (fun _ _ _ h => h) (Or.inl ⟨by rfl, ?_⟩) (by assumption) ?_
  rotate_left
  · (intro w hSw; (try dsimp only at hSw); go_simp; (try with_reducible rfl))
  (try simp only [Act.put, List.setIfInBounds_toArray, List.set_cons_zero, List.set_cons_succ])
  refine wpAnyT_takeV (i := 4) (v := ?_) rfl (by kernel_rfl) (by kernel_rfl) (by kernel_rfl) (by decide) (fun _ _ _ h => h) (Or.inl ⟨by rfl, ?_⟩) (by assumption) ?_
  rotate_left
  · (intro w hSw; (try dsimp only at hSw); go_simp; (try with_reducible rfl))
  (try simp only [Act.put, List.setIfInBounds_toArray, List.set_cons_zero, List.set_cons_succ])
  refine wpAnyT_takeV (i := 5) (v := ?_) rfl (by kernel_rfl) (by kernel_rfl) (by kernel_rfl) (by decide) (fun _ _ _ h => h) (Or.inl ⟨by rfl, ?_⟩) (by assumption) ?_
  rotate_left
  · (intro w hSw; (try dsimp only at hSw); go_simp; (try with_reducible rfl))
  (try simp only [Act.put, List.setIfInBounds_toArray, List.set_cons_zero, List.set_cons_succ])
  refine wpAnyT_takeV (i := 6) (v := ?_) rfl (by kernel_rfl) (by kernel_rfl) (by kernel_rfl) (by decide) (fun _ _ _ h => h) (Or.inl ⟨by rfl, ?_⟩) (by assumption) ?_
  rotate_left
  · (intro w hSw; (try dsimp only at hSw); go_simp; (try with_reducible rfl))
  (try simp only [Act.put, List.setIfInBounds_toArray, List.set_cons_zero, List.set_cons_succ])
  refine wpAnyT_all (rs := [3]) (by kernel_rfl) (by simp) (AllT.consL (i := 3) rfl (fun K hK => ?_) AllT.nil)
  go_simp; go_wp2_with (go_at_call 21; apply Calls.mono; (with_reducible exact clone_i _ _ _ _ _ (HD.out.grew (Hw5.out.trans (by (repeat (first | exact Grew.refl _ | refine Grew.over ?_ _ | refine Grew.alloc ?_ _ | refine Grew.drew ?_ | refine Grew.drewN ?_ _))))) (by rw [HDl.out]; omega) HDl.out); rintro e w6 ⟨hg6, p6, c6, rfl, hO6⟩; have HO6 := Lib.hid (hO6.base (show w5.heap.size ≤ _ from Nat.le_refl _)); have Hg56 := Lib.hid (Grew.trans (a := w5) (by (repeat (first | exact Grew.refl _ | refine Grew.over ?_ _ | refine Grew.alloc ?_ _ | refine Grew.drew ?_ | refine Grew.drewN ?_ _))) hg6); have Hg6 := Lib.hid (Hg5.out.trans Hg56.out); have hs6 := Hg56.out.below.size; clear hO6 hg6)
  refine hK.out _ _ ?_ (fun hH => ?_)
  · (first | (simp [go_sem, ↓IntWalk.iteOmega, *]; done) | go_keep)
  clear hK K
  (try simp only [Act.put, List.setIfInBounds_toArray, List.set_cons_zero, List.set_cons_succ])
  refine wpAnyT_all (rs := [7]) (by kernel_rfl) (by simp) (AllT.consL (i := 7) rfl (fun K hK => ?_) AllT.nil)
  refine step_append_owns rfl _ _ 26 rfl 3 1 8 (.int .i64 0) Tryd.underlying26 Tryd.infoInt rfl (by decide) (w5.heap.size) _ 0 _ _ _ (HO6.out.grew (by (repeat (first | exact Grew.refl _ | refine Grew.over ?_ _ | refine Grew.alloc ?_ _ | refine Grew.drew ?_ | refine Grew.drewN ?_ _)))) rfl rfl _ _ _ rfl (intVs (l.take p)) (by rw [intVs_length, Nat.mul_one]; try first | rfl | assumption | (simp; done) | omega) (fun h => by cases h) (Ints.news (HK.out.grew (Hw5.out.trans (Hg56.out.trans (by (repeat (first | exact Grew.refl _ | refine Grew.over ?_ _ | refine Grew.alloc ?_ _ | refine Grew.drew ?_ | refine Grew.drewN ?_ _))))))) (intVs_one _) (by simp only [maxLen]; omega) (by omega) (by first | rfl | omega | (simp <;> omega)) ?_; intro v1 w1 hO1 hg1 hb1 hv1; have Hg7 := Lib.hid (Grew.grownBy (w0 := w5) (Hg56.out.trans (by (repeat (first | exact Grew.refl _ | refine Grew.over ?_ _ | refine Grew.alloc ?_ _ | refine Grew.drew ?_ | refine Grew.drewN ?_ _)))) hg1 (fun g h => by have := hb1 g h; omega)); have HO7 := Lib.hid hO1; clear hO1 hg1 hb1 hv1
  refine hK.out _ _ ?_ (fun hH => ?_)
  · (first | (simp [go_sem, ↓IntWalk.iteOmega, *]; done) | go_keep)
  clear hK K
  (try simp only [Act.put, List.setIfInBounds_toArray, List.set_cons_zero, List.set_cons_succ])
  refine wpAnyT_all (rs := [8]) (by kernel_rfl) (by simp) (AllT.consL (i := 8) rfl (fun K hK => ?_) AllT.nil)
  go_simp
  refine hK.out _ _ ?_ (fun hH => ?_)
  · (first | (simp [go_sem, ↓IntWalk.iteOmega, *]; done) | go_keep)
  clear hK K
  (try simp only [Act.put, List.setIfInBounds_toArray, List.set_cons_zero, List.set_cons_succ])
  refine wpAnyT_done (by kernel_rfl) ?_ _
  have hs7 := Hg7.out.below.size
  obtain ⟨k, hk⟩ : ∃ k, l.length = k + 1 := ⟨l.length - 1, by omega⟩
  have hk1 : l.length - p + p = k + 1 := by omega
  obtain ⟨x0, xs, hm⟩ : ∃ x0 xs, l.drop p ++ l.take p = x0 :: xs := by
    cases h : l.drop p ++ l.take p with
    | nil => exfalso; have := congrArg List.length h; rw [List.length_append, HDl.out, HKl.out, hk1] at this; simp at this
    | cons x0 xs => exact ⟨x0, xs, rfl⟩
  have hxs : xs.length = k := by
    have := congrArg List.length hm
    rw [List.length_append, HDl.out, HKl.out, hk1, List.length_cons] at this
    omega
  have hO7 := HO7.out
  rw [List.set_cons_zero, ← intVs_app', hm, hk1] at hO7
  have HT2 : Hid (turnL l a b = if ge (x0 :: xs) k = b then x0 :: xs else x0 :: xs.reverse) := Lib.hid (by
    rw [HT.out, hm, show l.length - 1 = k by omega]
    rfl)
  have Hml : Hid (∀ u ∈ x0 :: xs, 0 ≤ u ∧ u < (A.length : Int)) := Lib.hid (fun u hu => by
    rw [← hm] at hu
    rcases List.mem_append.1 hu with hu | hu
    · exact Hlb.out u (List.mem_of_mem_drop hu)
    · exact Hlb.out u (List.mem_of_mem_take hu))
  obtain ⟨g7, c7, rfl, hg7B, hg7l, hc7, hc7m, nf7, m7⟩ := hO7.some (k := 0) rfl (by omega)
  have y1 := m7 k _ (intVs_get (x0 :: xs) (by rw [List.length_cons]; omega))
  replace HO7 := Lib.hid hO7
  have Hxs := Lib.hid hxs
  have hkl : k ≤ 99 := by omega
  obtain ⟨z, hz⟩ : ∃ z, ge (x0 :: xs) k = z := ⟨_, rfl⟩
  rw [hz] at y1 HT2
  clear hO7 hm nf7 m7 hxs hz HT
  by_cases hzb : z = b
  · subst hzb
    replace HT2 : Hid (turnL l a z = x0 :: xs) := Lib.hid (by rw [HT2.out, if_pos rfl])
    have HO9 := HO7
    have Hg9 := Hg7
    obtain ⟨T, hTT⟩ : ∃ T, x0 :: xs = T := ⟨_, rfl⟩
    have HTm : Hid (∀ u ∈ T, u ∈ x0 :: xs) := Lib.hid (fun u hu => by rw [hTT]; exact hu)
    have HTl : Hid (T.length = k + 1) := Lib.hid (by rw [← hTT, List.length_cons, Hxs.out])
    rw [hTT] at HO9 HT2
    go_wp2
    clear hTT y1 HO7
    have HTb : Hid (∀ u ∈ T, 0 ≤ u ∧ u < (A.length : Int)) := Lib.hid (fun u hu => Hml.out u (HTm.out u hu))
    have hs9 := Hg9.out.below.size
    have Hgw9 := Lib.hid (Hg5.out.trans Hg9.out)
    have hgsb9 : gs < w1.heap.size := by omega
    have hst9 : ∀ i, i < st.length → w1.cell? ⟨gs, i, none⟩ = some (.int .i64 (ge st i)) ∧ w1.frozen? ⟨gs, i, none⟩ = false := fun i hi => ⟨Hgw9.out.cellEq (HP.out.hst i hi).1, Hgw9.out.frozenEq HP.out.hb (HP.out.hst i hi).2⟩
    have c39 := Hgw9.out.cellEq HP.out.c3
    rw [Hst.out] at c39
    have C39 := Lib.hid c39
    have hng7 : ¬ g7 = gs := by omega
    have hngg : ¬ g = gs := fun e => hgs e.symm
    obtain ⟨g9, c9, e9, _, hg9l, _, _, nf9, m9⟩ := HO9.out.some (k := 0) rfl (by omega)
    cases e9
    have HM9 := Lib.hid m9
    have HS9 := Lib.hid hst9
    clear m9 nf9 c39 hst9
    go_loopw [65] (fun iv wr => ∃ t : Nat, t ≤ k + 1 ∧ iv = .int .i64 t ∧ Gr (fun q => q = gs) w1 wr ∧ ∀ i, i < st.length → wr.cell? ⟨gs, i, none⟩ = some (.int .i64 (ge (stOut st (T.take t)) i)) ∧ wr.frozen? ⟨gs, i, none⟩ = false) (fun iv _ => k + 1 - (intOf iv).toNat)
    case atStart => exact ⟨0, Nat.zero_le _, rfl, Gr.refl _ _, HS9.out⟩
    case round =>
      obtain ⟨t, ht, rfl, hgr, hsr⟩ := hrel
      have hszr := hgr.size
      have c3r := hgr.cellEq hngg C39.out
      have Hgr := Lib.hid hgr
      have Hsr := Lib.hid hsr
      clear hgr hsr
      by_cases htk : t < k + 1
      · have htl : t < T.length := by rw [HTl.out]; exact htk
        have e1 := Hgr.out.cellEq hng7 (HM9.out t _ (intVs_get T htl))
        have hu := HTb.out _ (ge_mem htl)
        obtain ⟨u, hue⟩ : ∃ u : Nat, ge T t = (u : Int) := ⟨(ge T t).toNat, by omega⟩
        rw [hue] at e1
        have hul : u < A.length := by omega
        have hui : (u : Int) < (A.length : Int) := by omega
        obtain ⟨s1, s2⟩ := Hsr.out u (by rw [Hst.out]; exact hul)
        have HSn : Hid (stOut st (T.take (t + 1)) = (stOut st (T.take t)).set u 1) := Lib.hid (by rw [stOut_take st htl, hue, Int.toNat_natCast])
        have Hset := Lib.hid (st_set (gs := gs) (u := u) (x := 1) (fun i (hi : i < (stOut st (T.take t)).length) => Hsr.out i (by rw [stOut_len] at hi; exact hi)) (by rw [stOut_len, Hst.out]; exact hul))
        have hti : (t : Int) < ((k + 1 : Nat) : Int) := by omega
        clear hu hue
        go_wp2
        go_roundw
        case rel => exact ⟨t + 1, by omega, by go_num, (Hgr.out.setCell rfl _).over (by (repeat (first | exact Grew.refl _ | refine Grew.over ?_ _ | refine Grew.alloc ?_ _ | refine Grew.drew ?_ | refine Grew.drewN ?_ _))), fun i hi => by
          have h := Hset.out i (by rw [stOut_len]; exact hi)
          rw [HSn.out]
          exact ⟨(show Grew (wr.setCell ⟨gs, u, none⟩ (.int .i64 1)) _ by (repeat (first | exact Grew.refl _ | refine Grew.over ?_ _ | refine Grew.alloc ?_ _ | refine Grew.drew ?_ | refine Grew.drewN ?_ _))).cellEq h.1, (show Grew (wr.setCell ⟨gs, u, none⟩ (.int .i64 1)) _ by (repeat (first | exact Grew.refl _ | refine Grew.over ?_ _ | refine Grew.alloc ?_ _ | refine Grew.drew ?_ | refine Grew.drewN ?_ _))).frozenEq (by simp; omega) h.2⟩⟩
        case measure => simp [intOf]; omega
      · have hte : t = k + 1 := by omega
        have hTf : T.take t = T := List.take_of_length_le (by rw [HTl.out]; omega)
        rw [hTf] at Hsr
        obtain ⟨s1, s2⟩ := Hsr.out v (by rw [Hst.out]; exact hvl)
        have Hset := Lib.hid (st_set (gs := gs) (u := v) (x := 2) (fun i (hi : i < (stOut st T).length) => Hsr.out i (by rw [stOut_len] at hi; exact hi)) (by rw [stOut_len, Hst.out]; exact hvl))
        have c4r := Hgr.out.cellEq hngg (Hgw9.out.cellEq HP.out.c4)
        have hgb9 : g < w1.heap.size := by omega
        have C4r := Lib.hid c4r
        have hti : ¬ (t : Int) < ((k + 1 : Nat) : Int) := by omega
        have HCr := Lib.hid ((HP.out.hC.grew Hgw9.out).gr Hgr.out (fun ad had => by cases had; exact nC2))
        have hlkk : k + 1 ≤ 100 := by omega
        clear hTf
        subst hte
        go_upto_region 13 with fail
        have Hg12 : Hid (Gr (fun q => q = gs) w1 (wr.setCell ⟨gs, v, none⟩ (.int .i64 2))) := Lib.hid (Hgr.out.setCell rfl _)
        have hs12 : (wr.setCell ⟨gs, v, none⟩ (.int .i64 2)).heap.size = wr.heap.size := World.size_setCell _ _ _
        obtain ⟨w12, hw12⟩ : ∃ w12, wr.setCell ⟨gs, v, none⟩ (.int .i64 2) = w12 := ⟨_, rfl⟩
        rw [hw12] at Hset Hg12 hs12 ⊢
        have c412 := Hg12.out.cellEq hngg (Hgw9.out.cellEq HP.out.c4)
        have HC12 := Lib.hid ((HP.out.hC.grew Hgw9.out).gr Hg12.out (fun ad had => by cases had; exact nC2))
        have f412 : w12.frozen? ⟨g, 4, none⟩ = false := by rw [Hg12.out.frozen hgb9 hngg]; exact Hgw9.out.frozenEq hgb HP.out.f4
        have HKc := Lib.hid (HC12.out.cut (k := j) (by omega))
        have HKl2 : Hid ((C.take j).length = j) := Lib.hid (by rw [List.length_take]; omega)
        have HDc := Lib.hid (HC12.out.drop (k := j + 3) (by omega))
        have hDl2 : (C.drop (j + 3)).length = C.length - (j + 3) := List.length_drop ..
        have HO12 := Lib.hid (HO9.out.gr Hg12.out (fun q hq1 hq2 hq3 => by omega))
        have HT12 : Hid (Ints w12 (some ⟨g7, 0, none⟩) T) := Lib.hid (by
          obtain ⟨pT, cT, eT, _, _, _, _, hT⟩ := own_ints HO12.out (k := 0) rfl (fun x hx => by have := HTb.out x hx; have := ha1; omega)
          cases eT
          exact hT _ (Grew.refl _))
        have HTl2 := HTl.out
        have hj1 : (j : Int) + 1 - 1 = (j : Int) := by omega
        have hj2 : j ≤ C.length := by omega
        have hj3 : j + 3 ≤ C.length := by omega
        have hj4 : j ≤ cC := by have := HP.out.cC1; omega
        have hj5 : C.length ≤ cC := HP.out.cC1
        have hwj : IntKind.i64.wrap (j : Int) = j := IntWalk.i64_in _ ⟨by omega, by omega⟩
        have hwk : IntKind.i64.wrap ((j : Int) + 1 + 2) = ((j + 3 : Nat) : Int) := by rw [IntWalk.i64_in _ ⟨by omega, by omega⟩]; omega
        have hwl : IntKind.i64.wrap ((j : Int) + 3) = ((j + 3 : Nat) : Int) := by rw [IntWalk.i64_in _ ⟨by omega, by omega⟩]; omega
        have hj6 : (j : Int) ≤ (cC : Int) := by omega
        have hj7 : 0 ≤ (j : Int) + 3 := by omega
        have hj8 : (j : Int) + 3 ≤ (C.length : Int) := by omega
        have hj9 : ((j : Int) + 3).toNat = j + 3 := by omega
        obtain ⟨pD, hif, hDp⟩ : ∃ pD, (if cC = j + 3 then (some ⟨bC, oC, none⟩ : Option Addr) else some ⟨bC, oC + (j + 3), none⟩) = some pD ∧ Ints w12 (some pD) (C.drop (j + 3)) := by
          by_cases hcc : cC = j + 3
          · refine ⟨⟨bC, oC, none⟩, if_pos hcc, ?_⟩
            rw [List.drop_eq_nil_of_le (by omega)]
            exact ⟨by simp, (fun x hx => by cases hx), 0, 0, (fun h => by simp at h), (fun i hi => by simp at hi)⟩
          · exact ⟨_, if_neg hcc, HDc.out⟩
        replace HDc := Lib.hid hDp
        clear hDp
        clear hw12 c4r s1 s2 c3r
        refine wp_region_T (s := 21) (S := fun w' => w'.cell? ⟨g, 4, none⟩ = some (.slice (some ⟨bC, oC, none⟩) C.length cC)) (by kernel_rfl) (by simpa using c412) (fun hH => ?_)
        refine wpAnyT_takeL (i := 0) (v := ?_) rfl (by kernel_rfl) (by kernel_rfl) (by kernel_rfl) (by kernel_rfl) (fun _ _ _ h => h) (Or.inl ⟨by rfl, ?_⟩) (by assumption) ?_
        rotate_left
        · (intro w hSw; (try dsimp only at hSw); go_simp; (try with_reducible rfl))
        (try simp only [Act.put, List.setIfInBounds_toArray, List.set_cons_zero, List.set_cons_succ])
        refine wpAnyT_takeL (i := 1) (v := ?_) rfl (by kernel_rfl) (by kernel_rfl) (by kernel_rfl) (by kernel_rfl) (fun _ _ _ h => h) (Or.inl ⟨by rfl, ?_⟩) (by assumption) ?_
        rotate_left
        · (intro w hSw; (try dsimp only at hSw); go_simp; (try with_reducible rfl))
        (try simp only [Act.put, List.setIfInBounds_toArray, List.set_cons_zero, List.set_cons_succ])
        refine wpAnyT_takeL (i := 2) (v := ?_) rfl (by kernel_rfl) (by kernel_rfl) (by kernel_rfl) (by kernel_rfl) (fun _ _ _ h => h) (Or.inl ⟨by rfl, ?_⟩) (by assumption) ?_
        rotate_left
        · (intro w hSw; (try dsimp only at hSw); go_simp; (try with_reducible rfl))
        (try simp only [Act.put, List.setIfInBounds_toArray, List.set_cons_zero, List.set_cons_succ])
        refine wpAnyT_takeL (i := 3) (v := ?_) rfl (by kernel_rfl) (by kernel_rfl) (by kernel_rfl) (by kernel_rfl) (fun _ _ _ h => h) (Or.inl ⟨by rfl, ?_⟩) (by assumption) ?_
        rotate_left
        · (intro w hSw; (try dsimp only at hSw); go_simp; (try with_reducible rfl))
        (try simp only [Act.put, List.setIfInBounds_toArray, List.set_cons_zero, List.set_cons_succ])
        refine wpAnyT_takeL (i := 4) (v := ?_) rfl (by kernel_rfl) (by kernel_rfl) (by kernel_rfl) (by kernel_rfl) (fun _ _ _ h => h) (Or.inl ⟨by rfl, ?_⟩) (by assumption) ?_
        rotate_left
        · (intro w hSw; (try dsimp only at hSw); go_simp; (try with_reducible rfl))
        (try simp only [Act.put, List.setIfInBounds_toArray, List.set_cons_zero, List.set_cons_succ])
        refine wpAnyT_takeL (i := 5) (v := ?_) rfl (by kernel_rfl) (by kernel_rfl) (by kernel_rfl) (by kernel_rfl) (fun _ _ _ h => h) (Or.inl ⟨by rfl, ?_⟩) (by assumption) ?_
        rotate_left
        · (intro w hSw; (try dsimp only at hSw); go_simp; (try with_reducible rfl))
        (try simp only [Act.put, List.setIfInBounds_toArray, List.set_cons_zero, List.set_cons_succ])
        refine wpAnyT_takeL (i := 6) (v := ?_) rfl (by kernel_rfl) (by kernel_rfl) (by kernel_rfl) (by kernel_rfl) (fun _ _ _ h => h) (Or.inl ⟨by rfl, ?_⟩) (by assumption) ?_
        rotate_left
        · (intro w hSw; (try dsimp only at hSw); go_simp; (try with_reducible rfl))
        (try simp only [Act.put, List.setIfInBounds_toArray, List.set_cons_zero, List.set_cons_succ])
        refine wpAnyT_takeL (i := 7) (v := ?_) rfl (by kernel_rfl) (by kernel_rfl) (by kernel_rfl) (by kernel_rfl) (fun _ _ _ h => h) (Or.inl ⟨by rfl, ?_⟩) (by assumption) ?_
        rotate_left
        · (intro w hSw; (try dsimp only at hSw); go_simp; (try with_reducible rfl))
        (try simp only [Act.put, List.setIfInBounds_toArray, List.set_cons_zero, List.set_cons_succ])
        refine wpAnyT_takeL (i := 9) (v := ?_) rfl (by kernel_rfl) (by kernel_rfl) (by kernel_rfl) (by kernel_rfl) (fun _ _ _ h => h) (Or.inl ⟨by rfl, ?_⟩) (by assumption) ?_
        rotate_left
        · (intro w hSw; (try dsimp only at hSw); go_simp; (try with_reducible rfl))
        (try simp only [Act.put, List.setIfInBounds_toArray, List.set_cons_zero, List.set_cons_succ])
        refine wpAnyT_takeL (i := 11) (v := ?_) rfl (by kernel_rfl) (by kernel_rfl) (by kernel_rfl) (by kernel_rfl) (fun _ _ _ h => h) (Or.inl ⟨by rfl, ?_⟩) (by assumption) ?_
        rotate_left
        · (intro w hSw; (try dsimp only at hSw); go_simp; (try with_reducible rfl))
        (try simp only [Act.put, List.setIfInBounds_toArray, List.set_cons_zero, List.set_cons_succ])
        refine wpAnyT_takeL (i := 12) (v := ?_) rfl (by kernel_rfl) (by kernel_rfl) (by kernel_rfl) (by kernel_rfl) (fun _ _ _ h => h) (Or.inl ⟨by rfl, ?_⟩) (by assumption) ?_
        rotate_left
        · (intro w hSw; (try dsimp only at hSw); go_simp; (try with_reducible rfl))
        (try simp only [Act.put, List.setIfInBounds_toArray, List.set_cons_zero, List.set_cons_succ])
        refine wpAnyT_takeL (i := 13) (v := ?_) rfl (by kernel_rfl) (by kernel_rfl) (by kernel_rfl) (by kernel_rfl) (fun _ _ _ h => h) (Or.inl ⟨by rfl, ?_⟩) (by assumption) ?_
        rotate_left
        · (intro w hSw; (try dsimp only at hSw); go_simp; (try with_reducible rfl))
        (try simp only [Act.put, List.setIfInBounds_toArray, List.set_cons_zero, List.set_cons_succ])
        refine wpAnyT_takeL (i := 14) (v := ?_) rfl (by kernel_rfl) (by kernel_rfl) (by kernel_rfl) (by kernel_rfl) (fun _ _ _ h => h) (Or.inl ⟨by rfl, ?_⟩) (by assumption) ?_
        rotate_left
        · (intro w hSw; (try dsimp only at hSw); go_simp; (try with_reducible rfl))
        (try simp only [Act.put, List.setIfInBounds_toArray, List.set_cons_zero, List.set_cons_succ])
        refine wpAnyT_takeL (i := 15) (v := ?_) rfl (by kernel_rfl) (by kernel_rfl) (by kernel_rfl) (by kernel_rfl) (fun _ _ _ h => h) (Or.inl ⟨by rfl, ?_⟩) (by assumption) ?_
        rotate_left
        · (intro w hSw; (try dsimp only at hSw); go_simp; (try with_reducible rfl))
        (try simp only [Act.put, List.setIfInBounds_toArray, List.set_cons_zero, List.set_cons_succ])
        refine wpAnyT_takeL (i := 16) (v := ?_) rfl (by kernel_rfl) (by kernel_rfl) (by kernel_rfl) (by kernel_rfl) (fun _ _ _ h => h) (Or.inl ⟨by rfl, ?_⟩) (by assumption) ?_
        rotate_left
        · (intro w hSw; (try dsimp only at hSw); go_simp; (try with_reducible rfl))
        (try simp only [Act.put, List.setIfInBounds_toArray, List.set_cons_zero, List.set_cons_succ])
        refine wpAnyT_takeL (i := 17) (v := ?_) rfl (by kernel_rfl) (by kernel_rfl) (by kernel_rfl) (by kernel_rfl) (fun _ _ _ h => h) (Or.inl ⟨by rfl, ?_⟩) (by assumption) ?_
        rotate_left
        · (intro w hSw; (try dsimp only at hSw); go_simp; (try with_reducible rfl))
        (try simp only [Act.put, List.setIfInBounds_toArray, List.set_cons_zero, List.set_cons_succ])
        refine wpAnyT_all (rs := [8]) (by kernel_rfl) (by simp) (AllT.consL (i := 8) rfl (fun K hK => ?_) AllT.nil)
        go_simp; go_wp2_with (go_at_call 21; apply Calls.mono; (with_reducible exact clone_i _ _ _ _ _ (HKc.out.grew (by (repeat (first | exact Grew.refl _ | refine Grew.over ?_ _ | refine Grew.alloc ?_ _ | refine Grew.drew ?_ | refine Grew.drewN ?_ _)))) (by rw [HKl2.out]; omega) HKl2.out); rintro e w13 ⟨hg13, p13, c13, rfl, hO13⟩; have HO13 := Lib.hid (hO13.base (show w12.heap.size ≤ _ from Nat.le_refl _)); have Hg13 := Lib.hid (Grew.trans (a := w12) (by (repeat (first | exact Grew.refl _ | refine Grew.over ?_ _ | refine Grew.alloc ?_ _ | refine Grew.drew ?_ | refine Grew.drewN ?_ _))) hg13); have hs13 := Hg13.out.below.size; have c413 := Hg13.out.cellEq c412; clear hO13 hg13)
        refine hK.out _ _ ?_ (fun hH => ?_)
        · (first | (simp [go_sem, ↓IntWalk.iteOmega, *]; done) | go_keep)
        clear hK K
        (try simp only [Act.put, List.setIfInBounds_toArray, List.set_cons_zero, List.set_cons_succ])
        refine wpAnyT_all (rs := [10]) (by kernel_rfl) (by simp) (AllT.consL (i := 10) rfl (fun K hK => ?_) AllT.nil)
        refine step_append_owns rfl _ _ 26 rfl 3 1 8 (.int .i64 0) Tryd.underlying26 Tryd.infoInt rfl (by decide) (w12.heap.size) _ 0 _ _ _ (HO13.out.grew (by (repeat (first | exact Grew.refl _ | refine Grew.over ?_ _ | refine Grew.alloc ?_ _ | refine Grew.drew ?_ | refine Grew.drewN ?_ _)))) rfl rfl _ _ _ rfl (intVs (T)) (by rw [intVs_length, Nat.mul_one]; try first | rfl | assumption | (simp; done) | omega) (fun h => by cases h) (Ints.news (HT12.out.grew (Hg13.out.trans (by (repeat (first | exact Grew.refl _ | refine Grew.over ?_ _ | refine Grew.alloc ?_ _ | refine Grew.drew ?_ | refine Grew.drewN ?_ _)))))) (intVs_one _) (by simp only [maxLen]; omega) (by omega) (by first | rfl | omega | (simp <;> omega)) ?_; intro v1 w1 hO1 hg1 hb1 hv1; have Hg14 := Lib.hid (Grew.grownBy (w0 := w12) (Hg13.out.trans (by (repeat (first | exact Grew.refl _ | refine Grew.over ?_ _ | refine Grew.alloc ?_ _ | refine Grew.drew ?_ | refine Grew.drewN ?_ _)))) hg1 (fun g h => by have := hb1 g h; omega)); have HO14 := Lib.hid hO1; have hs14 := hg1.size; (try simp at hs14); have c414 := Hg14.out.cellEq c412; clear hO1 hg1 hb1 hv1
        refine hK.out _ _ ?_ (fun hH => ?_)
        · (first | (simp [go_sem, ↓IntWalk.iteOmega, *]; done) | go_keep)
        clear hK K
        (try simp only [Act.put, List.setIfInBounds_toArray, List.set_cons_zero, List.set_cons_succ])
        refine wpAnyT_all (rs := [18]) (by kernel_rfl) (by simp) (AllT.consL (i := 18) rfl (fun K hK => ?_) AllT.nil)
        refine step_append_owns rfl _ _ 26 rfl 3 1 8 (.int .i64 0) Tryd.underlying26 Tryd.infoInt rfl (by decide) (w12.heap.size) _ 0 _ _ _ (HO14.out.grew (by (repeat (first | exact Grew.refl _ | refine Grew.over ?_ _ | refine Grew.alloc ?_ _ | refine Grew.drew ?_ | refine Grew.drewN ?_ _)))) rfl rfl _ _ _ rfl (intVs (C.drop (j + 3))) (by rw [intVs_length, Nat.mul_one]; try first | rfl | assumption | (simp; done) | omega) (fun h => by cases h) (Ints.news (HDc.out.grew (Hg14.out.trans (by (repeat (first | exact Grew.refl _ | refine Grew.over ?_ _ | refine Grew.alloc ?_ _ | refine Grew.drew ?_ | refine Grew.drewN ?_ _)))))) (intVs_one _) (by simp only [maxLen]; omega) (by omega) (by first | rfl | omega | (simp <;> omega)) ?_; intro v1 w1 hO1 hg1 hb1 hv1; obtain ⟨p15, c15, rfl⟩ := own_form hO1 (k := 0) rfl; have Hg15 := Lib.hid (Grew.grownBy (w0 := w12) (Hg14.out.trans (by (repeat (first | exact Grew.refl _ | refine Grew.over ?_ _ | refine Grew.alloc ?_ _ | refine Grew.drew ?_ | refine Grew.drewN ?_ _)))) hg1 (fun g h => by have := hb1 g h; omega)); have HO15 := Lib.hid hO1; have hs15 := hg1.size; (try simp at hs15); have c415 := Hg15.out.cellEq c412; have f415 := Hg15.out.frozenEq (by omega) f412; clear hO1 hg1 hb1 hv1
        refine hK.out _ _ ?_ (fun hH => ?_)
        · (first | (simp [go_sem, ↓IntWalk.iteOmega, *]; done) | go_keep)
        clear hK K
        (try simp only [Act.put, List.setIfInBounds_toArray, List.set_cons_zero, List.set_cons_succ])
        refine wpAnyT_all (rs := [19]) (by kernel_rfl) (by simp) (AllT.consL (i := 19) rfl (fun K hK => ?_) AllT.nil)
        go_simp
        refine hK.out _ _ ?_ (fun hH => ?_)
        · (first | (simp [go_sem, ↓IntWalk.iteOmega, *]; done) | go_keep)
        clear hK K
        (try simp only [Act.put, List.setIfInBounds_toArray, List.set_cons_zero, List.set_cons_succ])
        refine wpAnyT_all (rs := [20]) (by kernel_rfl) (by simp) (AllT.consL (i := 20) rfl (fun K hK => ?_) AllT.nil)
        go_simp
        refine hK.out _ _ ?_ (fun hH => ?_)
        · (first | (simp [go_sem, ↓IntWalk.iteOmega, *]; done) | go_keep)
        clear hK K
        (try simp only [Act.put, List.setIfInBounds_toArray, List.set_cons_zero, List.set_cons_succ])
        refine wpAnyT_all (rs := [21]) (by kernel_rfl) (by simp) (AllT.lastL rfl (fun K hK => ?_))
        go_simp
        refine hK.out _ _ ?_
        clear hK K
        (try simp only [Act.put, List.setIfInBounds_toArray, List.set_cons_zero, List.set_cons_succ])
        refine wpAnyT_done (by kernel_rfl) ?_ _
        have HG : Hid (Gr (fun q => q = gs) w w1) := Lib.hid (((Gr.of_grew _ Hgw9.out).trans Hg12.out).over Hg15.out)
        have hbT : ∀ y ∈ C.take j ++ T ++ C.drop (j + 3), -9223372036854775808 ≤ y ∧ y ≤ 9223372036854775807 := by
          intro y hy
          rcases List.mem_append.1 hy with hy | hy
          · rcases List.mem_append.1 hy with hy | hy
            · exact HC12.out.2.1 y (List.mem_of_mem_take hy)
            · have := HTb.out y hy; omega
          · exact HC12.out.2.1 y (List.mem_of_mem_drop hy)
        have h5 := HO15.out
        rw [show intVs (C.take j) ++ intVs T ++ intVs (C.drop (j + 3)) = intVs (C.take j ++ T ++ C.drop (j + 3)) by rw [intVs_app', intVs_app']] at h5
        obtain ⟨q, cap, e1, e2, e3, e4, e5, e6⟩ := own_ints h5 (k := 0) rfl hbT
        cases e1
        have hCC : takeC C l (j + 1) = C.take j ++ T ++ C.drop (j + 3) := by rw [HCt.out, HT2.out]
        have hSS : takeS st C l (j + 1) = (stOut st T).set v 2 := by rw [HS.out, HT2.out]
        have hSl : ((stOut st T).set v 2).length = st.length := by rw [List.length_set, stOut_len]
        have Hfin : Hid (Gr (pX g gs) w (w1.setCell ⟨g, 4, none⟩ (.slice p15 (j + (k + 1) + (C.length - (j + 3))) c15)) ∧ ∃ pC' cC', Peel (w1.setCell ⟨g, 4, none⟩ (.slice p15 (j + (k + 1) + (C.length - (j + 3))) c15)) g gs N pE pA E.length A.length cE cA (takeS st C l (j + 1)) pC' cC' (takeC C l (j + 1)) ∧ ∀ a, pC' = some a → w.heap.size ≤ a.block) := Lib.hid (by
          rw [hCC, hSS]
          have hbl : ∀ ad, p15 = some ad → w12.heap.size ≤ ad.block := fun ad had => (e5 ad had).1
          have hw12 : w.heap.size ≤ w12.heap.size := by have := Hgw9.out.below.size; have := Hg12.out.size; omega
          refine ⟨Gr.setCell (ex := pX g gs) (HG.out.mono (fun q _ e => Or.inr e)) (b := g) (i := 4) (Or.inl rfl) _, p15, c15, ⟨?_, ?_, ?_, ?_, ?_, ?_, ?_, ?_, ?_, ?_, ?_, hgs, ?_⟩, fun ad had => by have := hbl ad had; omega⟩
          · have := HG.out.cellEq hngg HP.out.c0; simp [go_sem, this]
          · have := HG.out.cellEq hngg HP.out.c1; simp [go_sem, this]
          · have := HG.out.cellEq hngg HP.out.c2; simp [go_sem, this]
          · have := HG.out.cellEq hngg HP.out.c3; rw [hSl]; simp [go_sem, this]
          · rw [e2]; simp [go_sem, c415]
          · simp [go_sem, f415]
          · intro x hx
            rw [hSl] at hx
            obtain ⟨g1, g2⟩ := Hset.out x (by rw [stOut_len]; exact hx)
            have g3 := Hg15.out.cellEq g1
            have g4 := Hg15.out.frozenEq (World.block_lt_of_cell? w12 _ g1) g2
            exact ⟨by simp [go_sem, g3, hgs, hngg], by simp [g4]⟩
          · have := HG.out.size; rw [World.size_setCell]; omega
          · exact (e6 w1 (Grew.refl _)).gr ((Gr.refl (fun q => q = g) w1).setCell rfl _) (fun ad had => by have := hbl ad had; omega)
          · rw [e2]; exact e3
          · exact e4
          · intro ad had
            have := hbl ad had
            constructor <;> omega)
        clear h5 e6 hbT
        go_wp2
        refine bodyPost_end (results_none rfl _ _ _) rfl ?_
        exact ⟨rfl, Hfin.out⟩
  · replace HT2 : Hid (turnL l a b = x0 :: xs.reverse) := Lib.hid (by rw [HT2.out, if_neg hzb])
    have hzb' : (z == b) = false := beq_eq_false_iff_ne.2 hzb
    have hc71 : ¬ c7 = 1 := by omega
    have hc72 : 1 ≤ c7 := by omega
    go_wp2_with (go_at_call 29; apply Calls.mono; (with_reducible exact reverse_1 _ _ _ _ _ 0 _ _ _ _ _ (HO7.out.grew (by (repeat (first | exact Grew.refl _ | refine Grew.over ?_ _ | refine Grew.alloc ?_ _ | refine Grew.drew ?_ | refine Grew.drewN ?_ _)))) rfl Hxs.out (by omega) (Nat.le_refl _) (Hg7.out.trans (by (repeat (first | exact Grew.refl _ | refine Grew.over ?_ _ | refine Grew.alloc ?_ _ | refine Grew.drew ?_ | refine Grew.drewN ?_ _))))); rintro e w9 ⟨rfl, hg9, hO9⟩; have HO9 := Lib.hid hO9; have Hg9 := Lib.hid hg9; clear hO9 hg9)
    obtain ⟨T, hTT⟩ : ∃ T, x0 :: xs.reverse = T := ⟨_, rfl⟩
    have HTm : Hid (∀ u ∈ T, u ∈ x0 :: xs) := Lib.hid (fun u hu => by
      rw [← hTT] at hu
      rcases List.mem_cons.1 hu with rfl | hu
      · exact List.mem_cons_self ..
      · exact List.mem_cons_of_mem _ (List.mem_reverse.1 hu))
    have HTl : Hid (T.length = k + 1) := Lib.hid (by rw [← hTT, List.length_cons, List.length_reverse, Hxs.out])
    rw [List.set_cons_zero, hTT] at HO9
    rw [hTT] at HT2
    clear hTT y1 HO7
    have HTb : Hid (∀ u ∈ T, 0 ≤ u ∧ u < (A.length : Int)) := Lib.hid (fun u hu => Hml.out u (HTm.out u hu))
    have hs9 := Hg9.out.below.size
    have Hgw9 := Lib.hid (Hg5.out.trans Hg9.out)
    have hgsb9 : gs < w9.heap.size := by omega
    have hst9 : ∀ i, i < st.length → w9.cell? ⟨gs, i, none⟩ = some (.int .i64 (ge st i)) ∧ w9.frozen? ⟨gs, i, none⟩ = false := fun i hi => ⟨Hgw9.out.cellEq (HP.out.hst i hi).1, Hgw9.out.frozenEq HP.out.hb (HP.out.hst i hi).2⟩
    have c39 := Hgw9.out.cellEq HP.out.c3
    rw [Hst.out] at c39
    have C39 := Lib.hid c39
    have hng7 : ¬ g7 = gs := by omega
    have hngg : ¬ g = gs := fun e => hgs e.symm
    obtain ⟨g9, c9, e9, _, hg9l, _, _, nf9, m9⟩ := HO9.out.some (k := 0) rfl (by omega)
    cases e9
    have HM9 := Lib.hid m9
    have HS9 := Lib.hid hst9
    clear m9 nf9 c39 hst9
    go_loopw [65] (fun iv wr => ∃ t : Nat, t ≤ k + 1 ∧ iv = .int .i64 t ∧ Gr (fun q => q = gs) w9 wr ∧ ∀ i, i < st.length → wr.cell? ⟨gs, i, none⟩ = some (.int .i64 (ge (stOut st (T.take t)) i)) ∧ wr.frozen? ⟨gs, i, none⟩ = false) (fun iv _ => k + 1 - (intOf iv).toNat)
    case atStart => exact ⟨0, Nat.zero_le _, rfl, Gr.refl _ _, HS9.out⟩
    case round =>
      obtain ⟨t, ht, rfl, hgr, hsr⟩ := hrel
      have hszr := hgr.size
      have c3r := hgr.cellEq hngg C39.out
      have Hgr := Lib.hid hgr
      have Hsr := Lib.hid hsr
      clear hgr hsr
      by_cases htk : t < k + 1
      · have htl : t < T.length := by rw [HTl.out]; exact htk
        have e1 := Hgr.out.cellEq hng7 (HM9.out t _ (intVs_get T htl))
        have hu := HTb.out _ (ge_mem htl)
        obtain ⟨u, hue⟩ : ∃ u : Nat, ge T t = (u : Int) := ⟨(ge T t).toNat, by omega⟩
        rw [hue] at e1
        have hul : u < A.length := by omega
        have hui : (u : Int) < (A.length : Int) := by omega
        obtain ⟨s1, s2⟩ := Hsr.out u (by rw [Hst.out]; exact hul)
        have HSn : Hid (stOut st (T.take (t + 1)) = (stOut st (T.take t)).set u 1) := Lib.hid (by rw [stOut_take st htl, hue, Int.toNat_natCast])
        have Hset := Lib.hid (st_set (gs := gs) (u := u) (x := 1) (fun i (hi : i < (stOut st (T.take t)).length) => Hsr.out i (by rw [stOut_len] at hi; exact hi)) (by rw [stOut_len, Hst.out]; exact hul))
        have hti : (t : Int) < ((k + 1 : Nat) : Int) := by omega
        clear hu hue
        go_wp2
        go_roundw
        case rel => exact ⟨t + 1, by omega, by go_num, (Hgr.out.setCell rfl _).over (by (repeat (first | exact Grew.refl _ | refine Grew.over ?_ _ | refine Grew.alloc ?_ _ | refine Grew.drew ?_ | refine Grew.drewN ?_ _))), fun i hi => by
          have h := Hset.out i (by rw [stOut_len]; exact hi)
          rw [HSn.out]
          exact ⟨(show Grew (wr.setCell ⟨gs, u, none⟩ (.int .i64 1)) _ by (repeat (first | exact Grew.refl _ | refine Grew.over ?_ _ | refine Grew.alloc ?_ _ | refine Grew.drew ?_ | refine Grew.drewN ?_ _))).cellEq h.1, (show Grew (wr.setCell ⟨gs, u, none⟩ (.int .i64 1)) _ by (repeat (first | exact Grew.refl _ | refine Grew.over ?_ _ | refine Grew.alloc ?_ _ | refine Grew.drew ?_ | refine Grew.drewN ?_ _))).frozenEq (by simp; omega) h.2⟩⟩
        case measure => simp [intOf]; omega
      · have hte : t = k + 1 := by omega
        have hTf : T.take t = T := List.take_of_length_le (by rw [HTl.out]; omega)
        rw [hTf] at Hsr
        obtain ⟨s1, s2⟩ := Hsr.out v (by rw [Hst.out]; exact hvl)
        have Hset := Lib.hid (st_set (gs := gs) (u := v) (x := 2) (fun i (hi : i < (stOut st T).length) => Hsr.out i (by rw [stOut_len] at hi; exact hi)) (by rw [stOut_len, Hst.out]; exact hvl))
        have c4r := Hgr.out.cellEq hngg (Hgw9.out.cellEq HP.out.c4)
        have hgb9 : g < w9.heap.size := by omega
        have C4r := Lib.hid c4r
        have hti : ¬ (t : Int) < ((k + 1 : Nat) : Int) := by omega
        have HCr := Lib.hid ((HP.out.hC.grew Hgw9.out).gr Hgr.out (fun ad had => by cases had; exact nC2))
        have hlkk : k + 1 ≤ 100 := by omega
        clear hTf
        subst hte
        go_upto_region 13 with fail
        have Hg12 : Hid (Gr (fun q => q = gs) w9 (wr.setCell ⟨gs, v, none⟩ (.int .i64 2))) := Lib.hid (Hgr.out.setCell rfl _)
        have hs12 : (wr.setCell ⟨gs, v, none⟩ (.int .i64 2)).heap.size = wr.heap.size := World.size_setCell _ _ _
        obtain ⟨w12, hw12⟩ : ∃ w12, wr.setCell ⟨gs, v, none⟩ (.int .i64 2) = w12 := ⟨_, rfl⟩
        rw [hw12] at Hset Hg12 hs12 ⊢
        have c412 := Hg12.out.cellEq hngg (Hgw9.out.cellEq HP.out.c4)
        have HC12 := Lib.hid ((HP.out.hC.grew Hgw9.out).gr Hg12.out (fun ad had => by cases had; exact nC2))
        have f412 : w12.frozen? ⟨g, 4, none⟩ = false := by rw [Hg12.out.frozen hgb9 hngg]; exact Hgw9.out.frozenEq hgb HP.out.f4
        have HKc := Lib.hid (HC12.out.cut (k := j) (by omega))
        have HKl2 : Hid ((C.take j).length = j) := Lib.hid (by rw [List.length_take]; omega)
        have HDc := Lib.hid (HC12.out.drop (k := j + 3) (by omega))
        have hDl2 : (C.drop (j + 3)).length = C.length - (j + 3) := List.length_drop ..
        have HO12 := Lib.hid (HO9.out.gr Hg12.out (fun q hq1 hq2 hq3 => by omega))
        have HT12 : Hid (Ints w12 (some ⟨g7, 0, none⟩) T) := Lib.hid (by
          obtain ⟨pT, cT, eT, _, _, _, _, hT⟩ := own_ints HO12.out (k := 0) rfl (fun x hx => by have := HTb.out x hx; have := ha1; omega)
          cases eT
          exact hT _ (Grew.refl _))
        have HTl2 := HTl.out
        have hj1 : (j : Int) + 1 - 1 = (j : Int) := by omega
        have hj2 : j ≤ C.length := by omega
        have hj3 : j + 3 ≤ C.length := by omega
        have hj4 : j ≤ cC := by have := HP.out.cC1; omega
        have hj5 : C.length ≤ cC := HP.out.cC1
        have hwj : IntKind.i64.wrap (j : Int) = j := IntWalk.i64_in _ ⟨by omega, by omega⟩
        have hwk : IntKind.i64.wrap ((j : Int) + 1 + 2) = ((j + 3 : Nat) : Int) := by rw [IntWalk.i64_in _ ⟨by omega, by omega⟩]; omega
        have hwl : IntKind.i64.wrap ((j : Int) + 3) = ((j + 3 : Nat) : Int) := by rw [IntWalk.i64_in _ ⟨by omega, by omega⟩]; omega
        have hj6 : (j : Int) ≤ (cC : Int) := by omega
        have hj7 : 0 ≤ (j : Int) + 3 := by omega
        have hj8 : (j : Int) + 3 ≤ (C.length : Int) := by omega
        have hj9 : ((j : Int) + 3).toNat = j + 3 := by omega
        obtain ⟨pD, hif, hDp⟩ : ∃ pD, (if cC = j + 3 then (some ⟨bC, oC, none⟩ : Option Addr) else some ⟨bC, oC + (j + 3), none⟩) = some pD ∧ Ints w12 (some pD) (C.drop (j + 3)) := by
          by_cases hcc : cC = j + 3
          · refine ⟨⟨bC, oC, none⟩, if_pos hcc, ?_⟩
            rw [List.drop_eq_nil_of_le (by omega)]
            exact ⟨by simp, (fun x hx => by cases hx), 0, 0, (fun h => by simp at h), (fun i hi => by simp at hi)⟩
          · exact ⟨_, if_neg hcc, HDc.out⟩
        replace HDc := Lib.hid hDp
        clear hDp
        clear hw12 c4r s1 s2 c3r
        refine wp_region_T (s := 21) (S := fun w' => w'.cell? ⟨g, 4, none⟩ = some (.slice (some ⟨bC, oC, none⟩) C.length cC)) (by kernel_rfl) (by simpa using c412) (fun hH => ?_)
        refine wpAnyT_takeL (i := 0) (v := ?_) rfl (by kernel_rfl) (by kernel_rfl) (by kernel_rfl) (by kernel_rfl) (fun _ _ _ h => h) (Or.inl ⟨by rfl, ?_⟩) (by assumption) ?_
        rotate_left
        · (intro w hSw; (try dsimp only at hSw); go_simp; (try with_reducible rfl))
        (try simp only [Act.put, List.setIfInBounds_toArray, List.set_cons_zero, List.set_cons_succ])
        refine wpAnyT_takeL (i := 1) (v := ?_) rfl (by kernel_rfl) (by kernel_rfl) (by kernel_rfl) (by kernel_rfl) (fun _ _ _ h => h) (Or.inl ⟨by rfl, ?_⟩) (by assumption) ?_
        rotate_left
        · (intro w hSw; (try dsimp only at hSw); go_simp; (try with_reducible rfl))
        (try simp only [Act.put, List.setIfInBounds_toArray, List.set_cons_zero, List.set_cons_succ])
        refine wpAnyT_takeL (i := 2) (v := ?_) rfl (by kernel_rfl) (by kernel_rfl) (by kernel_rfl) (by kernel_rfl) (fun _ _ _ h => h) (Or.inl ⟨by rfl, ?_⟩) (by assumption) ?_
        rotate_left
        · (intro w hSw; (try dsimp only at hSw); go_simp; (try with_reducible rfl))
        (try simp only [Act.put, List.setIfInBounds_toArray, List.set_cons_zero, List.set_cons_succ])
        refine wpAnyT_takeL (i := 3) (v := ?_) rfl (by kernel_rfl) (by kernel_rfl) (by kernel_rfl) (by kernel_rfl) (fun _ _ _ h => h) (Or.inl ⟨by rfl, ?_⟩) (by assumption) ?_
        rotate_left
        · (intro w hSw; (try dsimp only at hSw); go_simp; (try with_reducible rfl))
        (try simp only [Act.put, List.setIfInBounds_toArray, List.set_cons_zero, List.set_cons_succ])
        refine wpAnyT_takeL (i := 4) (v := ?_) rfl (by kernel_rfl) (by kernel_rfl) (by kernel_rfl) (by kernel_rfl) (fun _ _ _ h => h) (Or.inl ⟨by rfl, ?_⟩) (by assumption) ?_
        rotate_left
        · (intro w hSw; (try dsimp only at hSw); go_simp; (try with_reducible rfl))
        (try simp only [Act.put, List.setIfInBounds_toArray, List.set_cons_zero, List.set_cons_succ])
        refine wpAnyT_takeL (i := 5) (v := ?_) rfl (by kernel_rfl) (by kernel_rfl) (by kernel_rfl) (by kernel_rfl) (fun _ _ _ h => h) (Or.inl ⟨by rfl, ?_⟩) (by assumption) ?_
        rotate_left
        · (intro w hSw; (try dsimp only at hSw); go_simp; (try with_reducible rfl))
        (try simp only [Act.put, List.setIfInBounds_toArray, List.set_cons_zero, List.set_cons_succ])
        refine wpAnyT_takeL (i := 6) (v := ?_) rfl (by kernel_rfl) (by kernel_rfl) (by kernel_rfl) (by kernel_rfl) (fun _ _ _ h => h) (Or.inl ⟨by rfl, ?_⟩) (by assumption) ?_
        rotate_left
        · (intro w hSw; (try dsimp only at hSw); go_simp; (try with_reducible rfl))
        (try simp only [Act.put, List.setIfInBounds_toArray, List.set_cons_zero, List.set_cons_succ])
        refine wpAnyT_takeL (i := 7) (v := ?_) rfl (by kernel_rfl) (by kernel_rfl) (by kernel_rfl) (by kernel_rfl) (fun _ _ _ h => h) (Or.inl ⟨by rfl, ?_⟩) (by assumption) ?_
        rotate_left
        · (intro w hSw; (try dsimp only at hSw); go_simp; (try with_reducible rfl))
        (try simp only [Act.put, List.setIfInBounds_toArray, List.set_cons_zero, List.set_cons_succ])
        refine wpAnyT_takeL (i := 9) (v := ?_) rfl (by kernel_rfl) (by kernel_rfl) (by kernel_rfl) (by kernel_rfl) (fun _ _ _ h => h) (Or.inl ⟨by rfl, ?_⟩) (by assumption) ?_
        rotate_left
        · (intro w hSw; (try dsimp only at hSw); go_simp; (try with_reducible rfl))
        (try simp only [Act.put, List.setIfInBounds_toArray, List.set_cons_zero, List.set_cons_succ])
        refine wpAnyT_takeL (i := 11) (v := ?_) rfl (by kernel_rfl) (by kernel_rfl) (by kernel_rfl) (by kernel_rfl) (fun _ _ _ h => h) (Or.inl ⟨by rfl, ?_⟩) (by assumption) ?_
        rotate_left
        · (intro w hSw; (try dsimp only at hSw); go_simp; (try with_reducible rfl))
        (try simp only [Act.put, List.setIfInBounds_toArray, List.set_cons_zero, List.set_cons_succ])
        refine wpAnyT_takeL (i := 12) (v := ?_) rfl (by kernel_rfl) (by kernel_rfl) (by kernel_rfl) (by kernel_rfl) (fun _ _ _ h => h) (Or.inl ⟨by rfl, ?_⟩) (by assumption) ?_
        rotate_left
        · (intro w hSw; (try dsimp only at hSw); go_simp; (try with_reducible rfl))
        (try simp only [Act.put, List.setIfInBounds_toArray, List.set_cons_zero, List.set_cons_succ])
        refine wpAnyT_takeL (i := 13) (v := ?_) rfl (by kernel_rfl) (by kernel_rfl) (by kernel_rfl) (by kernel_rfl) (fun _ _ _ h => h) (Or.inl ⟨by rfl, ?_⟩) (by assumption) ?_
        rotate_left
        · (intro w hSw; (try dsimp only at hSw); go_simp; (try with_reducible rfl))
        (try simp only [Act.put, List.setIfInBounds_toArray, List.set_cons_zero, List.set_cons_succ])
        refine wpAnyT_takeL (i := 14) (v := ?_) rfl (by kernel_rfl) (by kernel_rfl) (by kernel_rfl) (by kernel_rfl) (fun _ _ _ h => h) (Or.inl ⟨by rfl, ?_⟩) (by assumption) ?_
        rotate_left
        · (intro w hSw; (try dsimp only at hSw); go_simp; (try with_reducible rfl))
        (try simp only [Act.put, List.setIfInBounds_toArray, List.set_cons_zero, List.set_cons_succ])
        refine wpAnyT_takeL (i := 15) (v := ?_) rfl (by kernel_rfl) (by kernel_rfl) (by kernel_rfl) (by kernel_rfl) (fun _ _ _ h => h) (Or.inl ⟨by rfl, ?_⟩) (by assumption) ?_
        rotate_left
        · (intro w hSw; (try dsimp only at hSw); go_simp; (try with_reducible rfl))
        (try simp only [Act.put, List.setIfInBounds_toArray, List.set_cons_zero, List.set_cons_succ])
        refine wpAnyT_takeL (i := 16) (v := ?_) rfl (by kernel_rfl) (by kernel_rfl) (by kernel_rfl) (by kernel_rfl) (fun _ _ _ h => h) (Or.inl ⟨by rfl, ?_⟩) (by assumption) ?_
        rotate_left
        · (intro w hSw; (try dsimp only at hSw); go_simp; (try with_reducible rfl))
        (try simp only [Act.put, List.setIfInBounds_toArray, List.set_cons_zero, List.set_cons_succ])
        refine wpAnyT_takeL (i := 17) (v := ?_) rfl (by kernel_rfl) (by kernel_rfl) (by kernel_rfl) (by kernel_rfl) (fun _ _ _ h => h) (Or.inl ⟨by rfl, ?_⟩) (by assumption) ?_
        rotate_left
        · (intro w hSw; (try dsimp only at hSw); go_simp; (try with_reducible rfl))
        (try simp only [Act.put, List.setIfInBounds_toArray, List.set_cons_zero, List.set_cons_succ])
        refine wpAnyT_all (rs := [8]) (by kernel_rfl) (by simp) (AllT.consL (i := 8) rfl (fun K hK => ?_) AllT.nil)
        go_simp; go_wp2_with (go_at_call 21; apply Calls.mono; (with_reducible exact clone_i _ _ _ _ _ (HKc.out.grew (by (repeat (first | exact Grew.refl _ | refine Grew.over ?_ _ | refine Grew.alloc ?_ _ | refine Grew.drew ?_ | refine Grew.drewN ?_ _)))) (by rw [HKl2.out]; omega) HKl2.out); rintro e w13 ⟨hg13, p13, c13, rfl, hO13⟩; have HO13 := Lib.hid (hO13.base (show w12.heap.size ≤ _ from Nat.le_refl _)); have Hg13 := Lib.hid (Grew.trans (a := w12) (by (repeat (first | exact Grew.refl _ | refine Grew.over ?_ _ | refine Grew.alloc ?_ _ | refine Grew.drew ?_ | refine Grew.drewN ?_ _))) hg13); have hs13 := Hg13.out.below.size; have c413 := Hg13.out.cellEq c412; clear hO13 hg13)
        refine hK.out _ _ ?_ (fun hH => ?_)
        · (first | (simp [go_sem, ↓IntWalk.iteOmega, *]; done) | go_keep)
        clear hK K
        (try simp only [Act.put, List.setIfInBounds_toArray, List.set_cons_zero, List.set_cons_succ])
        refine wpAnyT_all (rs := [10]) (by kernel_rfl) (by simp) (AllT.consL (i := 10) rfl (fun K hK => ?_) AllT.nil)
        refine step_append_owns rfl _ _ 26 rfl 3 1 8 (.int .i64 0) Tryd.underlying26 Tryd.infoInt rfl (by decide) (w12.heap.size) _ 0 _ _ _ (HO13.out.grew (by (repeat (first | exact Grew.refl _ | refine Grew.over ?_ _ | refine Grew.alloc ?_ _ | refine Grew.drew ?_ | refine Grew.drewN ?_ _)))) rfl rfl _ _ _ rfl (intVs (T)) (by rw [intVs_length, Nat.mul_one]; try first | rfl | assumption | (simp; done) | omega) (fun h => by cases h) (Ints.news (HT12.out.grew (Hg13.out.trans (by (repeat (first | exact Grew.refl _ | refine Grew.over ?_ _ | refine Grew.alloc ?_ _ | refine Grew.drew ?_ | refine Grew.drewN ?_ _)))))) (intVs_one _) (by simp only [maxLen]; omega) (by omega) (by first | rfl | omega | (simp <;> omega)) ?_; intro v1 w1 hO1 hg1 hb1 hv1; have Hg14 := Lib.hid (Grew.grownBy (w0 := w12) (Hg13.out.trans (by (repeat (first | exact Grew.refl _ | refine Grew.over ?_ _ | refine Grew.alloc ?_ _ | refine Grew.drew ?_ | refine Grew.drewN ?_ _)))) hg1 (fun g h => by have := hb1 g h; omega)); have HO14 := Lib.hid hO1; have hs14 := hg1.size; (try simp at hs14); have c414 := Hg14.out.cellEq c412; clear hO1 hg1 hb1 hv1
        refine hK.out _ _ ?_ (fun hH => ?_)
        · (first | (simp [go_sem, ↓IntWalk.iteOmega, *]; done) | go_keep)
        clear hK K
        (try simp only [Act.put, List.setIfInBounds_toArray, List.set_cons_zero, List.set_cons_succ])
        refine wpAnyT_all (rs := [18]) (by kernel_rfl) (by simp) (AllT.consL (i := 18) rfl (fun K hK => ?_) AllT.nil)
        refine step_append_owns rfl _ _ 26 rfl 3 1 8 (.int .i64 0) Tryd.underlying26 Tryd.infoInt rfl (by decide) (w12.heap.size) _ 0 _ _ _ (HO14.out.grew (by (repeat (first | exact Grew.refl _ | refine Grew.over ?_ _ | refine Grew.alloc ?_ _ | refine Grew.drew ?_ | refine Grew.drewN ?_ _)))) rfl rfl _ _ _ rfl (intVs (C.drop (j + 3))) (by rw [intVs_length, Nat.mul_one]; try first | rfl | assumption | (simp; done) | omega) (fun h => by cases h) (Ints.news (HDc.out.grew (Hg14.out.trans (by (repeat (first | exact Grew.refl _ | refine Grew.over ?_ _ | refine Grew.alloc ?_ _ | refine Grew.drew ?_ | refine Grew.drewN ?_ _)))))) (intVs_one _) (by simp only [maxLen]; omega) (by omega) (by first | rfl | omega | (simp <;> omega)) ?_; intro v1 w1 hO1 hg1 hb1 hv1; obtain ⟨p15, c15, rfl⟩ := own_form hO1 (k := 0) rfl; have Hg15 := Lib.hid (Grew.grownBy (w0 := w12) (Hg14.out.trans (by (repeat (first | exact Grew.refl _ | refine Grew.over ?_ _ | refine Grew.alloc ?_ _ | refine Grew.drew ?_ | refine Grew.drewN ?_ _)))) hg1 (fun g h => by have := hb1 g h; omega)); have HO15 := Lib.hid hO1; have hs15 := hg1.size; (try simp at hs15); have c415 := Hg15.out.cellEq c412; have f415 := Hg15.out.frozenEq (by omega) f412; clear hO1 hg1 hb1 hv1
        refine hK.out _ _ ?_ (fun hH => ?_)
        · (first | (simp [go_sem, ↓IntWalk.iteOmega, *]; done) | go_keep)
        clear hK K
        (try simp only [Act.put, List.setIfInBounds_toArray, List.set_cons_zero, List.set_cons_succ])
        refine wpAnyT_all (rs := [19]) (by kernel_rfl) (by simp) (AllT.consL (i := 19) rfl (fun K hK => ?_) AllT.nil)
        go_simp
        refine hK.out _ _ ?_ (fun hH => ?_)
        · (first | (simp [go_sem, ↓IntWalk.iteOmega, *]; done) | go_keep)
        clear hK K
        (try simp only [Act.put, List.setIfInBounds_toArray, List.set_cons_zero, List.set_cons_succ])
        refine wpAnyT_all (rs := [20]) (by kernel_rfl) (by simp) (AllT.consL (i := 20) rfl (fun K hK => ?_) AllT.nil)
        go_simp
        refine hK.out _ _ ?_ (fun hH => ?_)
        · (first | (simp [go_sem, ↓IntWalk.iteOmega, *]; done) | go_keep)
        clear hK K
        (try simp only [Act.put, List.setIfInBounds_toArray, List.set_cons_zero, List.set_cons_succ])
        refine wpAnyT_all (rs := [21]) (by kernel_rfl) (by simp) (AllT.lastL rfl (fun K hK => ?_))
        go_simp
        refine hK.out _ _ ?_
        clear hK K
        (try simp only [Act.put, List.setIfInBounds_toArray, List.set_cons_zero, List.set_cons_succ])
        refine wpAnyT_done (by kernel_rfl) ?_ _
        have HG : Hid (Gr (fun q => q = gs) w w1) := Lib.hid (((Gr.of_grew _ Hgw9.out).trans Hg12.out).over Hg15.out)
        have hbT : ∀ y ∈ C.take j ++ T ++ C.drop (j + 3), -9223372036854775808 ≤ y ∧ y ≤ 9223372036854775807 := by
          intro y hy
          rcases List.mem_append.1 hy with hy | hy
          · rcases List.mem_append.1 hy with hy | hy
            · exact HC12.out.2.1 y (List.mem_of_mem_take hy)
            · have := HTb.out y hy; omega
          · exact HC12.out.2.1 y (List.mem_of_mem_drop hy)
        have h5 := HO15.out
        rw [show intVs (C.take j) ++ intVs T ++ intVs (C.drop (j + 3)) = intVs (C.take j ++ T ++ C.drop (j + 3)) by rw [intVs_app', intVs_app']] at h5
        obtain ⟨q, cap, e1, e2, e3, e4, e5, e6⟩ := own_ints h5 (k := 0) rfl hbT
        cases e1
        have hCC : takeC C l (j + 1) = C.take j ++ T ++ C.drop (j + 3) := by rw [HCt.out, HT2.out]
        have hSS : takeS st C l (j + 1) = (stOut st T).set v 2 := by rw [HS.out, HT2.out]
        have hSl : ((stOut st T).set v 2).length = st.length := by rw [List.length_set, stOut_len]
        have Hfin : Hid (Gr (pX g gs) w (w1.setCell ⟨g, 4, none⟩ (.slice p15 (j + (k + 1) + (C.length - (j + 3))) c15)) ∧ ∃ pC' cC', Peel (w1.setCell ⟨g, 4, none⟩ (.slice p15 (j + (k + 1) + (C.length - (j + 3))) c15)) g gs N pE pA E.length A.length cE cA (takeS st C l (j + 1)) pC' cC' (takeC C l (j + 1)) ∧ ∀ a, pC' = some a → w.heap.size ≤ a.block) := Lib.hid (by
          rw [hCC, hSS]
          have hbl : ∀ ad, p15 = some ad → w12.heap.size ≤ ad.block := fun ad had => (e5 ad had).1
          have hw12 : w.heap.size ≤ w12.heap.size := by have := Hgw9.out.below.size; have := Hg12.out.size; omega
          refine ⟨Gr.setCell (ex := pX g gs) (HG.out.mono (fun q _ e => Or.inr e)) (b := g) (i := 4) (Or.inl rfl) _, p15, c15, ⟨?_, ?_, ?_, ?_, ?_, ?_, ?_, ?_, ?_, ?_, ?_, hgs, ?_⟩, fun ad had => by have := hbl ad had; omega⟩
          · have := HG.out.cellEq hngg HP.out.c0; simp [go_sem, this]
          · have := HG.out.cellEq hngg HP.out.c1; simp [go_sem, this]
          · have := HG.out.cellEq hngg HP.out.c2; simp [go_sem, this]
          · have := HG.out.cellEq hngg HP.out.c3; rw [hSl]; simp [go_sem, this]
          · rw [e2]; simp [go_sem, c415]
          · simp [go_sem, f415]
          · intro x hx
            rw [hSl] at hx
            obtain ⟨g1, g2⟩ := Hset.out x (by rw [stOut_len]; exact hx)
            have g3 := Hg15.out.cellEq g1
            have g4 := Hg15.out.frozenEq (World.block_lt_of_cell? w12 _ g1) g2
            exact ⟨by simp [go_sem, g3, hgs, hngg], by simp [g4]⟩
          · have := HG.out.size; rw [World.size_setCell]; omega
          · exact (e6 w1 (Grew.refl _)).gr ((Gr.refl (fun q => q = g) w1).setCell rfl _) (fun ad had => by have := hbl ad had; omega)
          · rw [e2]; exact e3
          · exact e4
          · intro ad had
            have := hbl ad had
            constructor <;> omega)
        clear h5 e6 hbT
        go_wp2
        refine bodyPost_end (results_none rfl _ _ _) rfl ?_
        exact ⟨rfl, Hfin.out⟩

end Go.Proofs.YtdacnkjmimhcaaaDoor
