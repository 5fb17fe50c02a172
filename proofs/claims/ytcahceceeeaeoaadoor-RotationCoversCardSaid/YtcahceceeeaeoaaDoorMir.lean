/- Mirror of the program. -/
import Derived.Test.YtcahceceeeaeoaaDoorMia
import Derived.Deep.DeepCutAuto
set_option linter.unusedSimpArgs false
set_option linter.unusedVariables false
namespace Go.Proofs.YtcahceceeeaeoaaDoor
open Go.RowKit
attribute [local go_sem ↓] Go.wp_at_zero Go.wp_at_succ

/-- What Mirror returns. -/
noncomputable def mirF (N : Int) (E : List (Int × Int)) (A : List (List Int)) : Del :=
  if vRotB N E A = true then ⟨0, N, E, A.map List.reverse⟩ else ⟨0, 0, [], []⟩
def RotPost1 (D : Del) (w : World) (e : Ending) (w' : World) : Prop :=
  Grew w w' ∧ ∃ pE pA cE cA, e = .returned (.agg #[.int .i64 D.N, .slice pE D.E.length cE, .slice pA D.A.length cA]) ∧ Prs w' pE D.E ∧ Mat w' pA D.A
/-- The end of a function that returns a rotation system, which lies in slot 2's block. -/
theorem ret_rot1 {fn : Func} {R : Ending → World → Prop} {a : Act} {w : World} (h : fn.results = #[.cell 2 25]) {g : Nat} {t : TypeId} {fr : Nat × Nat} {v0 v1 v2 : Value}
    (hp : a.tmps.getD 2 undef = .pointer (some ⟨g, 0, none⟩)) (hg : w.heap[g]? = some (.cells #[v0, v1, v2] t fr)) (hd : a.defers = [])
    (hR : R (.returned (.agg #[v0, v1, v2])) w) : bodyPost Tryd.prog fn R .ret a w := by
  obtain ⟨i0, hi, _, hz1, _⟩ := info_parts Tryd.infoRot
  exact bodyPost_ret (results_cell_row h a.tmps w g t #[v0, v1, v2] fr _ hp hg Tryd.underlying25 rfl (by simp [hi, hz1])) hd hR

set_option maxRecDepth 8000 in
set_option maxHeartbeats 16000000 in
theorem mirror_p (N : Int) (pE pA : Option Addr) (nE nA cE cA : Nat) (E : List (Int × Int)) (A : List (List Int)) (w : World) (hR : RotAt w pE pA E A) (hL : Lim w) (hnE : E.length = nE) (hnA : A.length = nA) :
    Calls Tryd.prog 24 #[.agg #[.int .i64 N, .slice pE nE cE, .slice pA nA cA]] w (RotPost1 (mirF N E A) w) := by
  subst hnE hnA
  have he1 := hR.e1
  have ha1 := hR.a1
  have HR := Lib.hid hR
  have HL := Lib.hid hL
  cases hv : vRotB N E A
  case false =>
    have Hf : Hid (mirF N E A = ⟨0, 0, [], []⟩) := Lib.hid (by unfold mirF; simp [hv])
    have Hv := Lib.hid hv
    clear hv hR hL
    go_enter Tryd.func24, Tryd.ntmps24
    go_wp2_with (go_at_call 10; apply Calls.mono; (with_reducible exact valid_pe Hv.out (HR.out.grew (by (repeat (first | exact Grew.refl _ | refine Grew.over ?_ _ | refine Grew.alloc ?_ _ | refine Grew.drew ?_ | refine Grew.drewN ?_ _)))) (HL.out.grew (by (repeat (first | exact Grew.refl _ | refine Grew.over ?_ _ | refine Grew.alloc ?_ _ | refine Grew.drew ?_ | refine Grew.drewN ?_ _)))) rfl rfl); rintro e w' ⟨rfl, x, rfl⟩)
    (try simp only [Exit.inBlock, Exit.then])
    refine ret_rot1 rfl rfl (by rw [heap_over, if_pos (by simp)]; exact heap_alloc2_new w _ _) rfl ?_
    rw [Hf.out]
    exact ⟨by (repeat (first | exact Grew.refl _ | refine Grew.over ?_ _ | refine Grew.alloc ?_ _ | refine Grew.drew ?_ | refine Grew.drewN ?_ _)), none, none, 0, 0, rfl, ⟨by simp, 0, 0, fun h => by simp at h, fun i hi => by simp at hi⟩, Mat.nil _ _⟩
  case true =>
  have Hv := Lib.hid hv
  have hV := vRotB_iff.1 hv
  have HV := Lib.hid hV
  have hN : N = A.length := hV.al.symm
  subst hN
  have Hf : Hid (mirF A.length E A = ⟨0, A.length, E, A.map List.reverse⟩) := Lib.hid (by unfold mirF; rw [if_pos hv])
  have HE := Lib.hid hR.hE
  clear hv hR hL hV
  go_enter Tryd.func24, Tryd.ntmps24
  go_upto_region 3 with (go_at_call 10; apply Calls.mono; (with_reducible exact valid_pe Hv.out (HR.out.grew (by (repeat (first | exact Grew.refl _ | refine Grew.over ?_ _ | refine Grew.alloc ?_ _ | refine Grew.drew ?_ | refine Grew.drewN ?_ _)))) (HL.out.grew (by (repeat (first | exact Grew.refl _ | refine Grew.over ?_ _ | refine Grew.alloc ?_ _ | refine Grew.drew ?_ | refine Grew.drewN ?_ _)))) rfl rfl); rintro e w' ⟨rfl, x, rfl⟩)
  obtain ⟨wB, hwB⟩ : ∃ wB, (w.alloc (.cells #[.int .i64 A.length, .slice pE E.length cE, .slice pA A.length cA] 25)).alloc (.cells #[.int .i64 0, .slice none 0 0, .slice none 0 0] 25) = wB := ⟨_, rfl⟩
  obtain ⟨wz, hwz⟩ : ∃ wz, over ((w.alloc (.cells #[.int .i64 A.length, .slice pE E.length cE, .slice pA A.length cA] 25)).alloc (.cells #[.int .i64 0, .slice none 0 0, .slice none 0 0] 25)) x = wz := ⟨_, rfl⟩
  have HwB : Hid (Grew w wB) := Lib.hid (by rw [← hwB]; (repeat (first | exact Grew.refl _ | refine Grew.over ?_ _ | refine Grew.alloc ?_ _ | refine Grew.drew ?_ | refine Grew.drewN ?_ _)))
  have hsB : wB.heap.size = w.heap.size + 2 := by rw [← hwB]; simp
  have b0 : wB.cell? ⟨w.heap.size, 0, none⟩ = some (.int .i64 A.length) := by rw [← hwB]; simp [go_sem]
  have b1 : wB.cell? ⟨w.heap.size, 1, none⟩ = some (.slice pE E.length cE) := by rw [← hwB]; simp [go_sem]
  have b2 : wB.cell? ⟨w.heap.size, 2, none⟩ = some (.slice pA A.length cA) := by rw [← hwB]; simp [go_sem]
  have bh : wB.heap[w.heap.size + 1]? = some (.cells #[.int .i64 0, .slice none 0 0, .slice none 0 0] 25) := by rw [← hwB]; exact heap_alloc2_new w _ _
  have Hgz : Hid (Grew wB wz) := Lib.hid (by rw [← hwz, ← hwB]; (repeat (first | exact Grew.refl _ | refine Grew.over ?_ _ | refine Grew.alloc ?_ _ | refine Grew.drew ?_ | refine Grew.drewN ?_ _)))
  rw [hwz]
  have z0 := Hgz.out.cellEq b0
  have z1 := Hgz.out.cellEq b1
  have Hb2 := Lib.hid b2
  have Hbh := Lib.hid bh
  have hsz := Hgz.out.below.size
  have HEz : Hid (Prs wz pE E) := Lib.hid (HE.out.grew (HwB.out.trans Hgz.out))
  clear hwB hwz b0 b1 b2 bh
  go_cut [3] (fun v3 wx => ∃ (O : Nat) (q : Option Addr) (c : Nat), v3 = .pointer (some ⟨O, 0, none⟩) ∧ Grew wB wx ∧ Owns wx (w.heap.size + 2) [outRow O A.length (.slice q E.length c) (.slice none 0 0), edN (.slice q E.length c) E])
  case first =>
    refine wp_region_T (s := 7) (S := fun w' => w'.cell? ⟨w.heap.size, 0, none⟩ = some (.int .i64 A.length) ∧ w'.cell? ⟨w.heap.size, 1, none⟩ = some (.slice pE E.length cE)) (by kernel_rfl) ⟨z0, z1⟩ (fun hH => ?_)
    refine wpAnyT_takeL (i := 0) (v := ?_) rfl (by kernel_rfl) (by kernel_rfl) (by kernel_rfl) (by kernel_rfl) (fun _ _ _ h => h) (Or.inl ⟨by rfl, ?_⟩) (by assumption) ?_
    rotate_left
    · (intro w hSw; (try dsimp only at hSw); go_simp; (try with_reducible rfl))
    (try simp only [Act.put, List.setIfInBounds_toArray, List.set_cons_zero, List.set_cons_succ])
    refine wpAnyT_takeL (i := 1) (v := ?_) rfl (by kernel_rfl) (by kernel_rfl) (by kernel_rfl) (by kernel_rfl) (fun _ _ _ h => h) (Or.inl ⟨by rfl, ?_⟩) (by assumption) ?_
    rotate_left
    · (intro w hSw; (try dsimp only at hSw); go_simp; (try with_reducible rfl))
    (try simp only [Act.put, List.setIfInBounds_toArray, List.set_cons_zero, List.set_cons_succ])
    refine wpAnyT_takeL (i := 2) (v := ?_) rfl (by kernel_rfl) (by kernel_rfl) (by kernel_rfl) (by kernel_rfl) (fun _ _ _ h => h) (Or.inl ⟨by rfl, ?_⟩) (by assumption) ?_
    rotate_left
    · (intro w hSw; (try dsimp only at hSw); go_simp; (try with_reducible rfl))
    (try simp only [Act.put, List.setIfInBounds_toArray, List.set_cons_zero, List.set_cons_succ])
    refine wpAnyT_takeL (i := 3) (v := ?_) rfl (by kernel_rfl) (by kernel_rfl) (by kernel_rfl) (by kernel_rfl) (fun _ _ _ h => h) (Or.inl ⟨by rfl, ?_⟩) (by assumption) ?_
    rotate_left
    · (intro w hSw; (try dsimp only at hSw); go_simp; (try with_reducible rfl))
    (try simp only [Act.put, List.setIfInBounds_toArray, List.set_cons_zero, List.set_cons_succ])
    refine wpAnyT_all (rs := [4, 6]) (by kernel_rfl) (by simp) (AllT.consL (i := 4) rfl (fun K hK => ?_) (AllT.consL (i := 6) rfl (fun K hK => ?_) AllT.nil))
    · go_simp
      go_wp2_with (go_at_call 37; apply Calls.mono; (with_reducible exact clone_g pE E.length cE E _ (HEz.out.grew (by (repeat (first | exact Grew.refl _ | refine Grew.over ?_ _ | refine Grew.alloc ?_ _ | refine Grew.drew ?_ | refine Grew.drewN ?_ _)))) he1 rfl); rintro e w2 ⟨hg2, q2, c2, rfl, hO2⟩; have hgz2 : Grew wz w2 := Grew.trans (by (repeat (first | exact Grew.refl _ | refine Grew.over ?_ _ | refine Grew.alloc ?_ _ | refine Grew.drew ?_ | refine Grew.drewN ?_ _))) hg2; have r0 := hgz2.cellEq z0; have r1 := hgz2.cellEq z1; have hs2 := hgz2.below.size; have HO2 := Lib.hid hO2; have Hgz2 := Lib.hid hgz2; clear hO2 hgz2 hg2)
      refine hK.out _ _ ⟨r0, r1⟩ (fun hH => ?_)
      clear hK K
      (try simp only [Act.put, List.setIfInBounds_toArray, List.set_cons_zero, List.set_cons_succ])
      refine wpAnyT_takeL (i := 5) (v := ?_) rfl (by kernel_rfl) (by kernel_rfl) (by kernel_rfl) (by kernel_rfl) (fun _ _ _ h => h) (Or.inl ⟨by rfl, ?_⟩) (by assumption) ?_
      rotate_left
      · (intro w hSw; (try dsimp only at hSw); go_simp; (try with_reducible rfl))
      (try simp only [Act.put, List.setIfInBounds_toArray, List.set_cons_zero, List.set_cons_succ])
      refine wpAnyT_all (rs := [6]) (by kernel_rfl) (by simp) (AllT.consL (i := 6) rfl (fun K hK => ?_) AllT.nil)
      go_simp
      refine hK.out _ _ ?_ (fun hH => ?_)
      · (first | (simp [go_sem, ↓IntWalk.iteOmega, *]; done) | go_keep)
      clear hK K
      (try simp only [Act.put, List.setIfInBounds_toArray, List.set_cons_zero, List.set_cons_succ])
      refine wpAnyT_all (rs := [7]) (by kernel_rfl) (by simp) (AllT.lastL rfl (fun K hK => ?_))
      go_simp
      refine hK.out _ _ ?_
      clear hK K
      (try simp only [Act.put, List.setIfInBounds_toArray, List.set_cons_zero, List.set_cons_succ])
      refine wpAnyT_done (by kernel_rfl) ?_ _
      go_wp2_with fail
      go_meet
      exact ⟨_, q2, c2, rfl, Grew.alloc (Hgz.out.trans Hgz2.out) _, out_made (B := w.heap.size + 2) (HO2.out.base (show w.heap.size + 2 ≤ wz.heap.size by omega)) (by have := Hgz2.out.below.size; omega) _ _ _ _ rfl⟩
    · go_simp
      refine hK.out _ _ ?_ (fun hH => ?_)
      · (first | (simp [go_sem, ↓IntWalk.iteOmega, *]; done) | go_keep)
      clear hK K
      (try simp only [Act.put, List.setIfInBounds_toArray, List.set_cons_zero, List.set_cons_succ])
      refine wpAnyT_all (rs := [4]) (by kernel_rfl) (by simp) (AllT.consL (i := 4) rfl (fun K hK => ?_) AllT.nil)
      go_simp
      go_wp2_with (go_at_call 37; apply Calls.mono; (with_reducible exact clone_g pE E.length cE E _ (HEz.out.grew (by (repeat (first | exact Grew.refl _ | refine Grew.over ?_ _ | refine Grew.alloc ?_ _ | refine Grew.drew ?_ | refine Grew.drewN ?_ _)))) he1 rfl); rintro e w2 ⟨hg2, q2, c2, rfl, hO2⟩; have hgz2 : Grew wz w2 := Grew.trans (by (repeat (first | exact Grew.refl _ | refine Grew.over ?_ _ | refine Grew.alloc ?_ _ | refine Grew.drew ?_ | refine Grew.drewN ?_ _))) hg2; have r0 := hgz2.cellEq z0; have r1 := hgz2.cellEq z1; have hs2 := hgz2.below.size; have hz2 : w2.heap[wz.heap.size]? = some (.cells #[.int .i64 0, .slice none 0 0, .slice none 0 0] 25 (0, 0)) := (hg2.below.block wz.heap.size (by simp)).trans (heap_alloc_new wz.drew _); obtain ⟨y0, y1, y2, f0, f1, f2⟩ := zero3 hz2; have Hz2 := Lib.hid hz2; have HO2 := Lib.hid hO2; have Hgz2 := Lib.hid hgz2; clear hO2 hgz2 hg2 hz2)
      refine hK.out _ _ ⟨r0, r1⟩ (fun hH => ?_)
      clear hK K
      (try simp only [Act.put, List.setIfInBounds_toArray, List.set_cons_zero, List.set_cons_succ])
      refine wpAnyT_takeL (i := 5) (v := ?_) rfl (by kernel_rfl) (by kernel_rfl) (by kernel_rfl) (by kernel_rfl) (fun _ _ _ h => h) (Or.inl ⟨by rfl, ?_⟩) (by assumption) ?_
      rotate_left
      · (intro w hSw; (try dsimp only at hSw); go_simp; (try with_reducible rfl))
      (try simp only [Act.put, List.setIfInBounds_toArray, List.set_cons_zero, List.set_cons_succ])
      refine wpAnyT_all (rs := [7]) (by kernel_rfl) (by simp) (AllT.lastL rfl (fun K hK => ?_))
      go_simp
      refine hK.out _ _ ?_
      clear hK K
      (try simp only [Act.put, List.setIfInBounds_toArray, List.set_cons_zero, List.set_cons_succ])
      refine wpAnyT_done (by kernel_rfl) ?_ _
      go_wp2_with fail
      go_meet
      exact ⟨_, q2, c2, rfl, Grew.setCell (Grew.setCell (Grew.setCell (Hgz.out.trans Hgz2.out) (show wB.heap.size ≤ wz.heap.size by omega) _) (show wB.heap.size ≤ wz.heap.size by omega) _) (show wB.heap.size ≤ wz.heap.size by omega) _,
        out_stored (B := w.heap.size + 2) (HO2.out.base (show w.heap.size + 2 ≤ (wz.alloc (Obj.cells #[Value.int IntKind.i64 0, Value.slice none 0 0, Value.slice none 0 0] 25)).heap.size by simp; omega)) Hz2.out (by omega) (fun k r hk => by
          match k, hk with
          | 0, hk =>
            cases hk
            intro h
            have := ((HO2.out.1 0 _ rfl).lt _ h).1
            simp at this
            omega) _ _ _⟩
  case rest =>
    obtain ⟨O, q, c, rfl, hgx, hOx⟩ := hcut
    have Hgx := Lib.hid hgx
    have HOx := Lib.hid hOx
    have q2 := hgx.cellEq Hb2.out
    clear hgx hOx z0 z1
    go_wp2_with fail
    clear q2
    go_loopw [5, 6, 20] (fun v5 v6 i wq => ∃ v : Nat, v ≤ A.length ∧ i = .int .i64 v ∧ Grew wB wq ∧ ∃ (vA : Value) (vals : List Value), vals.length = v ∧
      Owns wq (w.heap.size + 2) (deV O A.length (.slice q E.length c) E vA vals ((A.take v).map List.reverse) (matRows vals ((A.take v).map List.reverse)))) (fun _ _ i _ => A.length - (intOf i).toNat)
    case atStart =>
      refine ⟨0, Nat.zero_le _, rfl, Hgx.out, .slice none 0 0, [], rfl, ?_⟩
      exact (HOx.out.none 38 1).perm ((List.Perm.swap _ _ _).trans (List.Perm.cons _ (List.Perm.swap _ _ _)))
    case round =>
      obtain ⟨v, hv, rfl, hgq, vA, vals, hvl, hOq⟩ := hrel
      obtain ⟨fs, hfs⟩ : ∃ fs, (A.take v).map List.reverse = fs := ⟨_, rfl⟩
      have hfl : fs.length = v := by rw [← hfs]; simp; omega
      rw [hfs] at hOq
      have Hgq := Lib.hid hgq
      have HOq := Lib.hid hOq
      have Hvl : Hid (vals.length = fs.length) := Lib.hid (hvl.trans hfl.symm)
      have Hfs := Lib.hid hfs
      have hszq := hgq.below.size
      obtain ⟨pO, cO, rfl, _, _, _, _, _⟩ := hOq.form (k := 2) rfl
      have Hfl := Lib.hid hfl
      have hfl2 : fs.length ≤ 100 := by omega
      clear hgq hOq hvl hfs hfl
      by_cases hlt : v < A.length
      · obtain ⟨bA, oA, rp, rc, rfl, lA, cA'⟩ := HR.out.hA.rows (by omega)
        obtain ⟨a1, _⟩ := cA' wr (HwB.out.trans Hgq.out) v hlt
        obtain ⟨_, a2⟩ := cA' w (Grew.refl _) v hlt
        obtain ⟨rv, hrv⟩ : ∃ rv, rp v = rv := ⟨_, rfl⟩
        rw [hrv] at a1 a2
        clear hrv
        have Ha2 := Lib.hid a2
        have hrl := HR.out.r1 v hlt
        obtain ⟨ls, hls⟩ : ∃ ls, rowOf A v = ls := ⟨_, rfl⟩
        rw [hls] at a1 Ha2 hrl
        have Hst : Hid ((A.take (v + 1)).map List.reverse = fs ++ [ls.reverse]) := Lib.hid (by
          rw [List.take_succ_eq_append_getElem hlt, List.map_append, Hfs.out, ← hls, rowOf_eq A hlt]
          rfl)
        clear cA' a2 hls
        go_wp2_with (first
          | (go_at_call 38; apply Calls.mono; (with_reducible exact clone_i rv ls.length (rc v) ls wr (Ha2.out.grew (HwB.out.trans Hgq.out)) hrl rfl); rintro e w3 ⟨hg3, p3, c3, rfl, hO3⟩; have HJ := Lib.hid ((Owns.join HOq.out hO3 hg3 (by omega)).perm (List.Perm.cons _ (List.Perm.cons _ (List.Perm.cons _ (List.perm_append_singleton _ _))))); have Hg3 : Hid (Grew wB w3) := Lib.hid (Hgq.out.trans hg3); have hs3 := hg3.below.size; clear hO3 hg3)
          | (go_at_call 39; apply Calls.mono; (with_reducible exact reverse_i p3 ls.length c3 (w.heap.size + 2) 3 ls w3 wB _ HJ.out rfl rfl hrl (by omega) Hg3.out); rintro e w4 ⟨rfl, hg4, hO4⟩; obtain ⟨gO, cO', eO, _, kO, _, _, nO, mO⟩ := hO4.some (k := 0) rfl (by omega); cases eO; have y2 := mO 2 _ rfl; have hs4 := hg4.below.size; have HO4 := Lib.hid hO4; have Hg4 := Lib.hid hg4; clear hO4 hg4 nO mO)
          | (at_builtin; refine wp_append_owns rfl _ _ 23 rfl 38 1 24 (.slice none 0 0) Tryd.underlying23 Tryd.infoInts rfl (by decide) (w.heap.size + 2) _ 2 _ _ _ (HO4.out.grew (by (repeat (first | exact Grew.refl _ | refine Grew.over ?_ _ | refine Grew.alloc ?_ _ | refine Grew.drew ?_ | refine Grew.drewN ?_ _)))) rfl rfl _ 1 1 rfl [.slice p3 ls.length c3] rfl (fun h => by cases h) (one_news _ (by (simp [go_sem, ↓IntWalk.iteOmega]))) (by simp [Value.oneCell']) (by simp only [maxLen]; omega) (by omega) (by first | rfl | omega | (simp <;> omega)) ?_; intro v1 w1 hO1 hg1 hb1 _; have Hg1 := Lib.hid (Grew.grownBy (w0 := wB) (Hg4.out.trans (by (repeat (first | exact Grew.refl _ | refine Grew.over ?_ _ | refine Grew.alloc ?_ _ | refine Grew.drew ?_ | refine Grew.drewN ?_ _)))) hg1 (fun g h => by have := hb1 g h; omega)); obtain ⟨p1, c1, rfl, _, _, _, _, _⟩ := hO1.form (k := 2) rfl; obtain ⟨gP, cP, eP, _, kP, _, _, nP, mP⟩ := hO1.some (k := 0) rfl (by omega); cases eP; have z2 := mP 2 _ rfl; have f2 := nP 2; have HO1 := Lib.hid hO1; have hs1 := hg1.size; simp at hs1; clear hO1 hg1 hb1 nP mP))
        go_roundw
        case rel =>
          refine ⟨v + 1, by omega, by go_num, Hg1.out.setCell (show wB.heap.size ≤ O by omega) _, .slice p1 (fs.length + 1) c1, vals ++ [.slice p3 ls.length c3], by rw [List.length_append, Hvl.out, Hfl.out]; rfl, ?_⟩
          rw [Hst.out]
          have h := HO1.out.set (k := 0) (e := 25) (sz := 1) (n := 3) (g := O) (cap := 3) rfl 2 (.slice p1 (fs.length + 1) c1)
          simp only [deV, List.set_cons_succ, List.set_cons_zero] at h
          unfold deV
          rw [List.length_append, matRows_snoc Hvl.out]
          refine h.perm ?_
          unfold matRow
          rw [List.length_reverse]
          exact List.Perm.cons _ (List.Perm.cons _ (List.Perm.cons _ (List.perm_append_singleton _ _).symm))
        case measure => simp [intOf]; omega
      · have Hall : Hid (fs = A.map List.reverse) := Lib.hid (by rw [← Hfs.out, List.take_of_length_le (by omega)])
        obtain ⟨gO, cO', eO, _, kO, _, _, nO, mO⟩ := HOq.out.some (k := 0) rfl (by omega)
        cases eO
        have y0 := mO 0 _ rfl
        have y1 := mO 1 _ rfl
        have y2 := mO 2 _ rfl
        have hbh : wr.heap[w.heap.size + 1]? = some (.cells #[.int .i64 0, .slice none 0 0, .slice none 0 0] 25) := (Hgq.out.below.block (w.heap.size + 1) (by omega)).trans Hbh.out
        obtain ⟨z0, z1, z2, f0, f1, f2⟩ := zero3 hbh
        have Hbr := Lib.hid hbh
        clear hbh nO mO
        go_wp2_with fail
        (try simp only [Exit.inBlock, Exit.then])
        have Hb : Hid (∀ l ∈ fs, ∀ x ∈ l, -9223372036854775808 ≤ x ∧ x ≤ 9223372036854775807) := Lib.hid (fun l hl x hx => by
          rw [Hall.out] at hl
          obtain ⟨r, hr, rfl⟩ := List.mem_map.1 hl
          rw [List.mem_reverse] at hx
          obtain ⟨i, hi, rfl⟩ := List.getElem_of_mem hr
          rw [← rowOf_eq A hi] at hx
          obtain ⟨h0, h1, _⟩ := mem_row HV.out hi hx
          omega)
        refine ret_rot1 rfl rfl (heap_setCell_same _ _ _ _ _ _ (heap_setCell_same _ _ _ _ _ _ (heap_setCell_same _ _ _ _ _ _ Hbr.out))) rfl ?_
        have hGr : Gr (fun k => k = w.heap.size + 1) wr (((wr.setCell ⟨w.heap.size + 1, 0, none⟩ (.int .i64 A.length)).setCell ⟨w.heap.size + 1, 1, none⟩ (.slice q E.length c)).setCell ⟨w.heap.size + 1, 2, none⟩ (.slice pO fs.length cO)) :=
          (((Gr.refl (fun k => k = w.heap.size + 1) wr).setCell (b := w.heap.size + 1) (by rfl) _).setCell (b := w.heap.size + 1) (by rfl) _).setCell (b := w.heap.size + 1) (by rfl) _
        have hOw := HOq.out.gr hGr (fun k h1 _ e => by omega)
        obtain ⟨q1, k1, ev1, _, hP⟩ := prs_of_owns hOw (k := 1) rfl
        cases ev1
        obtain ⟨q2, k2, ev2, hM⟩ := mat_of_owns (rs := [outRow O A.length (.slice q E.length c) (.slice pO fs.length cO), edN (.slice q E.length c) E]) Hvl.out Hb.out (hOw.perm (List.perm_append_comm (l₁ := [_, _])))
        cases ev2
        rw [Hf.out, ← Hall.out]
        exact ⟨Grew.setCell (Grew.setCell (Grew.setCell (HwB.out.trans Hgq.out) (show w.heap.size ≤ w.heap.size + 1 by omega) _) (show w.heap.size ≤ w.heap.size + 1 by omega) _) (show w.heap.size ≤ w.heap.size + 1 by omega) _, _, _, _, _, rfl, hP, hM⟩

end Go.Proofs.YtcahceceeeaeoaaDoor
