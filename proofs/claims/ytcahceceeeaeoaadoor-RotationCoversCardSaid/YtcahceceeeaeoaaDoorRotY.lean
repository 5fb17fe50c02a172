/- Delete of the reference. -/
import Derived.Test.YtcahceceeeaeoaaDoorRotV
set_option linter.unusedSimpArgs false
set_option linter.unusedVariables false
namespace Go.Proofs.YtcahceceeeaeoaaDoor
open Go.RowKit
attribute [local go_sem ↓] Go.wp_at_zero Go.wp_at_succ

theorem take_erase (E : List (Int × Int)) (m : Nat) {j : Nat} (hj : j < E.length) : (E.take (j + 1)).eraseIdx m = (E.take j).eraseIdx m ++ (if j = m then [] else [pr E j]) := by
  rw [List.take_succ_eq_append_getElem hj, ← pr_eq E hj]
  have hl : (E.take j).length = j := by rw [List.length_take]; omega
  by_cases h : j = m
  · subst h
    rw [if_pos rfl, List.append_nil, List.eraseIdx_append_of_length_le (by omega), hl, Nat.sub_self, List.eraseIdx_of_length_le (l := E.take j) (by omega)]
    simp
  · rw [if_neg h]
    rcases Nat.lt_or_ge m j with hlt | hge
    · rw [List.eraseIdx_append_of_lt_length (by omega)]
    · rw [List.eraseIdx_append_of_length_le (by omega), hl, List.eraseIdx_of_length_le (l := E.take j) (by omega), List.eraseIdx_of_length_le (by simp; omega)]
def deV (O : Nat) (N : Int) (vE : Value) (E : List (Int × Int)) (vA : Value) (vals : List Value) (fs : List (List Int)) (rs : List Row) : List Row :=
  outRow O N vE vA :: ⟨vE, 41, 2, E.length, prVs E⟩ :: ⟨vA, 38, 1, fs.length, vals⟩ :: rs
def edN (v : Value) (E : List (Int × Int)) : Row := ⟨v, 41, 2, E.length, prVs E⟩

set_option maxRecDepth 8000 in
set_option maxHeartbeats 16000000 in
theorem delete_r (N : Int) (pE pA : Option Addr) (nE nA cE cA : Nat) (E : List (Int × Int)) (A : List (List Int)) (e : Int) (w : World) (hR : RotAt w pE pA E A) (hnE : E.length = nE) (hnA : A.length = nA) :
    Calls Tryd.prog 22 #[.agg #[.int .i64 N, .slice pE nE cE, .slice pA nA cA], .int .i64 e] w (RotPost (delF N E A e) w) := by
  subst hnE hnA
  have he1 := hR.e1
  have ha1 := hR.a1
  have HR := Lib.hid hR
  cases hv : vRotB N E A
  case false =>
    have Hf : Hid (delF N E A e = ⟨13, 0, [], []⟩) := Lib.hid (by unfold delF; simp [hv])
    have Hv := Lib.hid hv
    clear hv hR
    go_enter Tryd.func22, Tryd.ntmps22
    go_wp2_with (go_at_call 11; apply Calls.mono; (with_reducible exact valid_re Hv.out (HR.out.grew (by (repeat (first | exact Grew.refl _ | refine Grew.over ?_ _ | refine Grew.alloc ?_ _ | refine Grew.drew ?_ | refine Grew.drewN ?_ _)))) rfl rfl); rintro e w' ⟨rfl, x, rfl⟩)
    (try simp only [Exit.inBlock, Exit.then])
    refine ret_rot rfl rfl (by rw [heap_over, if_pos (by simp)]; exact heap_alloc2_new w _ _) rfl rfl ?_
    rw [Hf.out]
    exact ⟨by (repeat (first | exact Grew.refl _ | refine Grew.over ?_ _ | refine Grew.alloc ?_ _ | refine Grew.drew ?_ | refine Grew.drewN ?_ _)), none, none, 0, 0, rfl, ⟨by simp, 0, 0, fun h => by simp at h, fun i hi => by simp at hi⟩, Mat.nil _ _⟩
  case true =>
  have Hv := Lib.hid hv
  have hV := vRotB_iff.1 hv
  have HV := Lib.hid hV
  by_cases hneg : e < 0
  · have Hf : Hid (delF N E A e = ⟨3, 0, [], []⟩) := Lib.hid (by unfold delF; rw [if_pos hv, if_neg (by omega)])
    clear hv hR hV
    go_enter Tryd.func22, Tryd.ntmps22
    go_wp2_with (go_at_call 11; apply Calls.mono; (with_reducible exact valid_re Hv.out (HR.out.grew (by (repeat (first | exact Grew.refl _ | refine Grew.over ?_ _ | refine Grew.alloc ?_ _ | refine Grew.drew ?_ | refine Grew.drewN ?_ _)))) rfl rfl); rintro e w' ⟨rfl, x, rfl⟩)
    (try simp only [Exit.inBlock, Exit.then])
    refine ret_rot rfl rfl (by rw [heap_over, if_pos (by simp)]; exact heap_alloc2_new w _ _) rfl rfl ?_
    rw [Hf.out]
    exact ⟨by (repeat (first | exact Grew.refl _ | refine Grew.over ?_ _ | refine Grew.alloc ?_ _ | refine Grew.drew ?_ | refine Grew.drewN ?_ _)), none, none, 0, 0, rfl, ⟨by simp, 0, 0, fun h => by simp at h, fun i hi => by simp at hi⟩, Mat.nil _ _⟩
  obtain ⟨m, rfl⟩ := Int.eq_ofNat_of_zero_le (by omega : 0 ≤ e)
  clear hneg
  by_cases hme : E.length ≤ m
  · have Hf : Hid (delF N E A m = ⟨3, 0, [], []⟩) := Lib.hid (by unfold delF; rw [if_pos hv, if_neg (by omega)])
    clear hv hR hV
    go_enter Tryd.func22, Tryd.ntmps22
    go_wp2_with (go_at_call 11; apply Calls.mono; (with_reducible exact valid_re Hv.out (HR.out.grew (by (repeat (first | exact Grew.refl _ | refine Grew.over ?_ _ | refine Grew.alloc ?_ _ | refine Grew.drew ?_ | refine Grew.drewN ?_ _)))) rfl rfl); rintro e w' ⟨rfl, x, rfl⟩)
    (try simp only [Exit.inBlock, Exit.then])
    refine ret_rot rfl rfl (by rw [heap_over, if_pos (by simp)]; exact heap_alloc2_new w _ _) rfl rfl ?_
    rw [Hf.out]
    exact ⟨by (repeat (first | exact Grew.refl _ | refine Grew.over ?_ _ | refine Grew.alloc ?_ _ | refine Grew.drew ?_ | refine Grew.drewN ?_ _)), none, none, 0, 0, rfl, ⟨by simp, 0, 0, fun h => by simp at h, fun i hi => by simp at hi⟩, Mat.nil _ _⟩
  have hml : m < E.length := by omega
  have hN : N = A.length := hV.al.symm
  subst hN
  have Hf : Hid (delF A.length E A m = ⟨0, A.length, E.eraseIdx m, A.map (delRow m)⟩) := Lib.hid (by unfold delF; rw [if_pos hv, if_pos (by omega)]; rfl)
  have HE := Lib.hid hR.hE
  clear hv hR hV hme
  go_enter Tryd.func22, Tryd.ntmps22
  go_upto_region 5 with (go_at_call 11; apply Calls.mono; (with_reducible exact valid_re Hv.out (HR.out.grew (by (repeat (first | exact Grew.refl _ | refine Grew.over ?_ _ | refine Grew.alloc ?_ _ | refine Grew.drew ?_ | refine Grew.drewN ?_ _)))) rfl rfl); rintro e w' ⟨rfl, x, rfl⟩)
  obtain ⟨wB, hwB⟩ : ∃ wB, (w.alloc (.cells #[.int .i64 A.length, .slice pE E.length cE, .slice pA A.length cA] 25)).alloc (.cells #[.int .i64 0, .slice none 0 0, .slice none 0 0] 25) = wB := ⟨_, rfl⟩
  obtain ⟨wz, hwz⟩ : ∃ wz, over ((w.alloc (.cells #[.int .i64 A.length, .slice pE E.length cE, .slice pA A.length cA] 25)).alloc (.cells #[.int .i64 0, .slice none 0 0, .slice none 0 0] 25)) x = wz := ⟨_, rfl⟩
  have HwB : Hid (Grew w wB) := Lib.hid (by rw [← hwB]; (repeat (first | exact Grew.refl _ | refine Grew.over ?_ _ | refine Grew.alloc ?_ _ | refine Grew.drew ?_ | refine Grew.drewN ?_ _)))
  have hsB : wB.heap.size = w.heap.size + 2 := by rw [← hwB]; simp
  have b0 : wB.cell? ⟨w.heap.size, 0, none⟩ = some (.int .i64 A.length) := by rw [← hwB]; simp [go_sem]
  have b1 : wB.cell? ⟨w.heap.size, 1, none⟩ = some (.slice pE E.length cE) := by rw [← hwB]; simp [go_sem]
  have b2 : wB.cell? ⟨w.heap.size, 2, none⟩ = some (.slice pA A.length cA) := by rw [← hwB]; simp [go_sem]
  have bh : wB.heap[w.heap.size + 1]? = some (.cells #[.int .i64 0, .slice none 0 0, .slice none 0 0] 25) := by rw [← hwB]; exact heap_alloc2_new w _ _
  have Hgz : Hid (Grew wB wz) := Lib.hid (by rw [← hwz, ← hwB]; (repeat (first | exact Grew.refl _ | refine Grew.over ?_ _ | refine Grew.alloc ?_ _ | refine Grew.drew ?_ | refine Grew.drewN ?_ _)))
  rw [hwz]
  have z0 := Hgz.out.cellEq b0
  have z1 := Hgz.out.cellEq b1
  have Hb0 := Lib.hid b0
  have Hb1 := Lib.hid b1
  have Hb2 := Lib.hid b2
  have Hbh := Lib.hid bh
  have hsz := Hgz.out.below.size
  clear hwB hwz b0 b1 b2 bh
  go_wp2_with fail
  obtain ⟨O, hO⟩ : ∃ O, wz.heap.size = O := ⟨_, rfl⟩
  have HO : Hid (O = wz.heap.size) := Lib.hid hO.symm
  rw [hO] at hsz
  rw [hO]
  clear z0 z1 hO
  have hd1 : decide (E.length ≤ m) = false := decide_eq_false (by omega)
  have hd2 : decide ((m : Int) < 0) = false := decide_eq_false (by omega)
  simp only [hd1, hd2, Bool.or_false]
  clear hd1 hd2
  go_loopw [7] (fun i wq => ∃ j : Nat, j ≤ E.length ∧ i = .int .i64 j ∧ Grew wB wq ∧ ∃ vE : Value, Owns wq (w.heap.size + 2) [outRow O A.length vE (.slice none 0 0), edN vE ((E.take j).eraseIdx m)]) (fun i _ => E.length - (intOf i).toNat)
  case atStart =>
    refine ⟨0, Nat.zero_le _, rfl, Hgz.out.trans (by (repeat (first | exact Grew.refl _ | refine Grew.over ?_ _ | refine Grew.alloc ?_ _ | refine Grew.drew ?_ | refine Grew.drewN ?_ _))), .slice none 0 0, ?_⟩
    exact out_made (((Owns.nil wz (w.heap.size + 2)).none 41 2)) (by have := HO.out; omega) _ _ _ _ HO.out
  case round =>
    obtain ⟨j, hj, rfl, hgq, vE, hOq⟩ := hrel
    have Hgq := Lib.hid hgq
    have HOq := Lib.hid hOq
    have q0 := hgq.cellEq Hb0.out
    have q1 := hgq.cellEq Hb1.out
    have hszq := hgq.below.size
    obtain ⟨gO, cO', eO, _, kO, _, _, nO, mO⟩ := hOq.some (k := 0) rfl (by omega)
    cases eO
    have o1 := mO 1 _ rfl
    have hlj : ((E.take j).eraseIdx m).length ≤ 100 := by
      have := List.length_eraseIdx_le (E.take j) m
      rw [List.length_take] at this
      omega
    clear hgq hOq nO mO
    by_cases hlt : j < E.length
    · obtain ⟨bE, oE, rfl, lE, cE'⟩ := HE.out.cells (by omega)
      obtain ⟨c1, c2⟩ := cE' wr (HwB.out.trans Hgq.out) j hlt
      have CEq := Lib.hid cE'
      clear cE'
      by_cases hjm : j = m
      · have Hst : Hid ((E.take (j + 1)).eraseIdx m = (E.take j).eraseIdx m) := Lib.hid (by rw [take_erase E m hlt, if_pos hjm, List.append_nil])
        have hjm' : ((j : Int) != (m : Int)) = false := by simp [hjm]
        clear hjm
        go_wp2_with fail
        go_roundw
        case rel =>
          refine ⟨j + 1, by omega, by go_num, Hgq.out.trans (by (repeat (first | exact Grew.refl _ | refine Grew.over ?_ _ | refine Grew.alloc ?_ _ | refine Grew.drew ?_ | refine Grew.drewN ?_ _))), vE, ?_⟩
          rw [Hst.out]
          exact HOq.out.grew (by (repeat (first | exact Grew.refl _ | refine Grew.over ?_ _ | refine Grew.alloc ?_ _ | refine Grew.drew ?_ | refine Grew.drewN ?_ _)))
        case measure => simp [intOf]; omega
      · have Hst : Hid ((E.take (j + 1)).eraseIdx m = (E.take j).eraseIdx m ++ [pr E j]) := Lib.hid (by rw [take_erase E m hlt, if_neg hjm])
        have hjm' : ((j : Int) != (m : Int)) = true := by rw [bne_iff_ne]; omega
        obtain ⟨le, hle⟩ : ∃ le, (E.take j).eraseIdx m = le := ⟨_, rfl⟩
        rw [hle] at HOq Hst hlj
        obtain ⟨pV, cV, rfl⟩ : ∃ pV cV, vE = .slice pV le.length cV := by
          obtain ⟨q, k, h, _⟩ := prs_of_owns HOq.out (k := 1) rfl
          exact ⟨q, k, h⟩
        clear hjm hle
        go_upto_region 10 with fail
        refine wp_region_T (s := 10) (S := fun w' => w'.cell? ⟨w.heap.size, 1, none⟩ = some (.slice (some ⟨bE, oE, none⟩) E.length cE) ∧ w'.cell? ⟨bE, oE + j * 2, none⟩ = some (.int .i64 (pr E j).1) ∧ w'.cell? ⟨bE, oE + j * 2 + 1, none⟩ = some (.int .i64 (pr E j).2) ∧ w'.cell? ⟨O, 1, none⟩ = some (.slice pV le.length cV)) (by kernel_rfl) ⟨q1, c1, c2, o1⟩ (fun hH => ?_)
        refine wpAnyT_takeL (i := 0) (v := ?_) rfl (by kernel_rfl) (by kernel_rfl) (by kernel_rfl) (by kernel_rfl) (fun _ _ _ h => h) (Or.inl ⟨by rfl, ?_⟩) (by assumption) ?_
        rotate_left
        · (intro w hSw; (try dsimp only at hSw); go_simp; (try with_reducible rfl))
        (try simp only [Act.put, List.setIfInBounds_toArray, List.set_cons_zero, List.set_cons_succ])
        refine wpAnyT_takeL (i := 1) (v := ?_) rfl (by kernel_rfl) (by kernel_rfl) (by kernel_rfl) (by kernel_rfl) (fun _ _ _ h => h) (Or.inl ⟨by rfl, ?_⟩) (by assumption) ?_
        rotate_left
        · (intro w hSw; (try dsimp only at hSw); go_simp; (try with_reducible rfl))
        (try simp only [Act.put, List.setIfInBounds_toArray, List.set_cons_zero, List.set_cons_succ])
        refine wpAnyT_takeL (i := 2) (v := ?_) rfl (by kernel_rfl) (by kernel_rfl) (by kernel_rfl) (by kernel_rfl) (fun _ _ _ h => h) (Or.inl ⟨by rfl, ?_⟩) (by assumption) ?_
        rotate_left
        · (intro w hSw; (try dsimp only at hSw); go_simp; (try with_reducible rfl))
        (try simp only [Act.put, List.setIfInBounds_toArray, List.set_cons_zero, List.set_cons_succ])
        refine wpAnyT_takeL (i := 3) (v := ?_) rfl (by kernel_rfl) (by kernel_rfl) (by kernel_rfl) (by kernel_rfl) (fun _ _ _ h => h) (Or.inl ⟨by rfl, ?_⟩) (by assumption) ?_
        rotate_left
        · (intro w hSw; (try dsimp only at hSw); go_simp; (try with_reducible rfl))
        (try simp only [Act.put, List.setIfInBounds_toArray, List.set_cons_zero, List.set_cons_succ])
        refine wpAnyT_takeL (i := 4) (v := ?_) rfl (by kernel_rfl) (by kernel_rfl) (by kernel_rfl) (by kernel_rfl) (fun _ _ _ h => h) (Or.inl ⟨by rfl, ?_⟩) (by assumption) ?_
        rotate_left
        · (intro w hSw; (try dsimp only at hSw); go_simp; (try with_reducible rfl))
        (try simp only [Act.put, List.setIfInBounds_toArray, List.set_cons_zero, List.set_cons_succ])
        refine wpAnyT_takeL (i := 5) (v := ?_) rfl (by kernel_rfl) (by kernel_rfl) (by kernel_rfl) (by kernel_rfl) (fun _ _ _ h => h) (Or.inl ⟨by rfl, ?_⟩) (by assumption) ?_
        rotate_left
        · (intro w hSw; (try dsimp only at hSw); go_simp; (try with_reducible rfl))
        (try simp only [Act.put, List.setIfInBounds_toArray, List.set_cons_zero, List.set_cons_succ])
        refine wpAnyT_takeL (i := 6) (v := ?_) rfl (by kernel_rfl) (by kernel_rfl) (by kernel_rfl) (by kernel_rfl) (fun _ _ _ h => h) (Or.inl ⟨by rfl, ?_⟩) (by assumption) ?_
        rotate_left
        · (intro w hSw; (try dsimp only at hSw); go_simp; (try with_reducible rfl))
        (try simp only [Act.put, List.setIfInBounds_toArray, List.set_cons_zero, List.set_cons_succ])
        refine wpAnyT_all (rs := [7]) (by kernel_rfl) (by simp) (AllT.consL (i := 7) rfl (fun K hK => ?_) AllT.nil)
        go_simp
        refine hK.out _ _ ?_ (fun hH => ?_)
        · (first | (simp [go_sem, ↓IntWalk.iteOmega, *]; done) | go_keep)
        clear hK K
        (try simp only [Act.put, List.setIfInBounds_toArray, List.set_cons_zero, List.set_cons_succ])
        refine wpAnyT_all (rs := [8]) (by kernel_rfl) (by simp) (AllT.consL (i := 8) rfl (fun K hK => ?_) AllT.nil)
        refine step_append_owns rfl _ _ 22 (by rfl) 41 2 16 (.agg #[.int .i64 0, .int .i64 0]) Tryd.underlying22 Tryd.infoArc rfl (by decide) (w.heap.size + 2) _ 1 _ _ _ (HOq.out.grew (by (repeat (first | exact Grew.refl _ | refine Grew.over ?_ _ | refine Grew.alloc ?_ _ | refine Grew.drew ?_ | refine Grew.drewN ?_ _)))) rfl (by rfl) _ 1 1 (by rfl) [.int .i64 (pr E j).1, .int .i64 (pr E j).2] rfl (fun h => by cases h) (two_news (by (simp [go_sem, ↓IntWalk.iteOmega])) (by (simp [go_sem, ↓IntWalk.iteOmega]))) (by simp [Value.oneCell']) (by simp only [maxLen]; omega) (by omega) (by first | rfl | omega | (simp <;> omega)) ?_
        intro v1 w1 hO1 hg1 hb1 hz1
        clear hz1
        have hG1 : Grew wB w1 := Grew.grownBy (Hgq.out.trans (by (repeat (first | exact Grew.refl _ | refine Grew.over ?_ _ | refine Grew.alloc ?_ _ | refine Grew.drew ?_ | refine Grew.drewN ?_ _)))) hg1 (fun g h => by have := hb1 g h; omega)
        obtain ⟨pV1, cV1, rfl⟩ : ∃ pV1 cV1, v1 = .slice pV1 (le.length + 1) cV1 := by
          rcases (hO1.get (k := 1) rfl).2 with ⟨rfl, h0⟩ | ⟨g, cap, rfl, _⟩
          · omega
          · exact ⟨_, _, rfl⟩
        obtain ⟨gP, cP, eP, _, kP, _, _, nP, mP⟩ := hO1.some (k := 0) rfl (by omega)
        cases eP
        have r1 := hG1.cellEq Hb1.out
        obtain ⟨r2, r3⟩ := CEq.out w1 (HwB.out.trans hG1) j hlt
        have r4 := mP 1 _ rfl
        have r5 := nP 1
        have HO1 := Lib.hid hO1
        have HG1 := Lib.hid hG1
        refine hK.out _ _ ⟨r1, r2, r3, r4⟩ (fun hH => ?_)
        clear hK K hO1 hg1 hb1 hG1 nP mP
        (try simp only [Act.put, List.setIfInBounds_toArray, List.set_cons_zero, List.set_cons_succ])
        refine wpAnyT_takeL (i := 9) (v := ?_) rfl (by kernel_rfl) (by kernel_rfl) (by kernel_rfl) (by kernel_rfl) (fun _ _ _ h => h) (Or.inl ⟨by rfl, ?_⟩) (by assumption) ?_
        rotate_left
        · (intro w hSw; (try dsimp only at hSw); go_simp; (try with_reducible rfl))
        (try simp only [Act.put, List.setIfInBounds_toArray, List.set_cons_zero, List.set_cons_succ])
        refine wpAnyT_all (rs := [10]) (by kernel_rfl) (by simp) (AllT.lastL rfl (fun K hK => ?_))
        go_simp
        refine hK.out _ _ ?_
        clear hK K
        (try simp only [Act.put, List.setIfInBounds_toArray, List.set_cons_zero, List.set_cons_succ])
        refine wpAnyT_done (by kernel_rfl) ?_ _
        go_wp2_with fail
        go_roundw
        case rel =>
          refine ⟨j + 1, by omega, by go_num, HG1.out.setCell (show wB.heap.size ≤ O by omega) _, .slice pV1 (le.length + 1) cV1, ?_⟩
          have h := HO1.out.set (k := 0) (e := 25) (sz := 1) (n := 3) (g := O) (cap := 3) rfl 1 (.slice pV1 (le.length + 1) cV1)
          rw [Hst.out]
          unfold edN
          rw [List.length_append, prVs_app]
          exact h
        case measure => simp [intOf]; omega
    · have Hall : Hid ((E.take j).eraseIdx m = E.eraseIdx m) := Lib.hid (by rw [List.take_of_length_le (by omega)])
      have hOx := HOq.out
      rw [Hall.out] at hOx
      obtain ⟨pV, cV, rfl⟩ : ∃ pV cV, vE = .slice pV (E.eraseIdx m).length cV := by
        obtain ⟨q, k, h, _⟩ := prs_of_owns hOx (k := 1) rfl
        exact ⟨q, k, h⟩
      have HOx := Lib.hid hOx
      clear hOx HOq o1 hlj
      go_wp2_with fail
      clear q0 q1
      go_loopw [8] (fun i wq => ∃ v : Nat, v ≤ A.length ∧ i = .int .i64 v ∧ Grew wB wq ∧ ∃ (vA : Value) (vals : List Value), vals.length = v ∧
        Owns wq (w.heap.size + 2) (deV O A.length (.slice pV (E.eraseIdx m).length cV) (E.eraseIdx m) vA vals ((A.take v).map (delRow m)) (matRows vals ((A.take v).map (delRow m))))) (fun i _ => A.length - (intOf i).toNat)
      case atStart =>
        refine ⟨0, Nat.zero_le _, rfl, Hgq.out, .slice none 0 0, [], rfl, ?_⟩
        exact (HOx.out.none 38 1).perm ((List.Perm.swap _ _ _).trans (List.Perm.cons _ (List.Perm.swap _ _ _)))
      case round =>
        obtain ⟨v, hv, rfl, hgq, vA, vals, hvl, hOq⟩ := hrel
        obtain ⟨fs, hfs⟩ : ∃ fs, (A.take v).map (delRow m) = fs := ⟨_, rfl⟩
        have hfl : fs.length = v := by rw [← hfs]; simp; omega
        rw [hfs] at hOq
        have Hgq := Lib.hid hgq
        have HOq := Lib.hid hOq
        have Hvl : Hid (vals.length = fs.length) := Lib.hid (hvl.trans hfl.symm)
        have Hfs := Lib.hid hfs
        have hszq := hgq.below.size
        have q0 := hgq.cellEq Hb0.out
        obtain ⟨pO, cO, rfl, _, _, _, _, _⟩ := hOq.form (k := 2) rfl
        have Hfl := Lib.hid hfl
        have hfl2 : fs.length ≤ 100 := by omega
        clear hgq hOq hvl hfs hfl
        by_cases hlt : v < A.length
        · obtain ⟨bA, oA, rp, rc, rfl, lA, cA'⟩ := HR.out.hA.rows (by omega)
          have CA := Lib.hid (fun (W1 : World) (hg : Grew w W1) => (cA' W1 hg v hlt).1)
          obtain ⟨_, a2⟩ := cA' w (Grew.refl _) v hlt
          obtain ⟨rv, hrv⟩ : ∃ rv, rp v = rv := ⟨_, rfl⟩
          rw [hrv] at CA a2
          clear hrv
          have Ha2 := Lib.hid a2
          have hrl := HR.out.r1 v hlt
          clear cA' a2
          go_wp2_with fail
          clear q0
          go_loopw [9, 10] (fun v9 i wk => ∃ k : Nat, k ≤ (rowOf A v).length ∧ i = .int .i64 k ∧ Grew wB wk ∧ wr.heap.size ≤ wk.heap.size ∧
            Owns wk (w.heap.size + 2) (deV O A.length (.slice pV (E.eraseIdx m).length cV) (E.eraseIdx m) (.slice pO fs.length cO) vals fs (⟨v9, 3, 1, (delRow m ((rowOf A v).take k)).length, intVs (delRow m ((rowOf A v).take k))⟩ :: matRows vals fs))) (fun _ i _ => (rowOf A v).length - (intOf i).toNat)
          case atStart =>
            refine ⟨0, Nat.zero_le _, rfl, Hgq.out.trans (by (repeat (first | exact Grew.refl _ | refine Grew.over ?_ _ | refine Grew.alloc ?_ _ | refine Grew.drew ?_ | refine Grew.drewN ?_ _))), (by first | rfl | omega | (simp <;> omega)), ?_⟩
            exact (HOq.out.made (by omega) #[] 3 1 0 wr.heap.size rfl (by decide) rfl).perm (List.perm_middle (l₁ := [_, _, _])).symm
          case round =>
            obtain ⟨k, hk, rfl, hgk, hsk, hOk⟩ := hrel
            have Hgk := Lib.hid hgk
            have HOk := Lib.hid hOk
            have hszk := hgk.below.size
            have q2 := hgk.cellEq Hb2.out
            have a1 := CA.out wr (HwB.out.trans hgk)
            have hdl : (delRow m ((rowOf A v).take k)).length ≤ 100 := by
              have : ∀ l : List Int, (delRow m l).length ≤ l.length := fun l => by
                induction l with
                | nil => exact Nat.le_refl _
                | cons x l ih =>
                  rw [delRow_cons, List.length_append, List.length_cons]
                  have : (delOne m x).length ≤ 1 := by unfold delOne; split <;> (try split) <;> simp
                  omega
              have := this ((rowOf A v).take k)
              rw [List.length_take] at this
              omega
            clear hgk hOk
            by_cases hlk : k < (rowOf A v).length
            · obtain ⟨bR, oR, rfl, lR, cR⟩ := Ha2.out.cells (by omega)
              have e1 := cR wr (HwB.out.trans Hgk.out) k hlk
              obtain ⟨d0, d1, _⟩ := dart_of HV.out hlt hlk
              obtain ⟨d, hd⟩ : ∃ d : Nat, ge (rowOf A v) k = d := ⟨(ge (rowOf A v) k).toNat, by omega⟩
              rw [hd] at e1 d1
              have Hst : Hid (delRow m ((rowOf A v).take (k + 1)) = delRow m ((rowOf A v).take k) ++ delOne m d) := Lib.hid (by
                rw [List.take_succ_eq_append_getElem hlk, delRow_app, ← ge_eq _ hlk, hd]
                simp [delRow])
              have hd1 : d < 2 * E.length := by omega
              clear cR d0 d1 hd
              by_cases hgt : m < d / 2
              · have Hone : Hid (delOne m d = [(d : Int) - 2]) := Lib.hid (by unfold delOne; rw [if_pos (by omega)])
                have hgt2 : 2 * m + 1 < d := by omega
                go_wp2_with (at_builtin; refine wp_append_owns rfl _ _ 38 rfl 3 1 8 (.int .i64 0) Tryd.underlying38 Tryd.infoInt rfl (by decide) (w.heap.size + 2) _ 3 _ _ _ (HOk.out.grew (by (repeat (first | exact Grew.refl _ | refine Grew.over ?_ _ | refine Grew.alloc ?_ _ | refine Grew.drew ?_ | refine Grew.drewN ?_ _)))) rfl rfl _ 1 1 rfl [.int .i64 ((d : Int) - 2)] rfl (fun h => by cases h) (one_news _ (by (simp [go_sem, ↓IntWalk.iteOmega]))) (by simp [Value.oneCell']) (by simp only [maxLen]; omega) (by omega) (by first | rfl | omega | (simp <;> omega)) ?_; intro v1 w1 hO1 hg1 hb1 _; have Hg1 := Lib.hid (Grew.grownBy (w0 := wB) (Hgk.out.trans (by (repeat (first | exact Grew.refl _ | refine Grew.over ?_ _ | refine Grew.alloc ?_ _ | refine Grew.drew ?_ | refine Grew.drewN ?_ _)))) hg1 (fun g h => by have := hb1 g h; omega)); have HO1 := Lib.hid hO1; have hs1 := hg1.size; simp at hs1; clear hO1 hg1 hb1)
                go_roundw
                case rel =>
                  refine ⟨k + 1, by omega, by go_num, Hg1.out, by omega, ?_⟩
                  have h := HO1.out
                  rw [Hst.out, Hone.out, List.length_append, intVs_app']
                  simp only [deV, List.set_cons_succ, List.set_cons_zero] at h ⊢
                  exact h
                case measure => simp [intOf]; omega
              · have hgt2 : d ≤ 2 * m + 1 := by omega
                by_cases hlt2 : d / 2 < m
                · have Hone : Hid (delOne m d = [(d : Int)]) := Lib.hid (by unfold delOne; rw [if_neg (by omega), if_pos (by omega)])
                  have hlt3 : d < 2 * m := by omega
                  go_wp2_with (at_builtin; refine wp_append_owns rfl _ _ 38 rfl 3 1 8 (.int .i64 0) Tryd.underlying38 Tryd.infoInt rfl (by decide) (w.heap.size + 2) _ 3 _ _ _ (HOk.out.grew (by (repeat (first | exact Grew.refl _ | refine Grew.over ?_ _ | refine Grew.alloc ?_ _ | refine Grew.drew ?_ | refine Grew.drewN ?_ _)))) rfl rfl _ 1 1 rfl [.int .i64 (d : Int)] rfl (fun h => by cases h) (one_news _ (by (simp [go_sem, ↓IntWalk.iteOmega]))) (by simp [Value.oneCell']) (by simp only [maxLen]; omega) (by omega) (by first | rfl | omega | (simp <;> omega)) ?_; intro v1 w1 hO1 hg1 hb1 _; have Hg1 := Lib.hid (Grew.grownBy (w0 := wB) (Hgk.out.trans (by (repeat (first | exact Grew.refl _ | refine Grew.over ?_ _ | refine Grew.alloc ?_ _ | refine Grew.drew ?_ | refine Grew.drewN ?_ _)))) hg1 (fun g h => by have := hb1 g h; omega)); have HO1 := Lib.hid hO1; have hs1 := hg1.size; simp at hs1; clear hO1 hg1 hb1)
                  go_roundw
                  case rel =>
                    refine ⟨k + 1, by omega, by go_num, Hg1.out, by omega, ?_⟩
                    have h := HO1.out
                    rw [Hst.out, Hone.out, List.length_append, intVs_app']
                    simp only [deV, List.set_cons_succ, List.set_cons_zero] at h ⊢
                    exact h
                  case measure => simp [intOf]; omega
                · have Hone : Hid (delOne m d = []) := Lib.hid (by unfold delOne; rw [if_neg (by omega), if_neg (by omega)])
                  have hlt3 : 2 * m ≤ d := by omega
                  go_wp2_with fail
                  go_roundw
                  case rel =>
                    refine ⟨k + 1, by omega, by go_num, Hgk.out.trans (by (repeat (first | exact Grew.refl _ | refine Grew.over ?_ _ | refine Grew.alloc ?_ _ | refine Grew.drew ?_ | refine Grew.drewN ?_ _))), by omega, ?_⟩
                    rw [Hst.out, Hone.out, List.append_nil]
                    exact HOk.out.grew (by (repeat (first | exact Grew.refl _ | refine Grew.over ?_ _ | refine Grew.alloc ?_ _ | refine Grew.drew ?_ | refine Grew.drewN ?_ _)))
                  case measure => simp [intOf]; omega
            · have hke : k = (rowOf A v).length := by omega
              obtain ⟨ls, hls⟩ : ∃ ls, delRow m ((rowOf A v).take k) = ls := ⟨_, rfl⟩
              have Hls : Hid (delRow m (rowOf A v) = ls) := Lib.hid (by rw [← hls, hke, List.take_length])
              rw [hls] at HOk hdl
              clear hls
              obtain ⟨p9, c9, rfl, _, _, _, _, _⟩ := HOk.out.form (k := 3) rfl
              obtain ⟨gO, cO', eO, _, kO, _, _, nO, mO⟩ := HOk.out.some (k := 0) rfl (by omega)
              cases eO
              have y2 := mO 2 _ rfl
              have Hst : Hid ((A.take (v + 1)).map (delRow m) = fs ++ [ls]) := Lib.hid (by
                rw [List.take_succ_eq_append_getElem hlt, List.map_append, Hfs.out, ← Hls.out, rowOf_eq A hlt]
                rfl)
              clear nO mO
              go_wp2_with (at_builtin; refine wp_append_owns rfl _ _ 23 rfl 38 1 24 (.slice none 0 0) Tryd.underlying23 Tryd.infoInts rfl (by decide) (w.heap.size + 2) _ 2 _ _ _ (HOk.out.grew (by (repeat (first | exact Grew.refl _ | refine Grew.over ?_ _ | refine Grew.alloc ?_ _ | refine Grew.drew ?_ | refine Grew.drewN ?_ _)))) rfl rfl _ 1 1 rfl [.slice p9 ls.length c9] rfl (fun h => by cases h) (one_news _ (by (simp [go_sem, ↓IntWalk.iteOmega]))) (by simp [Value.oneCell']) (by simp only [maxLen]; omega) (by omega) (by first | rfl | omega | (simp <;> omega)) ?_; intro v1 w1 hO1 hg1 hb1 _; have Hg1 := Lib.hid (Grew.grownBy (w0 := wB) (Hgk.out.trans (by (repeat (first | exact Grew.refl _ | refine Grew.over ?_ _ | refine Grew.alloc ?_ _ | refine Grew.drew ?_ | refine Grew.drewN ?_ _)))) hg1 (fun g h => by have := hb1 g h; omega)); obtain ⟨p1, c1, rfl, _, _, _, _, _⟩ := hO1.form (k := 2) rfl; obtain ⟨gP, cP, eP, _, kP, _, _, nP, mP⟩ := hO1.some (k := 0) rfl (by omega); cases eP; have z2 := mP 2 _ rfl; have f2 := nP 2; have HO1 := Lib.hid hO1; have hs1 := hg1.size; simp at hs1; clear hO1 hg1 hb1 nP mP)
              go_roundw
              case rel =>
                refine ⟨v + 1, by omega, by go_num, Hg1.out.setCell (show wB.heap.size ≤ O by omega) _, .slice p1 (fs.length + 1) c1, vals ++ [.slice p9 ls.length c9], by rw [List.length_append, Hvl.out, Hfl.out]; rfl, ?_⟩
                rw [Hst.out]
                have h := HO1.out.set (k := 0) (e := 25) (sz := 1) (n := 3) (g := O) (cap := 3) rfl 2 (.slice p1 (fs.length + 1) c1)
                simp only [deV, List.set_cons_succ, List.set_cons_zero] at h
                unfold deV
                rw [List.length_append, matRows_snoc Hvl.out]
                refine h.perm ?_
                exact List.Perm.cons _ (List.Perm.cons _ (List.Perm.cons _ (List.perm_append_singleton _ _).symm))
              case measure => simp [intOf]; omega
        · have Hall : Hid (fs = A.map (delRow m)) := Lib.hid (by rw [← Hfs.out, List.take_of_length_le (by omega)])
          obtain ⟨gO, cO', eO, _, kO, _, _, nO, mO⟩ := HOq.out.some (k := 0) rfl (by omega)
          cases eO
          have y0 := mO 0 _ rfl
          have y1 := mO 1 _ rfl
          have y2 := mO 2 _ rfl
          have hbh : wr.heap[w.heap.size + 1]? = some (.cells #[.int .i64 0, .slice none 0 0, .slice none 0 0] 25) := (Hgq.out.below.block (w.heap.size + 1) (by omega)).trans Hbh.out
          obtain ⟨z0, z1, z2, f0, f1, f2⟩ := zero3 hbh
          have Hbr := Lib.hid hbh
          clear hbh nO mO
          go_wp2_with fail
          (try simp only [Exit.inBlock, Exit.then])
          have Hb : Hid (∀ l ∈ fs, ∀ x ∈ l, -9223372036854775808 ≤ x ∧ x ≤ 9223372036854775807) := Lib.hid (fun l hl x hx => by
            rw [Hall.out] at hl
            obtain ⟨r, hr, rfl⟩ := List.mem_map.1 hl
            obtain ⟨d, hd, hn, rfl⟩ := mem_delRow.1 hx
            obtain ⟨i, hi, rfl⟩ := List.getElem_of_mem hr
            rw [← rowOf_eq A hi] at hd
            obtain ⟨h0, h1, _⟩ := mem_row HV.out hi hd
            have := sh_in hml h0 h1 hn
            omega)
          refine ret_rot (er := .int .i64 0) rfl rfl (heap_setCell_same _ _ _ _ _ _ (heap_setCell_same _ _ _ _ _ _ (heap_setCell_same _ _ _ _ _ _ Hbr.out))) rfl rfl ?_
          have hGr : Gr (fun k => k = w.heap.size + 1) wr (((wr.setCell ⟨w.heap.size + 1, 0, none⟩ (.int .i64 A.length)).setCell ⟨w.heap.size + 1, 1, none⟩ (.slice pV (E.eraseIdx m).length cV)).setCell ⟨w.heap.size + 1, 2, none⟩ (.slice pO fs.length cO)) :=
            (((Gr.refl (fun k => k = w.heap.size + 1) wr).setCell (b := w.heap.size + 1) (by rfl) _).setCell (b := w.heap.size + 1) (by rfl) _).setCell (b := w.heap.size + 1) (by rfl) _
          have hOw := HOq.out.gr hGr (fun k h1 _ e => by omega)
          obtain ⟨q1, k1, ev1, _, hP⟩ := prs_of_owns hOw (k := 1) rfl
          cases ev1
          obtain ⟨q2, k2, ev2, hM⟩ := mat_of_owns (rs := [outRow O A.length (.slice pV (E.eraseIdx m).length cV) (.slice pO fs.length cO), edN (.slice pV (E.eraseIdx m).length cV) (E.eraseIdx m)]) Hvl.out Hb.out (hOw.perm (List.perm_append_comm (l₁ := [_, _])))
          cases ev2
          rw [Hf.out, ← Hall.out]
          exact ⟨Grew.setCell (Grew.setCell (Grew.setCell (HwB.out.trans Hgq.out) (show w.heap.size ≤ w.heap.size + 1 by omega) _) (show w.heap.size ≤ w.heap.size + 1 by omega) _) (show w.heap.size ≤ w.heap.size + 1 by omega) _, _, _, _, _, rfl, hP, hM⟩

end Go.Proofs.YtcahceceeeaeoaaDoor
