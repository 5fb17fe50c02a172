/- The law RotationCovers: the walk. -/
import Derived.Test.YtcahceceeeaeoaaDoorCov
import Derived.Test.YtcahceceeeaeoaaDoorLmir
set_option linter.unusedSimpArgs false
set_option linter.unusedVariables false
namespace Go.Proofs.YtcahceceeeaeoaaDoor
open Go.RowKit
attribute [local go_sem ↓] Go.wp_at_zero Go.wp_at_succ

set_option maxRecDepth 8000 in
set_option maxHeartbeats 16000000 in
theorem coversL (N : Int) (pE pA : Option Addr) (nE nA cE cA : Nat) (E : List (Int × Int)) (A : List (List Int)) (w : World) (hE : Prs w pE E) (hA : Mat w pA A) (hL : Lim w) (hnE : E.length = nE) (hnA : A.length = nA) :
    Calls Tryd.prog 6 #[.agg #[.int .i64 N, .slice pE nE cE, .slice pA nA cA]] w fun e w' => e = .returned (.bool true) ∧ Grew w w' := by
  subst hnE hnA
  have HE := Lib.hid hE
  have HA := Lib.hid hA
  have HL := Lib.hid hL
  clear hE hA hL
  cases hf : fewB E A
  case false =>
    have Hf := Lib.hid hf
    clear hf
    go_enter Tryd.func6, Tryd.ntmps6
    go_wp2_with (first
      | (go_at_call 8; apply Calls.mono; (with_reducible exact few_e Hf.out (HE.out.grew (by (repeat (first | exact Grew.refl _ | refine Grew.over ?_ _ | refine Grew.alloc ?_ _ | refine Grew.drew ?_ | refine Grew.drewN ?_ _)))) (HA.out.grew (by (repeat (first | exact Grew.refl _ | refine Grew.over ?_ _ | refine Grew.alloc ?_ _ | refine Grew.drew ?_ | refine Grew.drewN ?_ _)))) rfl rfl); rintro e w' ⟨rfl, x1, rfl⟩)
      | (go_at_call 9; apply Calls.mono; (with_reducible exact awake_l _ (HL.out.grew (by (repeat (first | exact Grew.refl _ | refine Grew.over ?_ _ | refine Grew.alloc ?_ _ | refine Grew.drew ?_ | refine Grew.drewN ?_ _))))); rintro e w' ⟨rfl, x2, rfl⟩))
    go_ret
    exact ⟨rfl, by (repeat (first | exact Grew.refl _ | refine Grew.over ?_ _ | refine Grew.alloc ?_ _ | refine Grew.drew ?_ | refine Grew.drewN ?_ _))⟩
  have Hf := Lib.hid hf
  have hR := few_at hf HE.out HA.out
  have HR := Lib.hid hR
  have he1 := hR.e1
  clear hf hR
  cases hv : vRotB N E A
  case false =>
    have Hv := Lib.hid hv
    clear hv
    go_enter Tryd.func6, Tryd.ntmps6
    go_wp2_with (first
      | (go_at_call 8; apply Calls.mono; (with_reducible exact few_e Hf.out (HE.out.grew (by (repeat (first | exact Grew.refl _ | refine Grew.over ?_ _ | refine Grew.alloc ?_ _ | refine Grew.drew ?_ | refine Grew.drewN ?_ _)))) (HA.out.grew (by (repeat (first | exact Grew.refl _ | refine Grew.over ?_ _ | refine Grew.alloc ?_ _ | refine Grew.drew ?_ | refine Grew.drewN ?_ _)))) rfl rfl); rintro e w' ⟨rfl, x1, rfl⟩)
      | (go_at_call 11; apply Calls.mono; (with_reducible exact valid_re Hv.out (HR.out.grew (by (repeat (first | exact Grew.refl _ | refine Grew.over ?_ _ | refine Grew.alloc ?_ _ | refine Grew.drew ?_ | refine Grew.drewN ?_ _)))) rfl rfl); rintro e w' ⟨rfl, x3, rfl⟩)
      | (go_at_call 9; apply Calls.mono; (with_reducible exact awake_l _ (HL.out.grew (by (repeat (first | exact Grew.refl _ | refine Grew.over ?_ _ | refine Grew.alloc ?_ _ | refine Grew.drew ?_ | refine Grew.drewN ?_ _))))); rintro e w' ⟨rfl, x2, rfl⟩))
    go_ret
    exact ⟨rfl, by (repeat (first | exact Grew.refl _ | refine Grew.over ?_ _ | refine Grew.alloc ?_ _ | refine Grew.drew ?_ | refine Grew.drewN ?_ _))⟩
  have Hv := Lib.hid hv
  have hV := vRotB_iff.1 hv
  have HV := Lib.hid hV
  have HD : Hid (mirF N E A = ⟨0, N, E, A.map List.reverse⟩) := Lib.hid (by unfold mirF; rw [if_pos hv])
  obtain ⟨B, hB⟩ : ∃ B, A.map List.reverse = B := ⟨_, rfl⟩
  have hBl : B.length = A.length := by rw [← hB, List.length_map]
  have HBl := Lib.hid hBl
  clear hBl
  rw [hB] at HD
  have hok := mirF_ok (N := N) HR.out.e1 HR.out.a1 HR.out.r1
  rw [HD.out] at hok
  have Hok := Lib.hid hok
  obtain ⟨fs, hfs⟩ : ∃ fs, facesO N E A = fs := ⟨_, rfl⟩
  obtain ⟨os, hos⟩ : ∃ os, facesO N E B = os := ⟨_, rfl⟩
  have hfe : facesF A (2 * E.length) = fs := by rw [← hfs]; unfold facesO; rw [if_pos hv]
  have hoe : facesF (A.map List.reverse) (2 * E.length) = os := by rw [hB, ← hos, ← hB]; unfold facesO; rw [if_pos (vRotB_iff.2 (mir_valid hV))]
  have hlen : os.length = fs.length := by rw [← hfe, ← hoe]; exact mir_faces hV
  have hFl : fs.length ≤ 200 := by rw [← hfe]; have := facesN_len (M := 2 * E.length) (f := nxF A) (2 * E.length); unfold facesF; omega
  have Hcf : Hid (∀ i, i < fs.length → CovFace N E A os (rowOf fs i)) := Lib.hid (fun i hi => by rw [← hfe, ← hoe]; exact cov_face hV (by rw [hfe]; exact hi))
  have Hinc : Hid (∀ i, i + 1 < fs.length → ge (rowOf fs i) 0 < ge (rowOf fs (i + 1)) 0) := Lib.hid (fun i hi => by rw [← hfe]; exact cov_incr hV (by rw [hfe]; exact hi))
  have Hff : Hid (fs.flatten.Nodup ∧ ∀ x : Int, x ∈ fs.flatten ↔ 0 ≤ x ∧ x < 2 * (E.length : Int)) := Lib.hid (by rw [← hfe]; exact cov_flat hV)
  have Hof : Hid (os.flatten.Nodup ∧ ∀ x : Int, x ∈ os.flatten ↔ 0 ≤ x ∧ x < 2 * (E.length : Int)) := Lib.hid (by rw [← hoe]; exact cov_flat (mir_valid hV))
  obtain ⟨g, hg⟩ : ∃ g, genusF N E A = g := ⟨_, rfl⟩
  have hg0 : 0 ≤ g := by rw [← hg]; exact gen_pos hV
  have Hg := Lib.hid hg
  have Hfs := Lib.hid hfs
  have Hos := Lib.hid hos
  have Hlen := Lib.hid hlen
  clear hv hV hok hfs hos hfe hoe hg hB
  go_enter Tryd.func6, Tryd.ntmps6
  go_upto_region 3 with (first
    | (go_at_call 8; apply Calls.mono; (with_reducible exact few_e Hf.out (HE.out.grew (by (repeat (first | exact Grew.refl _ | refine Grew.over ?_ _ | refine Grew.alloc ?_ _ | refine Grew.drew ?_ | refine Grew.drewN ?_ _)))) (HA.out.grew (by (repeat (first | exact Grew.refl _ | refine Grew.over ?_ _ | refine Grew.alloc ?_ _ | refine Grew.drew ?_ | refine Grew.drewN ?_ _)))) rfl rfl); rintro e w' ⟨rfl, x1, rfl⟩)
    | (go_at_call 11; apply Calls.mono; (with_reducible exact valid_re Hv.out (HR.out.grew (by (repeat (first | exact Grew.refl _ | refine Grew.over ?_ _ | refine Grew.alloc ?_ _ | refine Grew.drew ?_ | refine Grew.drewN ?_ _)))) rfl rfl); rintro e w' ⟨rfl, x3, rfl⟩))
  go_region_held (fun w' => w'.cell? ⟨w.heap.size, 0, none⟩ = some (.int .i64 N) ∧ w'.cell? ⟨w.heap.size, 1, none⟩ = some (.slice pE E.length cE) ∧ w'.cell? ⟨w.heap.size, 2, none⟩ = some (.slice pA A.length cA)) (first | (simp [go_sem, ↓IntWalk.iteOmega, *]; done) | go_keep) (first
    | (go_at_call 24; apply Calls.mono; (with_reducible exact mirror_pe HD.out (HR.out.grew (by (repeat (first | exact Grew.refl _ | refine Grew.over ?_ _ | refine Grew.alloc ?_ _ | refine Grew.drew ?_ | refine Grew.drewN ?_ _)))) (HL.out.grew (by (repeat (first | exact Grew.refl _ | refine Grew.over ?_ _ | refine Grew.alloc ?_ _ | refine Grew.drew ?_ | refine Grew.drewN ?_ _)))) rfl rfl); rintro e w' ⟨⟨x4, rfl⟩, pD, qD, cD, dD, rfl, hP1, hM1⟩; have HR1 := Lib.hid (RotAt.mk hP1 hM1 Hok.out.e1 Hok.out.a1 Hok.out.r1); clear hP1 hM1)
    | (go_at_call 13; apply Calls.mono; (with_reducible exact faces_pe Hfs.out (HR.out.grew (by (repeat (first | exact Grew.refl _ | refine Grew.over ?_ _ | refine Grew.alloc ?_ _ | refine Grew.drew ?_ | refine Grew.drewN ?_ _)))) (HL.out.grew (by (repeat (first | exact Grew.refl _ | refine Grew.over ?_ _ | refine Grew.alloc ?_ _ | refine Grew.drew ?_ | refine Grew.drewN ?_ _)))) rfl rfl); rintro e w' ⟨⟨x5, rfl⟩, p1, c1, rfl, hA1⟩; have HA1 := Lib.hid hA1; clear hA1)
    | (go_at_call 13; apply Calls.mono; (with_reducible exact faces_pe Hos.out (HR1.out.grew (by (repeat (first | exact Grew.refl _ | refine Grew.over ?_ _ | refine Grew.alloc ?_ _ | refine Grew.drew ?_ | refine Grew.drewN ?_ _)))) (HL.out.grew (by (repeat (first | exact Grew.refl _ | refine Grew.over ?_ _ | refine Grew.alloc ?_ _ | refine Grew.drew ?_ | refine Grew.drewN ?_ _)))) rfl rfl); rintro e w' ⟨⟨x6, rfl⟩, p2, c2, rfl, hA2⟩; have HA2 := Lib.hid hA2; clear hA2))
  obtain ⟨W3, hW3⟩ : ∃ W3, over (over (over (over (over (w.alloc (.cells #[.int .i64 N, .slice pE E.length cE, .slice pA A.length cA] 25)) x1) x3).drew x5) x4) x6 = W3 := ⟨_, rfl⟩
  have Hg3 : Hid (Grew w W3) := Lib.hid (by rw [← hW3]; (repeat (first | exact Grew.refl _ | refine Grew.over ?_ _ | refine Grew.alloc ?_ _ | refine Grew.drew ?_ | refine Grew.drewN ?_ _)))
  have HM1 : Hid (Mat W3 p1 fs) := Lib.hid (HA1.out.grew (by rw [← hW3]; (repeat (first | exact Grew.refl _ | refine Grew.over ?_ _ | refine Grew.alloc ?_ _ | refine Grew.drew ?_ | refine Grew.drewN ?_ _))))
  have HM2 : Hid (Mat W3 p2 os) := Lib.hid (HA2.out.grew (by rw [← hW3]; (repeat (first | exact Grew.refl _ | refine Grew.over ?_ _ | refine Grew.alloc ?_ _ | refine Grew.drew ?_ | refine Grew.drewN ?_ _))))
  have hs3 : w.heap.size + 1 ≤ W3.heap.size := by rw [← hW3]; simp; omega
  have b0 : W3.cell? ⟨w.heap.size, 0, none⟩ = some (.int .i64 N) := by rw [← hW3]; (simp [go_sem, ↓IntWalk.iteOmega])
  have b1 : W3.cell? ⟨w.heap.size, 1, none⟩ = some (.slice pE E.length cE) := by rw [← hW3]; (simp [go_sem, ↓IntWalk.iteOmega])
  have b2 : W3.cell? ⟨w.heap.size, 2, none⟩ = some (.slice pA A.length cA) := by rw [← hW3]; (simp [go_sem, ↓IntWalk.iteOmega])
  have Hb0 := Lib.hid b0
  have Hb1 := Lib.hid b1
  have Hb2 := Lib.hid b2
  rw [hW3]
  clear hW3 HA1 HA2 HR1
  go_wp2_with (first
    | (go_at_call 15; apply Calls.mono; (with_reducible exact genus_pe Hg.out (HR.out.grew (Hg3.out.trans (by (repeat (first | exact Grew.refl _ | refine Grew.over ?_ _ | refine Grew.alloc ?_ _ | refine Grew.drew ?_ | refine Grew.drewN ?_ _))))) (HL.out.grew (Hg3.out.trans (by (repeat (first | exact Grew.refl _ | refine Grew.over ?_ _ | refine Grew.alloc ?_ _ | refine Grew.drew ?_ | refine Grew.drewN ?_ _))))) rfl rfl); rintro e w' ⟨rfl, x9, rfl⟩)
    | (skip; refine wp_make_owns rfl _ _ 38 rfl 3 8 (.int .i64 0) Tryd.underlying38 Tryd.infoInt rfl .i64 .i64 _ _ (2 * E.length) rfl rfl (by push_cast; rfl) (by push_cast; rfl) (by omega) (by simp only [maxLen]; omega) W3.heap.size [] (Owns.nil _ _) (by first | rfl | omega | (simp <;> omega)) ?_; intro w4 hO hg4 hs4; obtain ⟨bS, hbS⟩ : ∃ bS, (over W3 x9).heap.size = bS := ⟨_, rfl⟩; rw [hbS] at hO; rw [hbS]; have Hg4 : Hid (Grew W3 w4) := Lib.hid (Grew.trans (by (repeat (first | exact Grew.refl _ | refine Grew.over ?_ _ | refine Grew.alloc ?_ _ | refine Grew.drew ?_ | refine Grew.drewN ?_ _))) hg4); simp at hs4; have HO4 := Lib.hid hO; have hsz4 := hg4.below.size; simp at hsz4;
       have q1 : w4.cell? ⟨w.heap.size, 1, none⟩ = some (.slice pE E.length cE) := Hg4.out.cellEq b1; clear hO hg4 b0 b1 b2)
    | (refine wp_make_owns rfl _ _ 38 rfl 3 8 (.int .i64 0) Tryd.underlying38 Tryd.infoInt rfl .i64 .i64 _ _ (2 * E.length) rfl rfl (by push_cast; rfl) (by push_cast; rfl) (by omega) (by simp only [maxLen]; omega) W3.heap.size _ HO4.out (by first | rfl | omega | (simp <;> omega)) ?_; intro w5 hO hg5 hs5; have HO5 := Lib.hid hO; have Hg5 : Hid (Grew W3 w5) := Lib.hid (Hg4.out.trans hg5); have hsz5 := hg5.below.size; clear hO hg5))
  obtain ⟨bI, hbI⟩ : ∃ bI, w4.heap.size = bI := ⟨_, rfl⟩
  have HO6 : Hid (Owns w5 W3.heap.size (covRows bI bS (2 * E.length) (inL os (2 * E.length) (preF os 0 0)) (seL (2 * E.length) []))) := Lib.hid (by
    have := HO5.out
    rw [hbI] at this
    unfold covRows
    rw [preF_zero, inL_nil, seL_nil, ← intVs_rep]
    exact this)
  rw [hbI]
  clear hbI hbS HO4 HO5 q1 hs4 hs5 hsz4 hsz5
  go_loopw [7] (fun i wr => ∃ f : Nat, f ≤ fs.length ∧ i = .int .i64 f ∧ Grew W3 wr ∧ Owns wr W3.heap.size (covRows bI bS (2 * E.length) (inL os (2 * E.length) (preF os f 0)) (seL (2 * E.length) []))) (fun i _ => fs.length - (intOf i).toNat)
  case atStart => exact ⟨0, Nat.zero_le _, rfl, Hg5.out, HO6.out⟩
  case round =>
    obtain ⟨f, hf, rfl, hgf, hOf⟩ := hrel
    have Hgf := Lib.hid hgf
    have HOf := Lib.hid hOf
    clear hgf hOf
    by_cases hlf : f < fs.length
    · obtain ⟨bO, oO, rp, rc, rfl, lO, kO⟩ := HM2.out.rows (by rw [Hlen.out]; omega)
      have hfo : f < os.length := by omega
      obtain ⟨_, a2⟩ := kO W3 (Grew.refl _) f hfo
      have KA := Lib.hid (fun (W1 : World) (hg : Grew W3 W1) => (kO W1 hg f hfo).1)
      have a1 := KA.out wr Hgf.out
      have Ha2 := Lib.hid a2
      obtain ⟨hrl, hrg⟩ := flat_row_le Hof.out hfo
      have Hrg := Lib.hid hrg
      have Hfo := Lib.hid hfo
      clear kO a2 hrg hfo
      go_wp2
      clear a1
      go_loopw [8] (fun i wk => ∃ k : Nat, k ≤ (rowOf os f).length ∧ i = .int .i64 k ∧ Grew W3 wk ∧ Owns wk W3.heap.size (covRows bI bS (2 * E.length) (inL os (2 * E.length) (preF os f k)) (seL (2 * E.length) []))) (fun i _ => (rowOf os f).length - (intOf i).toNat)
      case atStart => exact ⟨0, Nat.zero_le _, rfl, Hgf.out, HOf.out⟩
      case round =>
        obtain ⟨k, hk, rfl, hgk, hOk⟩ := hrel
        have Hgk := Lib.hid hgk
        have HOk := Lib.hid hOk
        have a1 := KA.out wr hgk
        clear hgk hOk
        by_cases hlk : k < (rowOf os f).length
        · obtain ⟨bR, oR, eR, lR, cR⟩ := Ha2.out.cells (by omega)
          have e1 := cR wr Hgk.out k hlk
          rw [eR] at a1
          obtain ⟨m, hm0⟩ : ∃ m : Nat, ge (rowOf os f) k = (m : Int) := ⟨(ge (rowOf os f) k).toNat, by have := (Hrg.out k hlk).1; omega⟩
          have hmi : (m : Int) < 2 * (E.length : Int) := by rw [← hm0]; exact (Hrg.out k hlk).2
          have hm : m < 2 * E.length := by omega
          rw [hm0] at e1
          obtain ⟨⟨x1, x2, x3, x4⟩, _⟩ := covRows_at HOk.out (inL_len _ _ _) (seL_len _ _)
          have y1 := x3 m
          have y2 := x4 m hm
          have Hx1 := Lib.hid x1
          have Hst : Hid ((inL os (2 * E.length) (preF os f k)).set m (f : Int) = inL os (2 * E.length) (preF os f (k + 1))) := Lib.hid (by
            rw [preF_succ hlk, hm0]
            exact inL_set hm (posF_of Hof.out.1 Hfo.out (by rw [← hm0]; exact ge_mem hlk)))
          clear cR eR x1 x3 x4 hm0
          go_wp2
          go_roundw
          case rel =>
            refine ⟨k + 1, by omega, by go_num, Hgk.out.setCell Hx1.out _, ?_⟩
            rw [← Hst.out]
            exact covRows_in HOk.out m f
          case measure => simp [intOf]; omega
        · have Hp : Hid (preF os f k = preF os (f + 1) 0) := Lib.hid (by rw [show k = (rowOf os f).length by omega]; exact preF_next Hfo.out)
          go_wp2
          go_roundw
          case rel => exact ⟨f + 1, by omega, by go_num, Hgk.out, by rw [← Hp.out]; exact HOk.out⟩
          case measure => simp [intOf]; omega
    · obtain ⟨I, hI⟩ : ∃ I, inL os (2 * E.length) (preF os f 0) = I := ⟨_, rfl⟩
      have hIe : I = inL os (2 * E.length) os.flatten := by rw [← hI, show f = os.length by omega, preF_all]
      have HIl : Hid (I.length = (2 * E.length)) := Lib.hid (by rw [hIe]; exact inL_len _ _ _)
      have HIg : Hid (∀ d : Nat, d < (2 * E.length) → ge I d = posF os d) := Lib.hid (fun d hd => by rw [hIe]; exact inL_get hd (flat_in Hof.out hd))
      rw [hI] at HOf
      clear hI hIe
      go_wp2
      go_loopw [9] (fun i wr => ∃ f : Nat, f ≤ fs.length ∧ i = .int .i64 f ∧ Grew W3 wr ∧ Owns wr W3.heap.size (covRows bI bS (2 * E.length) I (seL (2 * E.length) (preF fs f 0)))) (fun i _ => fs.length - (intOf i).toNat)
      case atStart => exact ⟨0, Nat.zero_le _, rfl, Hgf.out, by rw [preF_zero]; exact HOf.out⟩
      case round =>
        clear HOf Hgf
        obtain ⟨f, hf, rfl, hgf, hOf⟩ := hrel
        have Hgf := Lib.hid hgf
        have HOf := Lib.hid hOf
        clear hgf hOf
        by_cases hlf : f < fs.length
        · obtain ⟨bA, oA, sp, sc, rfl, lA, kA⟩ := HM1.out.rows (by omega)
          obtain ⟨bO, oO, rp, rc, rfl, lO, kO⟩ := HM2.out.rows (by rw [Hlen.out]; omega)
          obtain ⟨_, a2⟩ := kA W3 (Grew.refl _) f hlf
          obtain ⟨rv, hrv⟩ : ∃ rv, sp f = rv := ⟨_, rfl⟩
          obtain ⟨R, hR⟩ : ∃ R, rowOf fs f = R := ⟨_, rfl⟩
          obtain ⟨L, hL⟩ : ∃ L, R.length = L := ⟨_, rfl⟩
          have C := Hcf.out f hlf
          have KA := Lib.hid (fun (W1 : World) (hg : Grew W3 W1) => (kA W1 hg f hlf).1)
          rw [hR, hL, hrv] at KA
          rw [hR, hrv] at a2
          rw [hR] at C
          have a1 := KA.out wr Hgf.out
          have hL0 := C.ne
          rw [hL] at hL0
          obtain ⟨bR, oR, rfl, lR, cR⟩ := a2.cells C.ne
          have CR := Lib.hid cR
          have HC := Lib.hid C
          have HR3 := Lib.hid hR
          have HLL := Lib.hid hL
          obtain ⟨d0, hd0⟩ : ∃ d0 : Nat, ge R 0 = (d0 : Int) := ⟨(ge R 0).toNat, by have := (C.rg 0 C.ne).1; omega⟩
          have hd0M : d0 < 2 * E.length := by have := (C.rg 0 C.ne).2; rw [hd0] at this; omega
          obtain ⟨o0, ho0⟩ : ∃ o0 : Nat, oth d0 = (o0 : Int) := ⟨(oth d0).toNat, by have := (oth_in (d := (d0 : Int)) (M := E.length) (by omega) (by omega)).1; omega⟩
          have ho0M : o0 < 2 * E.length := by have := (oth_in (d := (d0 : Int)) (M := E.length) (by omega) (by omega)).2; omega
          obtain ⟨p, hp⟩ : ∃ p, posF os (o0 : Int) = p := ⟨_, rfl⟩
          have Hd0 := Lib.hid hd0
          have Ho0 := Lib.hid ho0
          have Hp := Lib.hid hp
          have Hq0 := Lib.hid (fun W1 : World => (ho0 ▸ other_r d0 W1 (by omega) : Calls Tryd.prog 25 #[.int .i64 d0] W1 fun e w' => e = .returned (.int .i64 (o0 : Int)) ∧ W1 = w'))
          have hRl : L ≤ 200 := by
            have := (flat_row_le Hff.out hlf).1
            rw [hR, hL] at this
            omega
          clear a2 cR C hR hL hd0 ho0 hp hrv
          go_wp2
          clear a1
          go_loopw [11] (fun i wk => ∃ k : Nat, k ≤ L ∧ i = .int .i64 k ∧ Grew W3 wk ∧ Owns wk W3.heap.size (covRows bI bS (2 * E.length) I (seL (2 * E.length) (preF fs f k)))) (fun i _ => L - (intOf i).toNat)
          case atStart => exact ⟨0, Nat.zero_le _, rfl, Hgf.out, HOf.out⟩
          case round =>
            clear HOf Hgf
            obtain ⟨k, hk, rfl, hgk, hOk⟩ := hrel
            have Hgk := Lib.hid hgk
            have HOk := Lib.hid hOk
            clear hgk hOk
            by_cases hlk : k < L
            · have hkR : k < R.length := by rw [HLL.out]; exact hlk
              obtain ⟨j2, hj2⟩ : ∃ j2, (k + 1) % L = j2 := ⟨_, rfl⟩
              have hj2l : j2 < L := by rw [← hj2]; exact Nat.mod_lt _ (by omega)
              have e0 := CR.out wr Hgk.out 0 (by rw [HLL.out]; omega)
              have e1 := CR.out wr Hgk.out k hkR
              have e2 := CR.out wr Hgk.out j2 (by rw [HLL.out]; exact hj2l)
              have hem : ((k : Int) + 1) % (L : Int) = (j2 : Int) := by rw [← hj2]; push_cast; rfl
              have het : ((k : Int) + 1).tmod (L : Int) = (j2 : Int) := by rw [Int.tmod_eq_emod_of_nonneg (by omega)]; exact hem
              have hL1 : ¬ L = 0 := by omega
              have hwk1 : IntKind.i64.wrap ((k : Int) + 1) = (k : Int) + 1 := IntWalk.i64_in _ ⟨by omega, by omega⟩
              obtain ⟨m, hm0⟩ : ∃ m : Nat, ge R k = (m : Int) := ⟨(ge R k).toNat, by have := (HC.out.rg k hkR).1; omega⟩
              obtain ⟨y, hy⟩ : ∃ y, ge R j2 = y := ⟨_, rfl⟩
              have hm : m < 2 * E.length := by have := (HC.out.rg k hkR).2; omega
              have hmi : (m : Int) < 2 * (E.length : Int) := by omega
              have hdm : (d0 : Int) ≤ (m : Int) := by rw [← hm0, ← Hd0.out]; exact HC.out.ge0 k hkR
              have hdm1 : ¬ m < d0 := by omega
              have hdm2 : ¬ (m : Int) < (d0 : Int) := by omega
              have hdm3 : ¬ 2 * (E.length : Int) ≤ (m : Int) := by omega
              have Hnx : Hid (nextF N E A m = y) := Lib.hid (by rw [← hy, ← hm0, ← hj2, HC.out.nx k hkR, HLL.out])
              obtain ⟨o1, ho1⟩ : ∃ o1 : Nat, oth m = (o1 : Int) := ⟨(oth m).toNat, by have := (oth_in (d := (m : Int)) (M := E.length) (by omega) (by omega)).1; omega⟩
              have ho1M : o1 < 2 * E.length := by have := (oth_in (d := (m : Int)) (M := E.length) (by omega) (by omega)).2; omega
              have hps := HC.out.ps k hkR
              rw [hm0, Hd0.out, ho1, Ho0.out, Hp.out] at hps
              have Hq1 := Lib.hid (fun W1 : World => (ho1 ▸ other_r m W1 (by omega) : Calls Tryd.prog 25 #[.int .i64 m] W1 fun e w' => e = .returned (.int .i64 (o1 : Int)) ∧ W1 = w'))
              rw [Hd0.out, Nat.add_zero] at e0
              rw [hm0] at e1
              rw [hy] at e2
              obtain ⟨⟨x1, x2, x3, x4⟩, z1, z2, z3, z4⟩ := covRows_at HOk.out HIl.out (seL_len _ _)
              have i0 := x4 o0 ho0M
              have i1 := x4 o1 ho1M
              have s1 := z4 m hm
              have s2 := z3 m
              have hnin : (m : Int) ∉ preF fs f k := by
                have := preF_not Hff.out.1 hlf (k := k) (by rw [HR3.out]; exact hkR)
                rw [HR3.out, hm0] at this
                exact this
              have Hnin := Lib.hid hnin
              rw [HIg.out o0 ho0M, Hp.out] at i0
              rw [HIg.out o1 ho1M, hps] at i1
              rw [seL_get hm, if_neg hnin] at s1
              have hSz : W3.heap.size ≤ bS := z1
              have Hst : Hid ((seL (2 * E.length) (preF fs f k)).set m 1 = seL (2 * E.length) (preF fs f (k + 1))) := Lib.hid (by
                rw [preF_succ (by rw [HR3.out]; exact hkR), HR3.out, hm0]
                exact seL_set hm)
              have q0 := Hgk.out.cellEq Hb0.out
              have q1 := Hgk.out.cellEq Hb1.out
              have q2 := Hgk.out.cellEq Hb2.out
              have hszk := Hgk.out.below.size
              clear x1 x3 x4 z1 z3 z4 hm0 hy ho1 hps hnin hj2 hkR
              go_upto_region 24 with fail
              refine wp_region_over (by kernel_rfl) (by kernel_rfl) ?_; (repeat (go_big_quiet_step (first
                              | (go_at_call 19; apply over_call; with_reducible exact next_pe Hnx.out (HR.out.grew (Hg3.out.trans (Hgk.out.trans (by (repeat (first | exact Grew.refl _ | refine Grew.over ?_ _ | refine Grew.alloc ?_ _ | refine Grew.drew ?_ | refine Grew.drewN ?_ _)))))) (HL.out.grew (Hg3.out.trans (Hgk.out.trans (by (repeat (first | exact Grew.refl _ | refine Grew.over ?_ _ | refine Grew.alloc ?_ _ | refine Grew.drew ?_ | refine Grew.drewN ?_ _)))))) rfl rfl)
                              | (go_at_call 25; apply over_callE; with_reducible exact Hq1.out _)
                              | (go_at_call 25; apply over_callE; with_reducible exact Hq0.out _)))); refine wpQuiet_nil ?_; rintro _ ⟨x, rfl⟩
              have hgw : Grew wr (over wr x) := by (repeat (first | exact Grew.refl _ | refine Grew.over ?_ _ | refine Grew.alloc ?_ _ | refine Grew.drew ?_ | refine Grew.drewN ?_ _))
              generalize over wr x = wx at hgw ⊢
              have Hgx : Hid (Grew W3 wx) := Lib.hid (Hgk.out.trans hgw)
              have e1 := hgw.cellEq e1
              have hOx := HOk.out.grew hgw
              obtain ⟨_, _, _, z3, z4⟩ := covRows_at hOx HIl.out (seL_len _ _)
              have s1 := z4 m hm
              have s2 := z3 m
              rw [seL_get hm, if_neg Hnin.out] at s1
              have HOx := Lib.hid (covRows_se hOx m 1)
              rw [Hst.out] at HOx
              clear z3 z4 hOx hgw i0 i1 q0 q1 q2 e0 e2
              go_wp2
              go_roundw
              case rel => exact ⟨k + 1, by omega, by go_num, Hgx.out.setCell hSz _, HOx.out⟩
              case measure => simp [intOf]; omega
            · have Hpre : Hid (preF fs f k = preF fs (f + 1) 0) := Lib.hid (by
                have : k = (rowOf fs f).length := by rw [HR3.out, HLL.out]; omega
                rw [this]; exact preF_next hlf)
              have e0 := CR.out wr Hgk.out 0 (by rw [HLL.out]; omega)
              rw [Hd0.out, Nat.add_zero] at e0
              obtain ⟨⟨_, x2, _, x4⟩, _⟩ := covRows_at HOk.out HIl.out (seL_len _ _)
              have i0 := x4 o0 ho0M
              rw [HIg.out o0 ho0M, Hp.out] at i0
              have hpl := HC.out.pl
              rw [Hd0.out, Ho0.out, Hp.out] at hpl
              have hln := HC.out.ln
              rw [Hd0.out, Ho0.out, Hp.out, HLL.out] at hln
              have hpf : p < fs.length := by omega
              have b1 := (kO wr Hgk.out p hpl).1
              rw [hln] at b1
              have hL1 : ¬ L = 0 := by omega
              have hL2 : ((L : Int) == 0) = false := by rw [beq_eq_false_iff_ne]; omega
              have hszk := Hgk.out.below.size
              have Hpl := Lib.hid hpl
              clear x4 hln hpl
              rcases Nat.eq_zero_or_pos f with hz | hz
              · have hf0 : ¬ 0 < f := by omega
                have hf1 : ¬ (0 : Int) < (f : Int) := by omega
                clear hz
                go_upto_region 27 with fail
                refine wp_region_over (by kernel_rfl) (by kernel_rfl) ?_; (repeat (go_big_quiet_step ((go_at_call 25; apply over_callE; with_reducible exact Hq0.out _)))); refine wpQuiet_nil ?_; rintro _ ⟨x, rfl⟩
                go_wp2
                go_roundw
                case rel => exact ⟨f + 1, by omega, by go_num, Hgk.out.trans (by (repeat (first | exact Grew.refl _ | refine Grew.over ?_ _ | refine Grew.alloc ?_ _ | refine Grew.drew ?_ | refine Grew.drewN ?_ _))), by rw [← Hpre.out]; exact HOk.out.grew (by (repeat (first | exact Grew.refl _ | refine Grew.over ?_ _ | refine Grew.alloc ?_ _ | refine Grew.drew ?_ | refine Grew.drewN ?_ _)))⟩
                case measure => simp [intOf]; omega
              · obtain ⟨f', hf'⟩ : ∃ f', f = f' + 1 := ⟨f - 1, by omega⟩
                have hf'l : f' < fs.length := by omega
                have hsub : (f : Int) - 1 = (f' : Int) := by omega
                have hfi : (0 : Int) < (f : Int) := by omega
                obtain ⟨_, g2⟩ := kA W3 (Grew.refl _) f' hf'l
                have g1 := (kA wr Hgk.out f' hf'l).1
                have C' := Hcf.out f' hf'l
                obtain ⟨rv', hrv'⟩ : ∃ rv, sp f' = rv := ⟨_, rfl⟩
                obtain ⟨R', hR'⟩ : ∃ R, rowOf fs f' = R := ⟨_, rfl⟩
                have hinc := Hinc.out f' (by omega)
                rw [← hf', HR3.out, hR', Hd0.out] at hinc
                rw [hR', hrv'] at g1 g2
                rw [hR'] at C'
                obtain ⟨bP, oP, rfl, lP, cP⟩ := g2.cells C'.ne
                have g0 := cP wr Hgk.out 0 C'.ne
                obtain ⟨dp, hdp⟩ : ∃ dp : Nat, ge R' 0 = (dp : Int) := ⟨(ge R' 0).toNat, by have := (C'.rg 0 C'.ne).1; omega⟩
                rw [hdp] at hinc
                rw [hdp, Nat.add_zero] at g0
                obtain ⟨L', hL'⟩ : ∃ L, R'.length = L := ⟨_, rfl⟩
                rw [hL'] at g1
                have hL0' := C'.ne
                rw [hL'] at hL0'
                have hdd : ¬ d0 ≤ dp := by omega
                have hdd2 : ¬ (d0 : Int) ≤ (dp : Int) := by omega
                have Hf' := Lib.hid hf'
                clear hf' g2 C' hrv' hR' cP hdp hL'
                go_upto_region 27 with fail
                refine wp_region_over (by kernel_rfl) (by kernel_rfl) ?_; (repeat (go_big_quiet_step ((go_at_call 25; apply over_callE; with_reducible exact Hq0.out _)))); refine wpQuiet_nil ?_; rintro _ ⟨x, rfl⟩
                go_wp2
                go_roundw
                case rel => exact ⟨f + 1, by omega, by go_num, Hgk.out.trans (by (repeat (first | exact Grew.refl _ | refine Grew.over ?_ _ | refine Grew.alloc ?_ _ | refine Grew.drew ?_ | refine Grew.drewN ?_ _))), by rw [← Hpre.out]; exact HOk.out.grew (by (repeat (first | exact Grew.refl _ | refine Grew.over ?_ _ | refine Grew.alloc ?_ _ | refine Grew.drew ?_ | refine Grew.drewN ?_ _)))⟩
                case measure => simp [intOf]; omega
        · have hS : Hid (∀ d : Nat, d < (2 * E.length) → ge (seL (2 * E.length) (preF fs f 0)) d = 1) := Lib.hid (fun d hd => by
            rw [seL_get hd, show f = fs.length by omega, preF_all, if_pos (flat_in Hff.out hd)])
          obtain ⟨S, hSe⟩ : ∃ S, seL (2 * E.length) (preF fs f 0) = S := ⟨_, rfl⟩
          have HSl : Hid (S.length = (2 * E.length)) := Lib.hid (by rw [← hSe]; exact seL_len _ _)
          rw [hSe] at hS HOf
          clear hSe
          go_wp2
          go_loopw [12] (fun i wr => ∃ d : Nat, d ≤ (2 * E.length) ∧ i = .int .i64 d ∧ Grew W3 wr ∧ Owns wr W3.heap.size (covRows bI bS (2 * E.length) I S)) (fun i _ => (2 * E.length) - (intOf i).toNat)
          case atStart => exact ⟨0, Nat.zero_le _, rfl, Hgf.out, HOf.out⟩
          case round =>
            clear HOf Hgf
            obtain ⟨d, hd, rfl, hgd, hOd⟩ := hrel
            have Hgd := Lib.hid hgd
            have HOd := Lib.hid hOd
            clear hgd
            by_cases hld : d < (2 * E.length)
            · obtain ⟨_, _, _, z3, z4⟩ := covRows_at hOd HIl.out HSl.out
              have s1 := z4 d hld
              rw [hS.out d hld] at s1
              have hdi : (d : Int) < 2 * (E.length : Int) := by omega
              clear hOd z3 z4
              go_wp2
              go_roundw
              case rel => exact ⟨d + 1, by omega, by go_num, Hgd.out, HOd.out⟩
              case measure => simp [intOf]; omega
            · have hdi : ¬ (d : Int) < 2 * (E.length : Int) := by omega
              clear hOd
              go_wp2_with (go_at_call 9; apply Calls.mono; (with_reducible exact awake_l _ (HL.out.grew (Hg3.out.trans (Hgd.out.trans (by (repeat (first | exact Grew.refl _ | refine Grew.over ?_ _ | refine Grew.alloc ?_ _ | refine Grew.drew ?_ | refine Grew.drewN ?_ _))))))); rintro e w' ⟨rfl, x2, rfl⟩)
              go_ret
              exact ⟨rfl, Hg3.out.trans (Hgd.out.trans (by (repeat (first | exact Grew.refl _ | refine Grew.over ?_ _ | refine Grew.alloc ?_ _ | refine Grew.drew ?_ | refine Grew.drewN ?_ _))))⟩
end Go.Proofs.YtcahceceeeaeoaaDoor
