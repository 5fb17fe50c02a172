/- The reference's sub. -/
import Derived.Test.YtgodoeefgmfpfaaTidyV
set_option linter.unusedSimpArgs false
set_option linter.unusedVariables false
namespace Go.Proofs.Ytgodoeefgmfpfaa
open Go.RowKit
attribute [local go_sem ↓] Go.wp_at_zero Go.wp_at_succ

/-- The box of the result. -/
def rbRow (r : Nat) (a b : Value) : Row := ⟨.slice (some ⟨r, 0, none⟩) 1 1, 47, 2, 1, [a, b]⟩
theorem rb_start (w : World) (vf : Array Value) (t : TypeId) : Owns ((w.alloc (.cells vf t)).alloc (.cells #[.slice none 0 0, .slice none 0 0] 47)) w.heap.size [rbRow (w.heap.size + 1) (.slice none 0 0) (.slice none 0 0)] := by
  have h1 := (Owns.nil (w.alloc (.cells vf t)) w.heap.size).made (by simp) #[.slice none 0 0, .slice none 0 0] 47 2 1 (w.heap.size + 1) rfl (by decide) (by simp)
  exact h1
theorem vtx_snoc (s : Dr) (v : Nat) (b x : Int) : vtx (mvD s b ++ [(v, x)]) = vtx s ++ [(v : Int)] := by rw [vtx_app, vtx_mvD]; rfl
theorem posD_snoc (s : Dr) (v : Nat) (b x : Int) : posD (mvD s b ++ [(v, x)]) = posD (mvD s b) ++ [x] := by rw [posD_app]; rfl

theorem Owns.pair {w : World} {B : Nat} {rs : List Row} (h : Owns w B rs) {i j : Nat} {a b : Row} (hi : rs[i]? = Option.some a) (hj : rs[j]? = Option.some b) (hij : i ≠ j) : Owns w B [a, b] := by
  rw [owns_iff]
  refine ⟨fun r hr => ?_, List.pairwise_cons.2 ⟨fun x hx g e1 => ?_, List.pairwise_singleton _ _⟩⟩
  · rcases List.mem_cons.1 hr with rfl | hr
    · exact h.1 i _ hi
    · rw [List.mem_singleton.1 hr]; exact h.1 j _ hj
  · rw [List.mem_singleton.1 hx]; exact h.2 i j _ _ hi hj hij g e1
theorem sub_leaf_end {w w1 : World} {v : Nat} (hO : Owns w1 w.heap.size [rbRow (w.heap.size + 1) (.slice none 0 0) (.slice none 0 0)]) (hg : Grew w w1) :
    Grew w ((((w1.setCell ⟨w.heap.size + 1, 0, none⟩ (.slice (some ⟨w1.heap.size, 0, none⟩) 1 1)).setCell ⟨w.heap.size + 1, 1, none⟩ (.slice (some ⟨w1.heap.size + 1, 0, none⟩) 1 1)).alloc (.cells #[.int .i64 v] 3)).alloc (.cells #[.int .i64 0] 3)) ∧
    Owns ((((w1.setCell ⟨w.heap.size + 1, 0, none⟩ (.slice (some ⟨w1.heap.size, 0, none⟩) 1 1)).setCell ⟨w.heap.size + 1, 1, none⟩ (.slice (some ⟨w1.heap.size + 1, 0, none⟩) 1 1)).alloc (.cells #[.int .i64 v] 3)).alloc (.cells #[.int .i64 0] 3)) w.heap.size
      (subRows (.slice (some ⟨w1.heap.size, 0, none⟩) 1 1) (.slice (some ⟨w1.heap.size + 1, 0, none⟩) 1 1) [(v, 0)]) := by
  have hsz := hg.below.size
  have g1 := Owns.setGrew hO (Nat.le_refl _) hg (k := 0) rfl 0 (.slice (some ⟨w1.heap.size, 0, none⟩) 1 1)
  have h1 := hO.set (k := 0) rfl 0 (.slice (some ⟨w1.heap.size, 0, none⟩) 1 1)
  have g2 := Owns.setGrew h1 (Nat.le_refl _) g1 (k := 0) rfl 1 (.slice (some ⟨w1.heap.size + 1, 0, none⟩) 1 1)
  have h2 := h1.set (k := 0) rfl 1 (.slice (some ⟨w1.heap.size + 1, 0, none⟩) 1 1)
  have h3 := h2.made (by simp; omega) #[.int .i64 v] 3 1 1 w1.heap.size rfl (by decide) (by simp)
  have h4 := h3.made (by simp; omega) #[.int .i64 0] 3 1 1 (w1.heap.size + 1) rfl (by decide) (by simp)
  exact ⟨(g2.alloc _).alloc _, h4.pair (i := 1) (j := 0) rfl rfl (by omega)⟩
theorem su_end {w W : World} {R : Dr} {b : Int} {v : Nat} {pV pX : Option Addr} {cV cX : Nat} {r1 r3 : Row} (hg : Grew w W)
    (hO : Owns W w.heap.size [rbRow (w.heap.size + 1) (.slice none 0 0) (.slice none 0 0), r1, ⟨.slice pV (R.length + 1) cV, 3, 1, R.length + 1, intVs (vtx R) ++ [.int .i64 v]⟩, r3, ⟨.slice pX (R.length + 1) cX, 3, 1, R.length + 1, intVs (posD (mvD R b)) ++ [.int .i64 0]⟩]) :
    Grew w ((W.setCell ⟨w.heap.size + 1, 0, none⟩ (.slice pV (R.length + 1) cV)).setCell ⟨w.heap.size + 1, 1, none⟩ (.slice pX (R.length + 1) cX)) ∧
    Owns ((W.setCell ⟨w.heap.size + 1, 0, none⟩ (.slice pV (R.length + 1) cV)).setCell ⟨w.heap.size + 1, 1, none⟩ (.slice pX (R.length + 1) cX)) w.heap.size (subRows (.slice pV (R.length + 1) cV) (.slice pX (R.length + 1) cX) (mvD R b ++ [(v, 0)])) := by
  have g1 := Owns.setGrew hO (Nat.le_refl _) hg (k := 0) rfl 0 (.slice pV (R.length + 1) cV)
  have h1 := hO.set (k := 0) rfl 0 (.slice pV (R.length + 1) cV)
  have g2 := Owns.setGrew h1 (Nat.le_refl _) g1 (k := 0) rfl 1 (.slice pX (R.length + 1) cX)
  have h2 := h1.set (k := 0) rfl 1 (.slice pX (R.length + 1) cX)
  refine ⟨g2, ?_⟩
  unfold subRows
  rw [vtx_snoc, posD_snoc, intVs_app, intVs_app, List.length_append, mvD_length]
  exact h2.pair (i := 2) (j := 4) rfl rfl (by omega)

set_option maxRecDepth 8000 in
set_option maxHeartbeats 16000000 in
theorem subr_succ (p q d : Option Addr) (cp cq cd : Nat) (P W : List Int) (sep : Int) (hP : vFor P) (hWl : W.length = P.length) (hW : wOK W sep) (k : Nat) (ih : RowR p q d cp cq cd P W sep k) : SubR p q d cp cq cd P W sep (k + 1) := by
  intro v w hv hk hI hJ hD
  unfold RowR at ih
  have h64 := hP.1
  have hkl := kids_len P v
  have hkk : ∀ c ∈ kids P v, P.length ≤ c + k := fun c hc => by have := kid_gt hP hc; omega
  have Hkids := Lib.hid (fun (W1 : World) (hg : Grew w W1) => children_k (cap := cp) (v := (v : Int)) (hI.grew hg) rfl h64)
  have Hrow := Lib.hid (fun (lp : Option Addr) (lc : Nat) (W1 : World) (hg : Grew w W1) (hL : Ints W1 lp (intL (kids P v))) => ih v lp lc W1 (hI.grew hg) (hJ.grew hg) (hD.grew hg) hkk hL)
  have HP := Lib.hid hP
  have HW := Lib.hid hW
  have Hkk := Lib.hid hkk
  have Hst := Lib.hid (rb_start w #[.slice p P.length cp, .slice q P.length cq, .slice d P.length cd, .int .i64 sep] 45)
  clear ih hI hJ hD hkk hP hW
  go_enter Try.func34, Try.ntmps34
  go_upto_region 2 with (go_at_call 16; apply Calls.mono; (with_reducible exact Hkids.out _ (by (repeat (first | exact Grew.refl _ | refine Grew.over ?_ _ | refine Grew.alloc ?_ _ | refine Grew.drew ?_ | refine Grew.drewN ?_ _)))); rintro e w1 ⟨hg1, qK, cK, rfl, hK⟩; have HK := Lib.hid hK; have Hg1 := Lib.hid hg1; clear hK hg1)
  have Hw1 : Hid (Grew w w1) := Lib.hid (Grew.trans (by (repeat (first | exact Grew.refl _ | refine Grew.over ?_ _ | refine Grew.alloc ?_ _ | refine Grew.drew ?_ | refine Grew.drewN ?_ _))) Hg1.out)
  have HR := Lib.hid (Hst.out.grew Hg1.out)
  have hsz1 := Hg1.out.below.size
  simp at hsz1
  have f0 : w1.cell? ⟨w.heap.size, 0, none⟩ = some (.slice p P.length cp) := Hg1.out.cellEq (by first | (go_simp; done) | (simp [go_sem, ↓IntWalk.iteOmega, *]; done))
  have f1 : w1.cell? ⟨w.heap.size, 1, none⟩ = some (.slice q P.length cq) := Hg1.out.cellEq (by first | (go_simp; done) | (simp [go_sem, ↓IntWalk.iteOmega, *]; done))
  have f2 : w1.cell? ⟨w.heap.size, 2, none⟩ = some (.slice d P.length cd) := Hg1.out.cellEq (by first | (go_simp; done) | (simp [go_sem, ↓IntWalk.iteOmega, *]; done))
  have f3 : w1.cell? ⟨w.heap.size, 3, none⟩ = some (.int .i64 sep) := Hg1.out.cellEq (by first | (go_simp; done) | (simp [go_sem, ↓IntWalk.iteOmega, *]; done))
  obtain ⟨gr, cr, er, _, hr2, _, _, nr, mr⟩ := HR.out.some (k := 0) rfl (by omega)
  cases er
  have r0 := mr 0 _ rfl
  have r1 := mr 1 _ rfl
  have r2 := nr 0
  have r3 := nr 1
  clear mr nr
  by_cases hk0 : (kids P v).length = 0
  · have hk1 : (((kids P v).length : Int) == 0) = true := by rw [hk0]; rfl
    have Hleaf : Hid (subD P W sep (k + 1) v = [(v, 0)]) := Lib.hid (subD_leaf (List.length_eq_zero_iff.1 hk0))
    have Hend := Lib.hid (sub_leaf_end (v := v) HR.out Hw1.out)
    clear hk0
    go_wp2
    refine bodyPost_ret (v := .agg #[.slice (some ⟨w1.heap.size, 0, none⟩) 1 1, .slice (some ⟨w1.heap.size + 1, 0, none⟩) 1 1]) (by simp [results, Try.results34, go_sem, ↓IntWalk.iteOmega, r0, r1, r2, r3]) rfl ?_
    rw [Hleaf.out]
    exact ⟨Hend.out.1, _, _, rfl, Hend.out.2⟩
  · have hk1 : (((kids P v).length : Int) == 0) = false := by rw [beq_eq_false_iff_ne]; omega
    have hkp : 0 < (kids P v).length := by omega
    obtain ⟨c, hc0⟩ : ∃ c, (kids P v)[0]? = some c := ⟨_, List.getElem?_eq_getElem (by omega)⟩
    obtain ⟨dl, hc1⟩ : ∃ dl, (kids P v)[(kids P v).length - 1]? = some dl := ⟨_, List.getElem?_eq_getElem (by omega)⟩
    obtain ⟨bK, oK, rfl, lK, cK'⟩ := HK.out.cells (by rw [intL_length]; omega)
    have k0 := cK' w1 (Grew.refl _) 0 (by rw [intL_length]; omega)
    have k1 := cK' w1 (Grew.refl _) ((kids P v).length - 1) (by rw [intL_length]; omega)
    rw [ge_intL' hc0, Nat.add_zero] at k0
    rw [ge_intL' hc1] at k1
    obtain ⟨R, hR⟩ : ∃ R, rowD P W sep (subD P W sep k) (kids P v) = R := ⟨_, rfl⟩
    have hrok := row_ok (W := W) (sep := sep) HP.out Hkk.out
    rw [hR] at hrok
    have hRl : R.length ≤ 64 := hrok.len HP.out (fun c hc => (mem_kids.1 hc).1)
    have hspan := rowD_span HP.out HW.out Hkk.out (fun c hc => subD_span HP.out HW.out k c (mem_kids.1 hc).1 (Hkk.out c hc)) (kids P v).length (Nat.le_refl _)
    rw [List.take_length, hR] at hspan
    have hRb := hrok.bd HP.out (fun c hc => (mem_kids.1 hc).1) HW.out hspan
    obtain ⟨a, ha⟩ := mem_verts.1 ((hrok.vert c).2 ⟨c, List.mem_of_getElem? hc0, Bel.self⟩)
    obtain ⟨b, hb⟩ := mem_verts.1 ((hrok.vert dl).2 ⟨dl, List.mem_of_getElem? hc1, Bel.self⟩)
    have ea := atD_of hrok.nodup ha
    have eb := atD_of hrok.nodup hb
    obtain ⟨_, ha1, ha2⟩ := hRb _ ha
    obtain ⟨_, hb1, hb2⟩ := hRb _ hb
    dsimp only at ha1 ha2 hb1 hb2
    have Hnode : Hid (subD P W sep (k + 1) v = mvD R (-((a + b) / 2)) ++ [(v, 0)]) := Lib.hid (by rw [subD_node hc0 hc1, hR, ea, eb])
    have HRb := Lib.hid hRb
    have Hrow2 := Lib.hid (hR ▸ Hrow.out)
    have Hea := Lib.hid ea
    have Heb := Lib.hid eb
    clear cK' hk0 hc0 hc1 hR hrok hspan hRb ha hb ea eb
    go_upto_region 5 with (go_at_call 25; apply Calls.mono; (with_reducible exact Hrow2.out _ _ _ Hw1.out HK.out); rintro e w2 ⟨hg2, vV, vX, rfl, hO2⟩; obtain ⟨pV, cV, rfl, _, _, _, _, _⟩ := hO2.form (k := 0) rfl; obtain ⟨pX, cX, rfl, _, _, _, _, _⟩ := hO2.form (k := 1) rfl; have HO2 := Lib.hid hO2; have Hg2 := Lib.hid hg2; clear hO2 hg2)
    have HOw := Lib.hid (ro_box2 HR.out (by omega) HO2.out Hg2.out w2.heap.size rfl)
    have Hww : Hid (Grew w1 (w2.alloc (.cells #[.slice pV R.length cV, .slice pX R.length cX] 47))) := Lib.hid (Hg2.out.alloc _)
    obtain ⟨T, hT⟩ : ∃ T, w2.heap.size = T := ⟨_, rfl⟩
    obtain ⟨W2, hW2⟩ : ∃ W2, w2.alloc (.cells #[.slice pV R.length cV, .slice pX R.length cX] 47) = W2 := ⟨_, rfl⟩
    rw [hW2, hT] at HOw
    rw [hW2] at Hww
    rw [hW2, hT]
    clear hW2 hT HO2 Hg2 f0 f1 f2 f3 r0 r1 r2 r3
    have hOw := HOw.out
    have hsw := Hww.out.below.size
    have l0 := Hww.out.cellEq k0
    have l1 := Hww.out.cellEq k1
    obtain ⟨gT, cT, eT, hT1, hT2, _, _, nT, mT⟩ := hOw.some (k := 1) rfl (by omega)
    cases eT
    have y0 := mT 0 _ rfl
    have y1 := mT 1 _ rfl
    have y2 := nT 0
    have y3 := nT 1
    have Iv := hOw.intsOf (k := 2) rfl (vtx_length R) (vtx_wf (fun q hq => (HRb.out q hq).1) (by omega))
    have Ix := hOw.intsOf (k := 3) rfl (posD_length R) (posD_wf (fun q hq => by have := HRb.out q hq; omega))
    have Hat1 := Lib.hid (fun (W1 : World) (hg : Grew W2 W1) => Hea.out ▸ at_r pV pX cV cX R c W1 (Iv.grew hg) (Ix.grew hg) hRl)
    have Hat2 := Lib.hid (fun (W1 : World) (hg : Grew W2 W1) => Heb.out ▸ at_r pV pX cV cX R dl W1 (Iv.grew hg) (Ix.grew hg) hRl)
    have Hdown := Lib.hid (fun (W1 : World) => down_r (a + b) W1 (by omega))
    have Hmv := Lib.hid (fun (W1 : World) (hg : Grew W2 W1) => moved_r pV pX cV cX R (-((a + b) / 2)) W1 (Ix.grew hg) hRl (fun q hq => by have := HRb.out q hq; omega) (by omega))
    have hwl : IntKind.i64.wrap (((kids P v).length : Int) - 1) = ((kids P v).length : Int) - 1 := IntWalk.i64_in _ ⟨by omega, by omega⟩
    have htn : (((kids P v).length : Int) - 1).toNat = (kids P v).length - 1 := by omega
    have hix1 : (1 : Int) ≤ ((kids P v).length : Int) := by omega
    have hix2 : ((kids P v).length : Int) - 1 < ((kids P v).length : Int) := by omega
    have hwab : IntKind.i64.wrap (a + b) = a + b := IntWalk.i64_in _ ⟨by omega, by omega⟩
    have hwn : IntKind.i64.wrap (-((a + b) / 2)) = -((a + b) / 2) := IntWalk.i64_in _ ⟨by omega, by omega⟩
    clear hOw nT mT Iv Ix k0 k1
    refine wp_region_T (s := 18) (S := fun w' => w'.cell? ⟨T, 0, none⟩ = some (.slice pV R.length cV) ∧ w'.cell? ⟨T, 1, none⟩ = some (.slice pX R.length cX) ∧ w'.cell? ⟨bK, oK, none⟩ = some (.int .i64 c) ∧ w'.cell? ⟨bK, oK + ((kids P v).length - 1), none⟩ = some (.int .i64 dl)) (by kernel_rfl) ⟨y0, y1, l0, l1⟩ (fun hH => ?_)
    refine wpAnyT_takeL (i := 0) (v := ?_) rfl (by kernel_rfl) (by kernel_rfl) (by kernel_rfl) (by kernel_rfl) (fun _ _ _ h => h) (Or.inl ⟨by rfl, ?_⟩) (by assumption) ?_
    rotate_left
    · (intro w hSw; (try dsimp only at hSw); go_simp; (try with_reducible rfl))
    (try simp only [Act.put, List.setIfInBounds_toArray, List.set_cons_zero, List.set_cons_succ])
    refine wpAnyT_takeL (i := 1) (v := ?_) rfl (by kernel_rfl) (by kernel_rfl) (by kernel_rfl) (by kernel_rfl) (fun _ _ _ h => h) (Or.inl ⟨by rfl, ?_⟩) (by assumption) ?_
    rotate_left
    · (intro w hSw; (try dsimp only at hSw); go_simp; (try with_reducible rfl))
    (try simp only [Act.put, List.setIfInBounds_toArray, List.set_cons_zero, List.set_cons_succ])
    refine wpAnyT_takeL (i := 2) (v := ?_) rfl (by kernel_rfl) (by kernel_rfl) (by kernel_rfl) (by kernel_rfl) (fun _ _ _ h => h) (Or.inl ⟨by rfl, ?_⟩) (by assumption) ?_
    rotate_left
    · (intro w hSw; (try dsimp only at hSw); go_simp; (try with_reducible rfl))
    (try simp only [Act.put, List.setIfInBounds_toArray, List.set_cons_zero, List.set_cons_succ])
    refine wpAnyT_takeL (i := 3) (v := ?_) rfl (by kernel_rfl) (by kernel_rfl) (by kernel_rfl) (by kernel_rfl) (fun _ _ _ h => h) (Or.inl ⟨by rfl, ?_⟩) (by assumption) ?_
    rotate_left
    · (intro w hSw; (try dsimp only at hSw); go_simp; (try with_reducible rfl))
    (try simp only [Act.put, List.setIfInBounds_toArray, List.set_cons_zero, List.set_cons_succ])
    refine wpAnyT_takeL (i := 4) (v := ?_) rfl (by kernel_rfl) (by kernel_rfl) (by kernel_rfl) (by kernel_rfl) (fun _ _ _ h => h) (Or.inl ⟨by rfl, ?_⟩) (by assumption) ?_
    rotate_left
    · (intro w hSw; (try dsimp only at hSw); go_simp; (try with_reducible rfl))
    (try simp only [Act.put, List.setIfInBounds_toArray, List.set_cons_zero, List.set_cons_succ])
    refine wpAnyT_takeL (i := 6) (v := ?_) rfl (by kernel_rfl) (by kernel_rfl) (by kernel_rfl) (by kernel_rfl) (fun _ _ _ h => h) (Or.inl ⟨by rfl, ?_⟩) (by assumption) ?_
    rotate_left
    · (intro w hSw; (try dsimp only at hSw); go_simp; (try with_reducible rfl))
    (try simp only [Act.put, List.setIfInBounds_toArray, List.set_cons_zero, List.set_cons_succ])
    refine wpAnyT_takeL (i := 7) (v := ?_) rfl (by kernel_rfl) (by kernel_rfl) (by kernel_rfl) (by kernel_rfl) (fun _ _ _ h => h) (Or.inl ⟨by rfl, ?_⟩) (by assumption) ?_
    rotate_left
    · (intro w hSw; (try dsimp only at hSw); go_simp; (try with_reducible rfl))
    (try simp only [Act.put, List.setIfInBounds_toArray, List.set_cons_zero, List.set_cons_succ])
    refine wpAnyT_takeL (i := 8) (v := ?_) rfl (by kernel_rfl) (by kernel_rfl) (by kernel_rfl) (by kernel_rfl) (fun _ _ _ h => h) (Or.inl ⟨by rfl, ?_⟩) (by assumption) ?_
    rotate_left
    · (intro w hSw; (try dsimp only at hSw); go_simp; (try with_reducible rfl))
    (try simp only [Act.put, List.setIfInBounds_toArray, List.set_cons_zero, List.set_cons_succ])
    refine wpAnyT_takeL (i := 9) (v := ?_) rfl (by kernel_rfl) (by kernel_rfl) (by kernel_rfl) (by kernel_rfl) (fun _ _ _ h => h) (Or.inl ⟨by rfl, ?_⟩) (by assumption) ?_
    rotate_left
    · (intro w hSw; (try dsimp only at hSw); go_simp; (try with_reducible rfl))
    (try simp only [Act.put, List.setIfInBounds_toArray, List.set_cons_zero, List.set_cons_succ])
    refine wpAnyT_takeL (i := 10) (v := ?_) rfl (by kernel_rfl) (by kernel_rfl) (by kernel_rfl) (by kernel_rfl) (fun _ _ _ h => h) (Or.inl ⟨by rfl, ?_⟩) (by assumption) ?_
    rotate_left
    · (intro w hSw; (try dsimp only at hSw); go_simp; (try with_reducible rfl))
    (try simp only [Act.put, List.setIfInBounds_toArray, List.set_cons_zero, List.set_cons_succ])
    refine wpAnyT_takeL (i := 11) (v := ?_) rfl (by kernel_rfl) (by kernel_rfl) (by kernel_rfl) (by kernel_rfl) (fun _ _ _ h => h) (Or.inl ⟨by rfl, ?_⟩) (by assumption) ?_
    rotate_left
    · (intro w hSw; (try dsimp only at hSw); go_simp; (try with_reducible rfl))
    (try simp only [Act.put, List.setIfInBounds_toArray, List.set_cons_zero, List.set_cons_succ])
    refine wpAnyT_takeL (i := 12) (v := ?_) rfl (by kernel_rfl) (by kernel_rfl) (by kernel_rfl) (by kernel_rfl) (fun _ _ _ h => h) (Or.inl ⟨by rfl, ?_⟩) (by assumption) ?_
    rotate_left
    · (intro w hSw; (try dsimp only at hSw); go_simp; (try with_reducible rfl))
    (try simp only [Act.put, List.setIfInBounds_toArray, List.set_cons_zero, List.set_cons_succ])
    refine wpAnyT_all (rs := [5]) (by kernel_rfl) (by simp) (AllT.consL (i := 5) rfl (fun K hK => ?_) AllT.nil)
    go_simp; go_wp2_with (go_at_call 42; apply Calls.mono; (with_reducible exact Hat1.out _ (by (repeat (first | exact Grew.refl _ | refine Grew.over ?_ _ | refine Grew.alloc ?_ _ | refine Grew.drew ?_ | refine Grew.drewN ?_ _)))); rintro e w3 ⟨rfl, x3, rfl⟩)
    refine hK.out _ _ ?_ (fun hH => ?_)
    · (first | (simp [go_sem, ↓IntWalk.iteOmega, *]; done) | go_keep)
    clear hK K
    (try simp only [Act.put, List.setIfInBounds_toArray, List.set_cons_zero, List.set_cons_succ])
    refine wpAnyT_all (rs := [13]) (by kernel_rfl) (by simp) (AllT.consL (i := 13) rfl (fun K hK => ?_) AllT.nil)
    go_simp; go_wp2_with (go_at_call 42; apply Calls.mono; (with_reducible exact Hat2.out _ (by (repeat (first | exact Grew.refl _ | refine Grew.over ?_ _ | refine Grew.alloc ?_ _ | refine Grew.drew ?_ | refine Grew.drewN ?_ _)))); rintro e w4 ⟨rfl, x4, rfl⟩)
    refine hK.out _ _ ?_ (fun hH => ?_)
    · (first | (simp [go_sem, ↓IntWalk.iteOmega, *]; done) | go_keep)
    clear hK K
    (try simp only [Act.put, List.setIfInBounds_toArray, List.set_cons_zero, List.set_cons_succ])
    refine wpAnyT_takeL (i := 14) (v := ?_) rfl (by kernel_rfl) (by kernel_rfl) (by kernel_rfl) (by kernel_rfl) (fun _ _ _ h => h) (Or.inl ⟨by rfl, ?_⟩) (by assumption) ?_
    rotate_left
    · (intro w hSw; (try dsimp only at hSw); go_simp; (try with_reducible rfl))
    (try simp only [Act.put, List.setIfInBounds_toArray, List.set_cons_zero, List.set_cons_succ])
    refine wpAnyT_all (rs := [15]) (by kernel_rfl) (by simp) (AllT.consL (i := 15) rfl (fun K hK => ?_) AllT.nil)
    go_simp; go_wp2_with (go_at_call 41; apply Calls.mono; (with_reducible exact Hdown.out _); rintro e w5 ⟨rfl, rfl⟩)
    refine hK.out _ _ ?_ (fun hH => ?_)
    · (first | (simp [go_sem, ↓IntWalk.iteOmega, *]; done) | go_keep)
    clear hK K
    (try simp only [Act.put, List.setIfInBounds_toArray, List.set_cons_zero, List.set_cons_succ])
    refine wpAnyT_takeL (i := 16) (v := ?_) rfl (by kernel_rfl) (by kernel_rfl) (by kernel_rfl) (by kernel_rfl) (fun _ _ _ h => h) (Or.inl ⟨by rfl, ?_⟩) (by assumption) ?_
    rotate_left
    · (intro w hSw; (try dsimp only at hSw); go_simp; (try with_reducible rfl))
    (try simp only [Act.put, List.setIfInBounds_toArray, List.set_cons_zero, List.set_cons_succ])
    refine wpAnyT_all (rs := [17]) (by kernel_rfl) (by simp) (AllT.consL (i := 17) rfl (fun K hK => ?_) AllT.nil)
    go_simp; go_wp2_with (go_at_call 35; apply Calls.mono; (with_reducible exact Hmv.out _ (by (repeat (first | exact Grew.refl _ | refine Grew.over ?_ _ | refine Grew.alloc ?_ _ | refine Grew.drew ?_ | refine Grew.drewN ?_ _)))); rintro e w6 ⟨hg6, vX2, rfl, hO6⟩; obtain ⟨pX2, cX2, rfl, _, _, _, _, _⟩ := hO6.form (k := 0) rfl; have hgw : Grew W2 w6 := Grew.trans (by (repeat (first | exact Grew.refl _ | refine Grew.over ?_ _ | refine Grew.alloc ?_ _ | refine Grew.drew ?_ | refine Grew.drewN ?_ _))) hg6; have q0 := hgw.cellEq y0; have q1 := hgw.cellEq y1; have q2 := hgw.frozenEq hT2 y2; have q3 := hgw.frozenEq hT2 y3; have q4 := hgw.cellEq l0; have q5 := hgw.cellEq l1; have HO6 := Lib.hid hO6; have Hg6 := Lib.hid hg6; have Hgw6 := Lib.hid hgw; clear hO6 hg6 hgw)
    refine hK.out _ _ ?_ (fun hH => ?_)
    · (first | (simp [go_sem, ↓IntWalk.iteOmega, *]; done) | go_keep)
    clear hK K
    (try simp only [Act.put, List.setIfInBounds_toArray, List.set_cons_zero, List.set_cons_succ])
    clear y0 y1 y2 y3 l0 l1 hwl htn hwab hwn
    refine wpAnyT_all (rs := [18]) (by kernel_rfl) (by simp) (AllT.lastL rfl (fun K hK => ?_))
    go_simp
    refine hK.out _ _ ?_
    clear hK K
    (try simp only [Act.put, List.setIfInBounds_toArray, List.set_cons_zero, List.set_cons_succ])
    refine wpAnyT_done (by kernel_rfl) ?_ _
    have h1 := (HOw.out.grew (by (repeat (first | exact Grew.refl _ | refine Grew.over ?_ _ | refine Grew.alloc ?_ _ | refine Grew.drew ?_ | refine Grew.drewN ?_ _)) : Grew W2 (over (over W2.drew x3) x4))).join HO6.out Hg6.out (by have := (show Grew W2 (over (over W2.drew x3) x4) by (repeat (first | exact Grew.refl _ | refine Grew.over ?_ _ | refine Grew.alloc ?_ _ | refine Grew.drew ?_ | refine Grew.drewN ?_ _))).below.size; omega)
    have h2 := (h1.set (k := 1) rfl 0 (.slice pV R.length cV)).set (k := 1) rfl 1 (.slice pX2 R.length cX2)
    have h3 := Owns.setGrew h1 (Nat.le_refl _) ((Hw1.out.trans Hww.out).trans Hgw6.out) (k := 1) rfl 0 (.slice pV R.length cV)
    have h4 := Owns.setGrew (h1.set (k := 1) rfl 0 (.slice pV R.length cV)) (Nat.le_refl _) h3 (k := 1) rfl 1 (.slice pX2 R.length cX2)
    have HO5 := Lib.hid h2
    have HG5 := Lib.hid h4
    clear h1 h2 h3 h4 q0 q1 q2 q3 q4 q5
    obtain ⟨W5, hW5⟩ : ∃ W5, ((w6.setCell ⟨T, 0, none⟩ (.slice pV R.length cV)).setCell ⟨T, 1, none⟩ (.slice pX2 R.length cX2)) = W5 := ⟨_, rfl⟩
    rw [hW5] at HO5 HG5 ⊢
    clear hW5
    obtain ⟨gT, cT, eT, _, kT', _, _, _, mT⟩ := HO5.out.some (k := 1) rfl (by omega)
    cases eT
    obtain ⟨g2, c2, e2, _, k2', _, _, n2, m2⟩ := HO5.out.some (k := 0) rfl (by omega)
    cases e2
    have u0 := mT 0 _ rfl
    have u1 := mT 1 _ rfl
    have hs5 := HG5.out.below.size
    clear mT n2 m2
    go_upto_region 6 with fail
    refine wp_region_T (s := 10) (S := fun w' => w'.cell? ⟨T, 0, none⟩ = some (.slice pV R.length cV) ∧ w'.cell? ⟨T, 1, none⟩ = some (.slice pX2 R.length cX2)) (by kernel_rfl) ⟨u0, u1⟩ (fun hH => ?_)
    refine wpAnyT_takeL (i := 0) (v := ?_) rfl (by kernel_rfl) (by kernel_rfl) (by kernel_rfl) (by kernel_rfl) (fun _ _ _ h => h) (Or.inl ⟨by rfl, ?_⟩) (by assumption) ?_
    rotate_left
    · (intro w hSw; (try dsimp only at hSw); go_simp; (try with_reducible rfl))
    (try simp only [Act.put, List.setIfInBounds_toArray, List.set_cons_zero, List.set_cons_succ])
    refine wpAnyT_takeL (i := 1) (v := ?_) rfl (by kernel_rfl) (by kernel_rfl) (by kernel_rfl) (by kernel_rfl) (fun _ _ _ h => h) (Or.inl ⟨by rfl, ?_⟩) (by assumption) ?_
    rotate_left
    · (intro w hSw; (try dsimp only at hSw); go_simp; (try with_reducible rfl))
    (try simp only [Act.put, List.setIfInBounds_toArray, List.set_cons_zero, List.set_cons_succ])
    refine wpAnyT_takeL (i := 2) (v := ?_) rfl (by kernel_rfl) (by kernel_rfl) (by kernel_rfl) (by kernel_rfl) (fun _ _ _ h => h) (Or.inl ⟨by rfl, ?_⟩) (by assumption) ?_
    rotate_left
    · (intro w hSw; (try dsimp only at hSw); go_simp; (try with_reducible rfl))
    (try simp only [Act.put, List.setIfInBounds_toArray, List.set_cons_zero, List.set_cons_succ])
    refine wpAnyT_takeL (i := 5) (v := ?_) rfl (by kernel_rfl) (by kernel_rfl) (by kernel_rfl) (by kernel_rfl) (fun _ _ _ h => h) (Or.inl ⟨by rfl, ?_⟩) (by assumption) ?_
    rotate_left
    · (intro w hSw; (try dsimp only at hSw); go_simp; (try with_reducible rfl))
    (try simp only [Act.put, List.setIfInBounds_toArray, List.set_cons_zero, List.set_cons_succ])
    refine wpAnyT_takeL (i := 6) (v := ?_) rfl (by kernel_rfl) (by kernel_rfl) (by kernel_rfl) (by kernel_rfl) (fun _ _ _ h => h) (Or.inl ⟨by rfl, ?_⟩) (by assumption) ?_
    rotate_left
    · (intro w hSw; (try dsimp only at hSw); go_simp; (try with_reducible rfl))
    (try simp only [Act.put, List.setIfInBounds_toArray, List.set_cons_zero, List.set_cons_succ])
    refine wpAnyT_all (rs := [3, 7]) (by kernel_rfl) (by simp) (AllT.consL (i := 3) rfl (fun K hK => ?_) (AllT.consL (i := 7) rfl (fun K hK => ?_) AllT.nil))
    · go_simp
      refine hK.out _ _ ?_ (fun hH => ?_)
      · (first | (simp [go_sem, ↓IntWalk.iteOmega, *]; done) | go_keep)
      clear hK K
      (try simp only [Act.put, List.setIfInBounds_toArray, List.set_cons_zero, List.set_cons_succ])
      refine wpAnyT_all (rs := [4, 7]) (by kernel_rfl) (by simp) (AllT.consL (i := 4) rfl (fun K hK => ?_) (AllT.consL (i := 7) rfl (fun K hK => ?_) AllT.nil))
      · refine step_append_owns rfl _ _ 22 (by rfl) 3 1 8 (.int .i64 0) Try.underlying22 Try.infoInt rfl (by decide) w.heap.size _ 2 _ _ _ (HO5.out.grew (by (repeat (first | exact Grew.refl _ | refine Grew.over ?_ _ | refine Grew.alloc ?_ _ | refine Grew.drew ?_ | refine Grew.drewN ?_ _)))) rfl (by rfl) _ 1 1 (by rfl) [.int .i64 (v : Int)] rfl (fun h => by cases h) (one_news _ (by (simp [go_sem, ↓IntWalk.iteOmega]))) (by simp [Value.oneCell']) (by simp only [maxLen]; omega) (by omega) (by first | rfl | omega | (simp <;> omega)) ?_
        intro v1 wa hO6 hg6 hb1 _
        obtain ⟨pV1, cV1, rfl, _, _, _, _, _⟩ := hO6.form (k := 2) rfl
        obtain ⟨gT, cT, eT, _, kT', _, _, _, mT⟩ := hO6.some (k := 1) rfl (by omega)
        cases eT
        obtain ⟨g2, c2, e2, _, k2', _, _, n2, m2⟩ := hO6.some (k := 0) rfl (by omega)
        cases e2
        have q0 := mT 0 _ rfl
        have q1 := mT 1 _ rfl
        have q2 := m2 0 _ rfl
        have q3 := m2 1 _ rfl
        have q4 := n2 0
        have q5 := n2 1
        have hG6 : Grew w wa := Grew.grownBy (w0 := w) (HG5.out.trans (by (repeat (first | exact Grew.refl _ | refine Grew.over ?_ _ | refine Grew.alloc ?_ _ | refine Grew.drew ?_ | refine Grew.drewN ?_ _)))) hg6 hb1
        have hsz6 := hg6.size
        simp at hsz6
        refine hK.out _ _ ⟨q0, q1⟩ (fun hH => ?_)
        clear hK K mT m2 n2
        (try simp only [Act.put, List.setIfInBounds_toArray, List.set_cons_zero, List.set_cons_succ])
        refine wpAnyT_all (rs := [7]) (by kernel_rfl) (by simp) (AllT.consL (i := 7) rfl (fun K hK => ?_) AllT.nil)
        go_simp
        refine hK.out _ _ ?_ (fun hH => ?_)
        · (first | (simp [go_sem, ↓IntWalk.iteOmega, *]; done) | go_keep)
        clear hK K
        (try simp only [Act.put, List.setIfInBounds_toArray, List.set_cons_zero, List.set_cons_succ])
        refine wpAnyT_all (rs := [8]) (by kernel_rfl) (by simp) (AllT.consL (i := 8) rfl (fun K hK => ?_) AllT.nil)
        refine step_append_owns rfl _ _ 22 (by rfl) 3 1 8 (.int .i64 0) Try.underlying22 Try.infoInt rfl (by decide) w.heap.size _ 4 _ _ _ (hO6.grew (by (repeat (first | exact Grew.refl _ | refine Grew.over ?_ _ | refine Grew.alloc ?_ _ | refine Grew.drew ?_ | refine Grew.drewN ?_ _)))) rfl (by rfl) _ 1 1 (by rfl) [.int .i64 0] rfl (fun h => by cases h) (one_news _ (by (simp [go_sem, ↓IntWalk.iteOmega]))) (by simp [Value.oneCell']) (by simp only [maxLen]; omega) (by omega) (by first | rfl | omega | (simp <;> omega)) ?_
        intro v2 wb hO7 hg7 hb1 _
        obtain ⟨pX1, cX1, rfl, _, _, _, _, _⟩ := hO7.form (k := 4) rfl
        obtain ⟨gT, cT, eT, _, kT', _, _, _, mT⟩ := hO7.some (k := 1) rfl (by omega)
        cases eT
        obtain ⟨g2, c2, e2, _, k2', _, _, n2, m2⟩ := hO7.some (k := 0) rfl (by omega)
        cases e2
        have q0 := mT 0 _ rfl
        have q1 := mT 1 _ rfl
        have q2 := m2 0 _ rfl
        have q3 := m2 1 _ rfl
        have q4 := n2 0
        have q5 := n2 1
        have hG7 : Grew w wb := Grew.grownBy (w0 := w) (hG6.trans (by (repeat (first | exact Grew.refl _ | refine Grew.over ?_ _ | refine Grew.alloc ?_ _ | refine Grew.drew ?_ | refine Grew.drewN ?_ _)))) hg7 hb1
        have HO7 := Lib.hid hO7
        have HG7 := Lib.hid hG7
        refine hK.out _ _ ⟨q0, q1⟩ (fun hH => ?_)
        clear hK K mT m2 n2
        (try simp only [Act.put, List.setIfInBounds_toArray, List.set_cons_zero, List.set_cons_succ])
        refine wpAnyT_takeL (i := 9) (v := ?_) rfl (by kernel_rfl) (by kernel_rfl) (by kernel_rfl) (by kernel_rfl) (fun _ _ _ h => h) (Or.inl ⟨by rfl, ?_⟩) (by assumption) ?_
        rotate_left
        · (intro w hSw; (try dsimp only at hSw); go_simp; (try with_reducible rfl))
        (try simp only [Act.put, List.setIfInBounds_toArray, List.set_cons_zero, List.set_cons_succ])
        refine wpAnyT_all (rs := [10]) (by kernel_rfl) (by simp) (AllT.lastL rfl (fun K hK => ?_))
        go_simp
        refine hK.out _ _ ?_
        clear hK K
        (try simp only [Act.put, List.setIfInBounds_toArray, List.set_cons_zero, List.set_cons_succ])
        refine wpAnyT_done (by kernel_rfl) ?_ _
        go_wp2
        refine bodyPost_ret (v := .agg #[.slice pV1 (R.length + 1) cV1, .slice pX1 (R.length + 1) cX1]) (by simp [results, Try.results34, go_sem, ↓IntWalk.iteOmega, q2, q3, q4, q5]) rfl ?_
        rw [Hnode.out]
        have hE := su_end (R := R) (b := -((a + b) / 2)) (v := v) HG7.out HO7.out
        exact ⟨hE.1, _, _, rfl, hE.2⟩
      · go_simp
        refine hK.out _ _ ?_ (fun hH => ?_)
        · (first | (simp [go_sem, ↓IntWalk.iteOmega, *]; done) | go_keep)
        clear hK K
        (try simp only [Act.put, List.setIfInBounds_toArray, List.set_cons_zero, List.set_cons_succ])
        refine wpAnyT_all (rs := [4]) (by kernel_rfl) (by simp) (AllT.consL (i := 4) rfl (fun K hK => ?_) AllT.nil)
        refine step_append_owns rfl _ _ 22 (by rfl) 3 1 8 (.int .i64 0) Try.underlying22 Try.infoInt rfl (by decide) w.heap.size _ 2 _ _ _ (HO5.out.grew (by (repeat (first | exact Grew.refl _ | refine Grew.over ?_ _ | refine Grew.alloc ?_ _ | refine Grew.drew ?_ | refine Grew.drewN ?_ _)))) rfl (by rfl) _ 1 1 (by rfl) [.int .i64 (v : Int)] rfl (fun h => by cases h) (one_news _ (by (simp [go_sem, ↓IntWalk.iteOmega]))) (by simp [Value.oneCell']) (by simp only [maxLen]; omega) (by omega) (by first | rfl | omega | (simp <;> omega)) ?_
        intro v1 wa hO6 hg6 hb1 _
        obtain ⟨pV1, cV1, rfl, _, _, _, _, _⟩ := hO6.form (k := 2) rfl
        obtain ⟨gT, cT, eT, _, kT', _, _, _, mT⟩ := hO6.some (k := 1) rfl (by omega)
        cases eT
        obtain ⟨g2, c2, e2, _, k2', _, _, n2, m2⟩ := hO6.some (k := 0) rfl (by omega)
        cases e2
        have q0 := mT 0 _ rfl
        have q1 := mT 1 _ rfl
        have q2 := m2 0 _ rfl
        have q3 := m2 1 _ rfl
        have q4 := n2 0
        have q5 := n2 1
        have hG6 : Grew w wa := Grew.grownBy (w0 := w) (HG5.out.trans (by (repeat (first | exact Grew.refl _ | refine Grew.over ?_ _ | refine Grew.alloc ?_ _ | refine Grew.drew ?_ | refine Grew.drewN ?_ _)))) hg6 hb1
        have hsz6 := hg6.size
        simp at hsz6
        have zc := grownBy_cell hg6 (b := W5.heap.size + 1) 0 (by first | rfl | omega | (simp <;> omega)) (fun g hg => by have := ((HO5.out.1 2 _ rfl).lt g hg).2; omega)
        simp [go_sem, ↓IntWalk.iteOmega] at zc
        refine hK.out _ _ ⟨q0, q1⟩ (fun hH => ?_)
        clear hK K mT m2 n2
        (try simp only [Act.put, List.setIfInBounds_toArray, List.set_cons_zero, List.set_cons_succ])
        refine wpAnyT_all (rs := [8]) (by kernel_rfl) (by simp) (AllT.consL (i := 8) rfl (fun K hK => ?_) AllT.nil)
        refine step_append_owns rfl _ _ 22 (by rfl) 3 1 8 (.int .i64 0) Try.underlying22 Try.infoInt rfl (by decide) w.heap.size _ 4 _ _ _ hO6 rfl (by rfl) _ 1 1 (by rfl) [.int .i64 0] rfl (fun h => by cases h) (one_news _ zc) (by simp [Value.oneCell']) (by simp only [maxLen]; omega) (by omega) (by first | rfl | omega | (simp <;> omega)) ?_
        intro v2 wb hO7 hg7 hb1 _
        obtain ⟨pX1, cX1, rfl, _, _, _, _, _⟩ := hO7.form (k := 4) rfl
        obtain ⟨gT, cT, eT, _, kT', _, _, _, mT⟩ := hO7.some (k := 1) rfl (by omega)
        cases eT
        obtain ⟨g2, c2, e2, _, k2', _, _, n2, m2⟩ := hO7.some (k := 0) rfl (by omega)
        cases e2
        have q0 := mT 0 _ rfl
        have q1 := mT 1 _ rfl
        have q2 := m2 0 _ rfl
        have q3 := m2 1 _ rfl
        have q4 := n2 0
        have q5 := n2 1
        have hG7 : Grew w wb := Grew.grownBy (w0 := w) (hG6) hg7 hb1
        have HO7 := Lib.hid hO7
        have HG7 := Lib.hid hG7
        refine hK.out _ _ ⟨q0, q1⟩ (fun hH => ?_)
        clear hK K mT m2 n2
        (try simp only [Act.put, List.setIfInBounds_toArray, List.set_cons_zero, List.set_cons_succ])
        refine wpAnyT_takeL (i := 9) (v := ?_) rfl (by kernel_rfl) (by kernel_rfl) (by kernel_rfl) (by kernel_rfl) (fun _ _ _ h => h) (Or.inl ⟨by rfl, ?_⟩) (by assumption) ?_
        rotate_left
        · (intro w hSw; (try dsimp only at hSw); go_simp; (try with_reducible rfl))
        (try simp only [Act.put, List.setIfInBounds_toArray, List.set_cons_zero, List.set_cons_succ])
        refine wpAnyT_all (rs := [10]) (by kernel_rfl) (by simp) (AllT.lastL rfl (fun K hK => ?_))
        go_simp
        refine hK.out _ _ ?_
        clear hK K
        (try simp only [Act.put, List.setIfInBounds_toArray, List.set_cons_zero, List.set_cons_succ])
        refine wpAnyT_done (by kernel_rfl) ?_ _
        go_wp2
        refine bodyPost_ret (v := .agg #[.slice pV1 (R.length + 1) cV1, .slice pX1 (R.length + 1) cX1]) (by simp [results, Try.results34, go_sem, ↓IntWalk.iteOmega, q2, q3, q4, q5]) rfl ?_
        rw [Hnode.out]
        have hE := su_end (R := R) (b := -((a + b) / 2)) (v := v) HG7.out HO7.out
        exact ⟨hE.1, _, _, rfl, hE.2⟩
    · go_simp
      refine hK.out _ _ ?_ (fun hH => ?_)
      · (first | (simp [go_sem, ↓IntWalk.iteOmega, *]; done) | go_keep)
      clear hK K
      (try simp only [Act.put, List.setIfInBounds_toArray, List.set_cons_zero, List.set_cons_succ])
      refine wpAnyT_all (rs := [3]) (by kernel_rfl) (by simp) (AllT.consL (i := 3) rfl (fun K hK => ?_) AllT.nil)
      go_simp
      refine hK.out _ _ ?_ (fun hH => ?_)
      · (first | (simp [go_sem, ↓IntWalk.iteOmega, *]; done) | go_keep)
      clear hK K
      (try simp only [Act.put, List.setIfInBounds_toArray, List.set_cons_zero, List.set_cons_succ])
      refine wpAnyT_all (rs := [4]) (by kernel_rfl) (by simp) (AllT.consL (i := 4) rfl (fun K hK => ?_) AllT.nil)
      refine step_append_owns rfl _ _ 22 (by rfl) 3 1 8 (.int .i64 0) Try.underlying22 Try.infoInt rfl (by decide) w.heap.size _ 2 _ _ _ (HO5.out.grew (by (repeat (first | exact Grew.refl _ | refine Grew.over ?_ _ | refine Grew.alloc ?_ _ | refine Grew.drew ?_ | refine Grew.drewN ?_ _)))) rfl (by rfl) _ 1 1 (by rfl) [.int .i64 (v : Int)] rfl (fun h => by cases h) (one_news _ (by (simp [go_sem, ↓IntWalk.iteOmega]))) (by simp [Value.oneCell']) (by simp only [maxLen]; omega) (by omega) (by first | rfl | omega | (simp <;> omega)) ?_
      intro v1 wa hO6 hg6 hb1 _
      obtain ⟨pV1, cV1, rfl, _, _, _, _, _⟩ := hO6.form (k := 2) rfl
      obtain ⟨gT, cT, eT, _, kT', _, _, _, mT⟩ := hO6.some (k := 1) rfl (by omega)
      cases eT
      obtain ⟨g2, c2, e2, _, k2', _, _, n2, m2⟩ := hO6.some (k := 0) rfl (by omega)
      cases e2
      have q0 := mT 0 _ rfl
      have q1 := mT 1 _ rfl
      have q2 := m2 0 _ rfl
      have q3 := m2 1 _ rfl
      have q4 := n2 0
      have q5 := n2 1
      have hG6 : Grew w wa := Grew.grownBy (w0 := w) (HG5.out.trans (by (repeat (first | exact Grew.refl _ | refine Grew.over ?_ _ | refine Grew.alloc ?_ _ | refine Grew.drew ?_ | refine Grew.drewN ?_ _)))) hg6 hb1
      have hsz6 := hg6.size
      simp at hsz6
      have zc := grownBy_cell hg6 (b := W5.heap.size) 0 (by first | rfl | omega | (simp <;> omega)) (fun g hg => by have := ((HO5.out.1 2 _ rfl).lt g hg).2; omega)
      simp [go_sem, ↓IntWalk.iteOmega] at zc
      refine hK.out _ _ ⟨q0, q1⟩ (fun hH => ?_)
      clear hK K mT m2 n2
      (try simp only [Act.put, List.setIfInBounds_toArray, List.set_cons_zero, List.set_cons_succ])
      refine wpAnyT_all (rs := [8]) (by kernel_rfl) (by simp) (AllT.consL (i := 8) rfl (fun K hK => ?_) AllT.nil)
      refine step_append_owns rfl _ _ 22 (by rfl) 3 1 8 (.int .i64 0) Try.underlying22 Try.infoInt rfl (by decide) w.heap.size _ 4 _ _ _ hO6 rfl (by rfl) _ 1 1 (by rfl) [.int .i64 0] rfl (fun h => by cases h) (one_news _ zc) (by simp [Value.oneCell']) (by simp only [maxLen]; omega) (by omega) (by first | rfl | omega | (simp <;> omega)) ?_
      intro v2 wb hO7 hg7 hb1 _
      obtain ⟨pX1, cX1, rfl, _, _, _, _, _⟩ := hO7.form (k := 4) rfl
      obtain ⟨gT, cT, eT, _, kT', _, _, _, mT⟩ := hO7.some (k := 1) rfl (by omega)
      cases eT
      obtain ⟨g2, c2, e2, _, k2', _, _, n2, m2⟩ := hO7.some (k := 0) rfl (by omega)
      cases e2
      have q0 := mT 0 _ rfl
      have q1 := mT 1 _ rfl
      have q2 := m2 0 _ rfl
      have q3 := m2 1 _ rfl
      have q4 := n2 0
      have q5 := n2 1
      have hG7 : Grew w wb := Grew.grownBy (w0 := w) (hG6) hg7 hb1
      have HO7 := Lib.hid hO7
      have HG7 := Lib.hid hG7
      refine hK.out _ _ ⟨q0, q1⟩ (fun hH => ?_)
      clear hK K mT m2 n2
      (try simp only [Act.put, List.setIfInBounds_toArray, List.set_cons_zero, List.set_cons_succ])
      refine wpAnyT_takeL (i := 9) (v := ?_) rfl (by kernel_rfl) (by kernel_rfl) (by kernel_rfl) (by kernel_rfl) (fun _ _ _ h => h) (Or.inl ⟨by rfl, ?_⟩) (by assumption) ?_
      rotate_left
      · (intro w hSw; (try dsimp only at hSw); go_simp; (try with_reducible rfl))
      (try simp only [Act.put, List.setIfInBounds_toArray, List.set_cons_zero, List.set_cons_succ])
      refine wpAnyT_all (rs := [10]) (by kernel_rfl) (by simp) (AllT.lastL rfl (fun K hK => ?_))
      go_simp
      refine hK.out _ _ ?_
      clear hK K
      (try simp only [Act.put, List.setIfInBounds_toArray, List.set_cons_zero, List.set_cons_succ])
      refine wpAnyT_done (by kernel_rfl) ?_ _
      go_wp2
      refine bodyPost_ret (v := .agg #[.slice pV1 (R.length + 1) cV1, .slice pX1 (R.length + 1) cX1]) (by simp [results, Try.results34, go_sem, ↓IntWalk.iteOmega, q2, q3, q4, q5]) rfl ?_
      rw [Hnode.out]
      have hE := su_end (R := R) (b := -((a + b) / 2)) (v := v) HG7.out HO7.out
      exact ⟨hE.1, _, _, rfl, hE.2⟩

end Go.Proofs.Ytgodoeefgmfpfaa
