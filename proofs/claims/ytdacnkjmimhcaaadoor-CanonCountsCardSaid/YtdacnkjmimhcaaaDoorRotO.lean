/- Faces of the reference. -/
import Derived.Test.YtdacnkjmimhcaaaDoorRotK
set_option linter.unusedSimpArgs false
set_option linter.unusedVariables false
namespace Go.Proofs.YtdacnkjmimhcaaaDoor
open Go.RowKit
attribute [local go_sem ↓] Go.wp_at_zero Go.wp_at_succ

theorem Owns.join {w w' : World} {B : Nat} {xs ys : List Row} (h : Owns w B xs) (h2 : Owns w' w.heap.size ys) (hg : Grew w w') (hB : B ≤ w.heap.size) : Owns w' B (xs ++ ys) := by
  have h' := h.grew hg
  rw [owns_iff] at h' ⊢
  have h3 := (h2.base hB)
  rw [owns_iff] at h3
  refine ⟨fun r hr => (List.mem_append.1 hr).elim (h'.1 r) (h3.1 r), List.pairwise_append.2 ⟨h'.2, h3.2, fun a ha b hb g e1 e2 => ?_⟩⟩
  obtain ⟨i, hi, rfl⟩ := List.getElem_of_mem ha
  obtain ⟨j, hj, rfl⟩ := List.getElem_of_mem hb
  have f1 := ((h.1 i _ (List.getElem?_eq_getElem hi)).lt g e1).2
  have f2 := ((h2.1 j _ (List.getElem?_eq_getElem hj)).lt g e2).1
  omega

theorem faceN_in {f : Int → Int} {n : Nat} {S : List Int} {x : Int} (h : x ∈ S) : faceN f n S x = [] := by
  cases n with
  | zero => rfl
  | succ n => rw [faceN, if_pos h]
def frRows (B M : Nat) (F : List Int) (qF : Option Addr) (cF : Nat) (S : List Int) (vO : Value) (vals : List Value) (fs : List (List Int)) (rs : List Row) : List Row :=
  ⟨.slice (some ⟨B, 0, none⟩) M M, 4, 1, M, bls M S⟩ :: ⟨vO, 26, 1, fs.length, vals⟩ :: ⟨.slice qF M cF, 3, 1, M, intVs F⟩ :: rs

set_option maxRecDepth 8000 in
set_option maxHeartbeats 16000000 in
theorem faces_r (N : Int) (pE pA : Option Addr) (nE nA cE cA : Nat) (E : List (Int × Int)) (A : List (List Int)) (w : World) (hR : RotAt w pE pA E A) (hnE : E.length = nE) (hnA : A.length = nA) :
    Calls Tryd.prog 31 #[.agg #[.int .i64 N, .slice pE nE cE, .slice pA nA cA]] w (FacesPost (facesO N E A) w) := by
  subst hnE hnA
  have he1 := hR.e1
  have HR := Lib.hid hR
  cases hv : vRotB N E A
  case false =>
    have Hf : Hid (facesO N E A = []) := Lib.hid (by unfold facesO; simp [hv])
    have Hv := Lib.hid hv
    clear hv hR
    go_enter Tryd.func31, Tryd.ntmps31
    go_wp2_with (go_at_call 46; apply Calls.mono; (with_reducible exact valid_re Hv.out (HR.out.grew (by (repeat (first | exact Grew.refl _ | refine Grew.over ?_ _ | refine Grew.alloc ?_ _ | refine Grew.drew ?_ | refine Grew.drewN ?_ _)))) rfl rfl); rintro e w' ⟨rfl, x, rfl⟩)
    go_ret
    rw [Hf.out]
    exact ⟨by (repeat (first | exact Grew.refl _ | refine Grew.over ?_ _ | refine Grew.alloc ?_ _ | refine Grew.drew ?_ | refine Grew.drewN ?_ _)), some ⟨w.heap.size + 1, 0, none⟩, 0, rfl, by simp, w.heap.size + 1, 0, fun _ => none, fun _ => 0, fun h => by simp at h, fun u hu => by simp at hu⟩
  case true =>
  have Hv := Lib.hid hv
  have hV := vRotB_iff.1 hv
  have HV := Lib.hid hV
  have Hf : Hid (facesO N E A = facesF A (2 * E.length)) := Lib.hid (by unfold facesO; rw [if_pos hv])
  have HFl := Lib.hid (fun W1 (hg1 : Grew w W1) => follow_r N pE pA E.length A.length cE cA E A W1 (hR.grew hg1) hV rfl rfl)
  obtain ⟨M, hM⟩ : ∃ M, 2 * E.length = M := ⟨_, rfl⟩
  have hM2 : M ≤ 200 := by omega
  have hMe : M % 2 = 0 := by omega
  have Hnx := Lib.hid (fun x (h0 : 0 ≤ x) (h1 : x < (M : Int)) => nxF_in hV (e := x) h0 (by omega))
  rw [hM] at HFl Hf
  have Hnx2 : Hid (∀ x : Int, 0 ≤ x → x < M → 0 ≤ nxF A x ∧ nxF A x < M) := Lib.hid (fun x h0 h1 => by have := Hnx.out x h0 h1; omega)
  have HME := Lib.hid hM.symm
  clear hv hV hR hM Hnx
  go_enter Tryd.func31, Tryd.ntmps31
  go_wp2_with (first
    | (go_at_call 46; apply Calls.mono; (with_reducible exact valid_re Hv.out (HR.out.grew (by (repeat (first | exact Grew.refl _ | refine Grew.over ?_ _ | refine Grew.alloc ?_ _ | refine Grew.drew ?_ | refine Grew.drewN ?_ _)))) rfl rfl); rintro e w' ⟨rfl, x, rfl⟩)
    | (go_at_call 47; apply Calls.mono; (with_reducible exact HFl.out _ (by (repeat (first | exact Grew.refl _ | refine Grew.over ?_ _ | refine Grew.alloc ?_ _ | refine Grew.drew ?_ | refine Grew.drewN ?_ _)))); rintro e w3 ⟨hg3, qF, cF, rfl, _, hT⟩; have hT2 := Owns.join (B := w.heap.size + 1) (((Owns.nil (w.alloc (.cells #[.int .i64 N, .slice pE E.length cE, .slice pA A.length cA] 25)) (w.heap.size + 1)).made (by simp) #[] 26 1 0 (w.heap.size + 1) rfl (by decide) (by simp)).grew (by (repeat (first | exact Grew.refl _ | refine Grew.over ?_ _ | refine Grew.alloc ?_ _ | refine Grew.drew ?_ | refine Grew.drewN ?_ _)))) hT hg3 (by first | rfl | omega | (simp <;> omega)); have HT := Lib.hid hT2; have Hg3 : Hid (Grew w w3) := Lib.hid (Grew.trans (by (repeat (first | exact Grew.refl _ | refine Grew.over ?_ _ | refine Grew.alloc ?_ _ | refine Grew.drew ?_ | refine Grew.drewN ?_ _))) hg3); have hs3 := hg3.below.size; simp at hs3; clear hT hT2 hg3)
    | (refine wp_make_owns rfl _ _ 58 rfl 4 1 (.bool false) Tryd.underlying58 Tryd.infoBool rfl .i64 .i64 _ _ M rfl rfl rfl rfl (by omega) (by simp only [maxLen]; omega) (w.heap.size + 1) _ HT.out (by first | rfl | omega | (simp <;> omega)) ?_; intro w4 hO hg4 hs4; have HO4 := Lib.hid hO; have Hg4 : Hid (Grew w w4) := Lib.hid (Hg3.out.trans hg4); clear hO hg4))
  obtain ⟨B, hB⟩ : ∃ B, w3.heap.size = B := ⟨_, rfl⟩
  have HB := Lib.hid hB
  rw [hB] at HO4 hs4 ⊢
  clear hB HT
  go_loopw [3, 6] (fun vO i wq => ∃ d : Nat, d ≤ M ∧ i = .int .i64 d ∧ Grew w wq ∧ B < wq.heap.size ∧ ∃ vals : List Value, vals.length = (facesN (nxF A) M d).2.length ∧
    Owns wq (w.heap.size + 1) (frRows B M (folA A M) qF cF (facesN (nxF A) M d).1 vO vals (facesN (nxF A) M d).2 (matRows vals (facesN (nxF A) M d).2))) (fun _ i _ => M - (intOf i).toNat)
  case atStart =>
    refine ⟨0, Nat.zero_le _, rfl, Hg4.out, hs4, [], rfl, ?_⟩
    have h := HO4.out
    rw [← bls_nil] at h
    exact h
  case round =>
    obtain ⟨d, hd, rfl, hgq, hsq, vals, hvl, hOq⟩ := hrel
    have hfl := facesN_len (M := M) (f := nxF A) d
    have hmet := facesN_met Hnx2.out d hd
    obtain ⟨pO, cO, rfl, _, _, _, _, _⟩ := hOq.form (k := 1) rfl
    by_cases hld : d < M
    · obtain ⟨S, hS⟩ : ∃ S, (facesN (nxF A) M d).1 = S := ⟨_, rfl⟩
      obtain ⟨fs, hfs⟩ : ∃ fs, (facesN (nxF A) M d).2 = fs := ⟨_, rfl⟩
      rw [hS, hfs] at hOq
      rw [hfs] at hvl hfl
      rw [hS] at hmet
      obtain ⟨gM, cM, eM, _, kM, _, _, nM, mM⟩ := hOq.some (k := 0) rfl (by omega)
      cases eM
      have x1 := mM d _ (bls_get _ hld)
      have Hgq := Lib.hid hgq
      have HOq := Lib.hid hOq
      have Hvl := Lib.hid hvl
      have Hmet := Lib.hid hmet
      have HS := Lib.hid hS
      have Hfs := Lib.hid hfs
      clear hgq hOq hvl hmet hS hfs nM mM
      rw [Hfs.out]
      by_cases hin : (d : Int) ∈ S
      · rw [decide_eq_true hin] at x1
        have Hst : Hid (facesN (nxF A) M (d + 1) = (S, fs)) := Lib.hid (by simp only [facesN]; rw [HS.out, Hfs.out, faceN_in hin, if_pos rfl, List.append_nil])
        clear hin
        go_wp2
        go_roundw
        case rel => exact ⟨d + 1, by omega, by go_num, Hgq.out.trans (by (repeat (first | exact Grew.refl _ | refine Grew.over ?_ _ | refine Grew.alloc ?_ _ | refine Grew.drew ?_ | refine Grew.drewN ?_ _))), by omega, vals, by rw [Hst.out]; exact Hvl.out, by rw [Hst.out]; exact HOq.out.grew (by (repeat (first | exact Grew.refl _ | refine Grew.over ?_ _ | refine Grew.alloc ?_ _ | refine Grew.drew ?_ | refine Grew.drewN ?_ _)))⟩
        case measure => simp [intOf]; omega
      rw [decide_eq_false hin] at x1
      have hd0 : ¬ faceN (nxF A) M S d = [] := by
        obtain ⟨M', rfl⟩ : ∃ M', M = M' + 1 := ⟨M - 1, by omega⟩
        rw [faceN, if_neg hin]
        simp
      have Hd0 := Lib.hid hd0
      clear hin hd0
      obtain ⟨gF, cF', eF, _, kF, _, _, nF, mF⟩ := HOq.out.some (k := 2) rfl (by omega)
      cases eF
      clear nF mF
      go_wp2
      go_loopw [7, 8] (fun v7 v8 wk => ∃ (n : Nat) (x : Int) (fc : List Int), v8 = .int .i64 x ∧ (0 ≤ x ∧ x < M) ∧ n + fc.length = M ∧ faceN (nxF A) M S d = fc ++ faceN (nxF A) n (S ++ fc) x ∧ Met M (S ++ fc) ∧ Grew w wk ∧ wr.heap.size ≤ wk.heap.size ∧ lenOf v7 = fc.length ∧
        Owns wk (w.heap.size + 1) (frRows B M (folA A M) (some ⟨gF, 0, none⟩) cF (S ++ fc) (.slice pO fs.length cO) vals fs (⟨v7, 3, 1, fc.length, intVs fc⟩ :: matRows vals fs))) (fun v7 _ _ => M - lenOf v7)
      case atStart =>
        refine ⟨M, d, [], rfl, ⟨by omega, by omega⟩, by simp, by simp, by rw [List.append_nil]; exact Hmet.out, Hgq.out.trans (by (repeat (first | exact Grew.refl _ | refine Grew.over ?_ _ | refine Grew.alloc ?_ _ | refine Grew.drew ?_ | refine Grew.drewN ?_ _))), (by first | rfl | omega | (simp <;> omega)), rfl, ?_⟩
        rw [List.append_nil]
        exact (HOq.out.made (by omega) #[] 3 1 0 wr.heap.size rfl (by decide) rfl).perm (List.perm_middle (l₁ := [_, _, _])).symm
      case round =>
        obtain ⟨n, x, fc, rfl, ⟨hx0, hx1⟩, hn, hface, hmt, hgk, hsk, hlen, hOk⟩ := hrel
        obtain ⟨p7, c7, rfl, _, _, _, _, _⟩ := hOk.form (k := 3) rfl
        obtain ⟨m, rfl⟩ := Int.eq_ofNat_of_zero_le hx0
        have hm : m < M := by omega
        obtain ⟨gM, cM, eM, _, kM, _, _, nM, mM⟩ := hOk.some (k := 0) rfl (by omega)
        cases eM
        have x1 := mM m _ (bls_get _ hm)
        have x2 := nM m
        have Hface := Lib.hid hface
        have Hmt := Lib.hid hmt
        have Hgk := Lib.hid hgk
        have HOk := Lib.hid hOk
        have hfcl : fc.length ≤ 200 := by omega
        clear hface hmt hgk hOk nM mM hlen
        by_cases hin : (m : Int) ∈ S ++ fc
        · rw [decide_eq_true hin] at x1
          have Hfc : Hid (faceN (nxF A) M S d = fc) := Lib.hid (by rw [Hface.out, faceN_in hin, List.append_nil])
          clear hin
          have h0 : ¬ fc = [] := by rw [← Hfc.out]; exact Hd0.out
          have Hst : Hid (facesN (nxF A) M (d + 1) = (S ++ fc, fs ++ [fc])) := Lib.hid (by simp only [facesN]; rw [HS.out, Hfs.out, Hfc.out, if_neg h0])
          clear h0
          go_wp2_with (at_builtin; refine wp_append_owns rfl _ _ 23 rfl 26 1 24 (.slice none 0 0) Tryd.underlying23 Tryd.infoInts rfl (by decide) (w.heap.size + 1) _ 1 _ _ _ (HOk.out.grew (by (repeat (first | exact Grew.refl _ | refine Grew.over ?_ _ | refine Grew.alloc ?_ _ | refine Grew.drew ?_ | refine Grew.drewN ?_ _)))) rfl rfl _ 1 1 rfl [.slice p7 fc.length c7] rfl (fun h => by cases h) (one_news _ (by (simp [go_sem, ↓IntWalk.iteOmega]))) (by simp [Value.oneCell']) (by simp only [maxLen]; omega) (by omega) (by first | rfl | omega | (simp <;> omega)) ?_; intro v1 w1 hO1 hg1 hb1 _; have Hg1 := Lib.hid (Grew.grownBy (w0 := w) (Hgk.out.trans (by (repeat (first | exact Grew.refl _ | refine Grew.over ?_ _ | refine Grew.alloc ?_ _ | refine Grew.drew ?_ | refine Grew.drewN ?_ _)))) hg1 (fun g h => by have := hb1 g h; omega)); have HO1 := Lib.hid hO1; have hs1 := hg1.size; simp at hs1; clear hO1 hg1 hb1)
          go_roundw
          case rel =>
            refine ⟨d + 1, by omega, by go_num, Hg1.out, by omega, vals ++ [.slice p7 fc.length c7], by rw [Hst.out, List.length_append, List.length_append, Hvl.out]; rfl, ?_⟩
            rw [Hst.out]
            have h := HO1.out
            simp only [frRows, List.set_cons_succ, List.set_cons_zero] at h
            unfold frRows
            rw [List.length_append, matRows_snoc Hvl.out]
            refine h.perm ?_
            exact List.Perm.cons _ (List.Perm.cons _ (List.Perm.cons _ (List.perm_append_singleton _ _).symm))
          case measure => simp [intOf]; omega
        · have hmt2 := Hmt.out.snoc (x := (m : Int)) (by omega) (by omega) hin
          have hlen2 := hmt2.len
          simp only [List.length_append, List.length_cons, List.length_nil] at hlen2
          obtain ⟨n', rfl⟩ : ∃ n', n = n' + 1 := ⟨n - 1, by omega⟩
          have Hface2 : Hid (faceN (nxF A) M S d = (fc ++ [(m : Int)]) ++ faceN (nxF A) n' (S ++ (fc ++ [(m : Int)])) (nxF A m)) := Lib.hid (by
            rw [Hface.out, faceN, if_neg hin, List.append_assoc, List.append_assoc]
            rfl)
          rw [decide_eq_false hin] at x1
          have Hmt2 := Lib.hid hmt2
          have hxn := Hnx2.out m (by omega) (by omega)
          have hME := HME.out
          obtain ⟨ho1, ho2⟩ := oth_in (d := (m : Int)) (M := E.length) (by omega) (by omega)
          obtain ⟨o, hoe⟩ : ∃ o : Nat, oth m = (o : Int) := ⟨(oth m).toNat, by omega⟩
          have hol : o < M := by omega
          have Ho := Lib.hid (fun W1 : World => (hoe ▸ other_r m W1 (by omega) : Calls Tryd.prog 48 #[.int .i64 m] W1 fun e w' => e = .returned (.int .i64 (o : Int)) ∧ W1 = w'))
          have hnx : nxF A m = sucF A o := by unfold nxF; rw [hoe]
          rw [hnx] at hxn Hface2
          have HOs := Lib.hid (HOk.out.set (k := 0) rfl m (.bool true))
          have Hgs := Lib.hid (Hgk.out.setCell (show w.heap.size ≤ (⟨B, m, none⟩ : Addr).block by have := HB.out; dsimp only; omega) (.bool true))
          clear hmt2 hin hoe ho1 ho2 hnx hME
          go_wp2_with (first
            | (at_builtin; refine wp_append_owns rfl _ _ 26 rfl 3 1 8 (.int .i64 0) Tryd.underlying26 Tryd.infoInt rfl (by decide) (w.heap.size + 1) _ 3 _ _ _ (HOs.out.grew (by (repeat (first | exact Grew.refl _ | refine Grew.over ?_ _ | refine Grew.alloc ?_ _ | refine Grew.drew ?_ | refine Grew.drewN ?_ _)))) rfl rfl _ 1 1 rfl [.int .i64 (m : Int)] rfl (fun h => by cases h) (one_news _ (by (simp [go_sem, ↓IntWalk.iteOmega]))) (by simp [Value.oneCell']) (by simp only [maxLen]; omega) (by omega) (by first | rfl | omega | (simp <;> omega)) ?_; intro v1 w1 hO1 hg1 hb1 _; obtain ⟨p1, c1, rfl, _, _, _, _, _⟩ := hO1.form (k := 3) rfl; obtain ⟨gF2, cF2, eF2, _, _, _, _, _, mF2⟩ := hO1.some (k := 2) rfl (by omega); cases eF2; have e1 := mF2 o _ (intVs_get _ (by rw [folA, tab_length]; exact hol)); rw [folA, ge_tab _ hol] at e1; have Hg1 := Lib.hid (Grew.grownBy (w0 := w) (Hgs.out.trans (by (repeat (first | exact Grew.refl _ | refine Grew.over ?_ _ | refine Grew.alloc ?_ _ | refine Grew.drew ?_ | refine Grew.drewN ?_ _)))) hg1 (fun g h => by have := hb1 g h; omega)); have HO1 := Lib.hid hO1; have hs1 := hg1.size; simp at hs1; clear hO1 hg1 hb1 mF2)
            | (go_at_call 48; apply Calls.mono; (with_reducible exact Ho.out _); rintro e w' ⟨rfl, rfl⟩))
          go_roundw
          case rel =>
            refine ⟨n', sucF A o, fc ++ [(m : Int)], rfl, hxn, by rw [List.length_append]; simp; omega, Hface2.out, by rw [← List.append_assoc]; exact Hmt2.out, Hg1.out, by omega, by rw [List.length_append]; rfl, ?_⟩
            have h := HO1.out
            rw [bls_set _ hm, List.append_assoc] at h
            simp only [frRows, List.set_cons_succ, List.set_cons_zero] at h
            unfold frRows
            rw [List.length_append, intVs_app']
            exact h
          case measure => simp [lenOf]; omega
    · have hde : d = M := by omega
      subst hde
      have Hb : Hid (∀ l ∈ (facesN (nxF A) d d).2, ∀ x ∈ l, -9223372036854775808 ≤ x ∧ x ≤ 9223372036854775807) := Lib.hid (fun l hl x hx => by
        have := hmet.2 x (facesN_in d l hl x hx)
        omega)
      have HOq := Lib.hid hOq
      have Hvl := Lib.hid hvl
      have Hgq := Lib.hid hgq
      clear hOq hvl hmet hgq
      go_wp2
      go_ret
      rw [Hf.out]
      obtain ⟨q, cap, e, h⟩ := mat_of_owns (rs := [⟨.slice (some ⟨B, 0, none⟩) d d, 4, 1, d, bls d (facesN (nxF A) d d).1⟩, ⟨.slice qF d cF, 3, 1, d, intVs (folA A d)⟩]) Hvl.out Hb.out (HOq.out.perm ((List.Perm.swap _ _ _).trans (List.Perm.cons _ (List.perm_append_comm (l₁ := [_, _])))))
      cases e
      exact ⟨Hgq.out, _, _, rfl, h⟩

end Go.Proofs.YtdacnkjmimhcaaaDoor
