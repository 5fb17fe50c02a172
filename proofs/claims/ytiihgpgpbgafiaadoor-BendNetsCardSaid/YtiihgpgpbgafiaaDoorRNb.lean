/- Joined by a program from the texts RotK RotO RotP Que RotQ RotR RotS Cyc Fac Del Gen FacF OwnR Ints. -/
import Derived.Test.YtiihgpgpbgafiaaDoorRNa
import Derived.Deep.LoopGhost
import Derived.Laws.MakeOwn
set_option linter.unusedSimpArgs false
set_option linter.unusedVariables false
/- Faces of the program: the walk. -/
namespace Go.Proofs.YtiihgpgpbgafiaaDoor
open Go.RowKit
attribute [local go_sem ↓] Go.wp_at_zero Go.wp_at_succ

/-- What Faces returns. -/
noncomputable def facesO (N : Int) (E : List (Int × Int)) (A : List (List Int)) : List (List Int) := if vRotB N E A = true then facesF A (2 * E.length) else []
def FacesPost (fs : List (List Int)) (w : World) (e : Ending) (w' : World) : Prop := Grew w w' ∧ ∃ q cap, e = .returned (.slice q fs.length cap) ∧ Mat w' q fs
theorem Mat.nil (w : World) (p : Option Addr) : Mat w p [] := ⟨by simp, 0, 0, fun _ => none, fun _ => 0, fun h => by simp at h, fun u hu => by simp at hu⟩
def faRows (B M : Nat) (S : List Int) (vO : Value) (vals : List Value) (fs : List (List Int)) (rs : List Row) : List Row :=
  ⟨.slice (some ⟨B, 0, none⟩) M M, 4, 1, M, bls M S⟩ :: ⟨vO, 28, 1, fs.length, vals⟩ :: rs

set_option maxRecDepth 8000 in
set_option maxHeartbeats 16000000 in
theorem faces_p (N : Int) (pE pA : Option Addr) (nE nA cE cA : Nat) (E : List (Int × Int)) (A : List (List Int)) (w : World) (hR : RotAt w pE pA E A) (hL : Lim w) (hnE : E.length = nE) (hnA : A.length = nA) :
    Calls Tryd.prog 30 #[.agg #[.int .i64 N, .slice pE nE cE, .slice pA nA cA]] w (FacesPost (facesO N E A) w) := by
  subst hnE hnA
  have he1 := hR.e1
  have HR := Lib.hid hR
  have HL := Lib.hid hL
  cases hv : vRotB N E A
  case false =>
    have Hf : Hid (facesO N E A = []) := Lib.hid (by unfold facesO; simp [hv])
    have Hv := Lib.hid hv
    clear hv hR hL
    go_enter Tryd.func30, Tryd.ntmps30
    go_wp2_with (go_at_call 28; apply Calls.mono; (with_reducible exact valid_pe Hv.out (HR.out.grew (by (repeat (first | exact gR _ | refine gO ?_ _ | refine gA ?_ _ | refine gD ?_ | refine gN ?_ _)))) (HL.out.grew (by (repeat (first | exact gR _ | refine gO ?_ _ | refine gA ?_ _ | refine gD ?_ | refine gN ?_ _)))) rfl rfl); rintro e w' ⟨rfl, x, rfl⟩)
    go_ret
    rw [Hf.out]
    exact ⟨by (repeat (first | exact gR _ | refine gO ?_ _ | refine gA ?_ _ | refine gD ?_ | refine gN ?_ _)), none, 0, rfl, Mat.nil _ _⟩
  case true =>
  have Hv := Lib.hid hv
  have hV := vRotB_iff.1 hv
  have HV := Lib.hid hV
  have Hf : Hid (facesO N E A = facesF A (2 * E.length)) := Lib.hid (by unfold facesO; rw [if_pos hv])
  have HFl := Lib.hid (fun W1 (hg1 : Grew w W1) => follow_p N pE pA E.length A.length cE cA E A W1 (hR.grew hg1) hV rfl rfl)
  obtain ⟨M, hM⟩ : ∃ M, 2 * E.length = M := ⟨_, rfl⟩
  have hM2 : M ≤ 200 := by omega
  have Hnx := Lib.hid (fun x (h0 : 0 ≤ x) (h1 : x < (M : Int)) => nxF_in hV (e := x) h0 (by omega))
  rw [hM] at HFl Hf
  have Hnx2 : Hid (∀ x : Int, 0 ≤ x → x < M → 0 ≤ nxF A x ∧ nxF A x < M) := Lib.hid (fun x h0 h1 => by have := Hnx.out x h0 h1; omega)
  clear hv hV hR hL hM Hnx
  go_enter Tryd.func30, Tryd.ntmps30
  go_wp2_with (first
    | (go_at_call 28; apply Calls.mono; (with_reducible exact valid_pe Hv.out (HR.out.grew (by (repeat (first | exact gR _ | refine gO ?_ _ | refine gA ?_ _ | refine gD ?_ | refine gN ?_ _)))) (HL.out.grew (by (repeat (first | exact gR _ | refine gO ?_ _ | refine gA ?_ _ | refine gD ?_ | refine gN ?_ _)))) rfl rfl); rintro e w' ⟨rfl, x, rfl⟩)
    | (go_at_call 54; apply Calls.mono; (with_reducible exact HFl.out _ (by (repeat (first | exact gR _ | refine gO ?_ _ | refine gA ?_ _ | refine gD ?_ | refine gN ?_ _)))); rintro e w3 ⟨hg3, pT, cT, rfl, hT⟩; have HT := Lib.hid hT; have Hg3 : Hid (Grew w w3) := Lib.hid (Grew.trans (by (repeat (first | exact gR _ | refine gO ?_ _ | refine gA ?_ _ | refine gD ?_ | refine gN ?_ _))) hg3); clear hT hg3)
    | (refine wp_make_owns rfl _ _ 74 rfl 4 1 (.bool false) Tryd.underlying74 Tryd.infoBool rfl .i64 .i64 _ _ M rfl rfl rfl rfl (by omega) (by simp only [maxLen]; omega) w3.heap.size [] (Owns.nil _ _) (Nat.le_refl _) ?_; intro w4 hO hg4 hs4; have HO4 := Lib.hid hO; have Hg4 := Lib.hid hg4; clear hO hg4))
  obtain ⟨B, hB⟩ : ∃ B, w3.heap.size = B := ⟨_, rfl⟩
  have HB := Lib.hid hB
  rw [hB] at HO4 hs4 ⊢
  clear hB
  go_loopw [5, 19] (fun vO i wq => ∃ d : Nat, d ≤ M ∧ i = .int .i64 d ∧ Grew w3 wq ∧ B < wq.heap.size ∧ ∃ vals : List Value, vals.length = (facesN (nxF A) M d).2.length ∧
    Owns wq B (faRows B M (facesN (nxF A) M d).1 vO vals (facesN (nxF A) M d).2 (matRows vals (facesN (nxF A) M d).2))) (fun _ i _ => M - (intOf i).toNat)
  case atStart =>
    refine ⟨0, Nat.zero_le _, rfl, Hg4.out, hs4, [], rfl, ?_⟩
    have h := HO4.out
    rw [← bls_nil] at h
    exact (h.none 28 1).perm (List.Perm.swap _ _ _)
  case round =>
    obtain ⟨d, hd, rfl, hgq, hsq, vals, hvl, hOq⟩ := hrel
    have hfl := facesN_len (M := M) (f := nxF A) d
    have hmet := facesN_met Hnx2.out d hd
    obtain ⟨pO, cO, rfl, _, _, _, _, _⟩ := hOq.form (k := 1) rfl
    by_cases hld : d < M
    · obtain ⟨S, hS⟩ : ∃ S, (facesN (nxF A) M d).1 = S := ⟨_, rfl⟩
      obtain ⟨fs, hfs⟩ : ∃ fs, (facesN (nxF A) M d).2 = fs := ⟨_, rfl⟩
      rw [hS, hfs] at hOq
      rw [hfs] at hvl hfl
      rw [hS] at hmet
      have Hgq := Lib.hid hgq
      have HOq := Lib.hid hOq
      have Hvl := Lib.hid hvl
      have Hmet := Lib.hid hmet
      have HS := Lib.hid hS
      have Hfs := Lib.hid hfs
      clear hgq hOq hvl hmet hS hfs
      rw [Hfs.out]
      go_wp2
      go_loopw [7, 8] (fun v7 v8 wk => ∃ (n : Nat) (x : Int) (fc : List Int), v8 = .int .i64 x ∧ (0 ≤ x ∧ x < M) ∧ n + fc.length = M ∧ faceN (nxF A) M S d = fc ++ faceN (nxF A) n (S ++ fc) x ∧ Met M (S ++ fc) ∧ Grew w3 wk ∧ wr.heap.size ≤ wk.heap.size ∧ lenOf v7 = fc.length ∧
        Owns wk B (faRows B M (S ++ fc) (.slice pO fs.length cO) vals fs (⟨v7, 3, 1, fc.length, intVs fc⟩ :: matRows vals fs))) (fun v7 _ _ => M - lenOf v7)
      case atStart =>
        refine ⟨M, d, [], rfl, ⟨by omega, by omega⟩, by simp, by simp, by rw [List.append_nil]; exact Hmet.out, Hgq.out, Nat.le_refl _, rfl, ?_⟩
        rw [List.append_nil]
        exact (HOq.out.none 3 1).perm ((List.Perm.swap _ _ _).trans (List.Perm.cons _ (List.Perm.swap _ _ _)))
      case round =>
        obtain ⟨n, x, fc, rfl, ⟨hx0, hx1⟩, hn, hface, hmt, hgk, hsk, hlen, hOk⟩ := hrel
        obtain ⟨p7, c7, rfl, _, _, _, _, _⟩ := hOk.form (k := 2) rfl
        obtain ⟨m, rfl⟩ := Int.eq_ofNat_of_zero_le hx0
        have hm : m < M := by omega
        obtain ⟨gM, cM, eM, _, kM, _, _, nM, mM⟩ := hOk.some (k := 0) rfl (by omega)
        cases eM
        have x1 := mM m _ (bls_get _ hm)
        have x2 := nM m
        have Hface := Lib.hid hface
        have Hmt := Lib.hid hmt
        have Hgk := Lib.hid hgk
        have HOk := Lib.hid hOk
        have hfcl : fc.length ≤ 200 := by omega
        clear hface hmt hgk hOk nM mM hlen
        by_cases hin : (m : Int) ∈ S ++ fc
        · rw [decide_eq_true hin] at x1
          have Hfc : Hid (faceN (nxF A) M S d = fc) := Lib.hid (by
            rw [Hface.out]
            cases n with
            | zero => simp [faceN]
            | succ n => rw [faceN, if_pos hin, List.append_nil])
          clear hin
          by_cases h0 : fc = []
          · subst h0
            have Hst : Hid (facesN (nxF A) M (d + 1) = (S, fs)) := Lib.hid (by simp only [facesN]; rw [HS.out, Hfs.out, Hfc.out, if_pos rfl, List.append_nil])
            go_wp2
            go_roundw
            case rel =>
              refine ⟨d + 1, by omega, by go_num, Hgk.out, by omega, vals, by rw [Hst.out]; exact Hvl.out, ?_⟩
              rw [Hst.out]
              have h := HOk.out
              rw [List.append_nil] at h
              have h2 := h.perm ((List.Perm.cons _ (List.Perm.swap _ _ _)).trans (List.Perm.swap _ _ _))
              exact h2.tail
            case measure => simp [intOf]; omega
          · have h1 : 0 < fc.length := List.length_pos_iff.2 h0
            have Hst : Hid (facesN (nxF A) M (d + 1) = (S ++ fc, fs ++ [fc])) := Lib.hid (by simp only [facesN]; rw [HS.out, Hfs.out, Hfc.out, if_neg h0])
            clear h0
            go_wp2_with (at_builtin; refine wp_append_owns rfl _ _ 23 rfl 28 1 24 (.slice none 0 0) Tryd.underlying23 Tryd.infoInts rfl (by decide) B _ 1 _ _ _ (HOk.out.grew (by (repeat (first | exact gR _ | refine gO ?_ _ | refine gA ?_ _ | refine gD ?_ | refine gN ?_ _)))) rfl rfl _ 1 1 rfl [.slice p7 fc.length c7] rfl (fun h => by cases h) (one_news _ (by (simp [go_sem, ↓IntWalk.iteOmega]))) (by simp [Value.oneCell']) (by simp only [maxLen]; omega) (by omega) (by first | rfl | omega | (simp <;> omega)) ?_; intro v1 w1 hO1 hg1 hb1 _; have Hg1 := Lib.hid (Grew.grownBy (w0 := w3) (Hgk.out.trans (by (repeat (first | exact gR _ | refine gO ?_ _ | refine gA ?_ _ | refine gD ?_ | refine gN ?_ _)))) hg1 (fun g h => by have := hb1 g h; have := HB.out; omega)); have HO1 := Lib.hid hO1; have hs1 := hg1.size; simp at hs1; clear hO1 hg1 hb1)
            go_roundw
            case rel =>
              refine ⟨d + 1, by omega, by go_num, Hg1.out, by omega, vals ++ [.slice p7 fc.length c7], by rw [Hst.out, List.length_append, List.length_append, Hvl.out]; rfl, ?_⟩
              rw [Hst.out]
              have h := HO1.out
              simp only [faRows, List.set_cons_succ, List.set_cons_zero] at h
              unfold faRows
              rw [List.length_append, matRows_snoc Hvl.out]
              refine h.perm ?_
              exact List.Perm.cons _ (List.Perm.cons _ (List.perm_append_singleton _ _).symm)
            case measure => simp [intOf]; omega
        · have hmt2 := Hmt.out.snoc (x := (m : Int)) (by omega) (by omega) hin
          have hlen2 := hmt2.len
          simp only [List.length_append, List.length_cons, List.length_nil] at hlen2
          obtain ⟨n', rfl⟩ : ∃ n', n = n' + 1 := ⟨n - 1, by omega⟩
          have Hface2 : Hid (faceN (nxF A) M S d = (fc ++ [(m : Int)]) ++ faceN (nxF A) n' (S ++ (fc ++ [(m : Int)])) (nxF A m)) := Lib.hid (by
            rw [Hface.out, faceN, if_neg hin, List.append_assoc, List.append_assoc]
            rfl)
          rw [decide_eq_false hin] at x1
          have Hmt2 := Lib.hid hmt2
          have hxn := Hnx2.out m (by omega) (by omega)
          obtain ⟨bT, oT, rfl, lT, cT'⟩ := HT.out.cells (by rw [nxL, tab_length]; omega)
          have CT : Hid (∀ W1 : World, Grew w3 W1 → W1.cell? ⟨bT, oT + m, none⟩ = some (.int .i64 (nxF A m))) := Lib.hid (fun W1 hg => by
            have := cT' W1 hg m (by rw [nxL, tab_length]; exact hm)
            rw [nxL, ge_tab _ hm] at this
            exact this)
          have HOs := Lib.hid (HOk.out.set (k := 0) rfl m (.bool true))
          have Hgs := Lib.hid (Hgk.out.setCell (show w3.heap.size ≤ (⟨B, m, none⟩ : Addr).block by have := HB.out; dsimp only; omega) (.bool true))
          clear hmt2 hin cT'
          go_wp2_with (at_builtin; refine wp_append_owns rfl _ _ 28 rfl 3 1 8 (.int .i64 0) Tryd.underlying28 Tryd.infoInt rfl (by decide) B _ 2 _ _ _ (HOs.out.grew (by (repeat (first | exact gR _ | refine gO ?_ _ | refine gA ?_ _ | refine gD ?_ | refine gN ?_ _)))) rfl rfl _ 1 1 rfl [.int .i64 (m : Int)] rfl (fun h => by cases h) (one_news _ (by (simp [go_sem, ↓IntWalk.iteOmega]))) (by simp [Value.oneCell']) (by simp only [maxLen]; omega) (by omega) (by first | rfl | omega | (simp <;> omega)) ?_; intro v1 w1 hO1 hg1 hb1 _; obtain ⟨p1, c1, rfl, _, _, _, _, _⟩ := hO1.form (k := 2) rfl; have Hg1 := Lib.hid (Grew.grownBy (w0 := w3) (Hgs.out.trans (by (repeat (first | exact gR _ | refine gO ?_ _ | refine gA ?_ _ | refine gD ?_ | refine gN ?_ _)))) hg1 (fun g h => by have := hb1 g h; have := HB.out; omega)); have e1 := CT.out w1 Hg1.out; have HO1 := Lib.hid hO1; have hs1 := hg1.size; simp at hs1; clear hO1 hg1 hb1)
          go_roundw
          case rel =>
            refine ⟨n', nxF A m, fc ++ [(m : Int)], rfl, hxn, by rw [List.length_append]; simp; omega, Hface2.out, by rw [← List.append_assoc]; exact Hmt2.out, Hg1.out, by omega, by rw [List.length_append]; rfl, ?_⟩
            have h := HO1.out
            rw [bls_set _ hm, List.append_assoc] at h
            simp only [faRows, List.set_cons_succ, List.set_cons_zero] at h
            unfold faRows
            rw [List.length_append, intVs_app']
            exact h
          case measure => simp [lenOf]; omega
    · have hde : d = M := by omega
      subst hde
      have Hb : Hid (∀ l ∈ (facesN (nxF A) d d).2, ∀ x ∈ l, -9223372036854775808 ≤ x ∧ x ≤ 9223372036854775807) := Lib.hid (fun l hl x hx => by
        have := hmet.2 x (facesN_in d l hl x hx)
        omega)
      have HOq := Lib.hid hOq
      have Hvl := Lib.hid hvl
      have Hgq := Lib.hid hgq
      clear hOq hvl hmet hgq
      go_wp2
      go_ret
      rw [Hf.out]
      obtain ⟨q, cap, e, h⟩ := mat_of_owns (rs := [⟨.slice (some ⟨B, 0, none⟩) d d, 4, 1, d, bls d (facesN (nxF A) d d).1⟩]) Hvl.out Hb.out (HOq.out.perm (List.perm_append_singleton _ (_ :: _)).symm)
      cases e
      exact ⟨Hg3.out.trans Hgq.out, _, _, rfl, h⟩

end Go.Proofs.YtiihgpgpbgafiaaDoor

/- Faces of the reference. -/
namespace Go.Proofs.YtiihgpgpbgafiaaDoor
open Go.RowKit
attribute [local go_sem ↓] Go.wp_at_zero Go.wp_at_succ

theorem Owns.join {w w' : World} {B : Nat} {xs ys : List Row} (h : Owns w B xs) (h2 : Owns w' w.heap.size ys) (hg : Grew w w') (hB : B ≤ w.heap.size) : Owns w' B (xs ++ ys) := by
  have h' := h.grew hg
  rw [owns_iff] at h' ⊢
  have h3 := (h2.base hB)
  rw [owns_iff] at h3
  refine ⟨fun r hr => (List.mem_append.1 hr).elim (h'.1 r) (h3.1 r), List.pairwise_append.2 ⟨h'.2, h3.2, fun a ha b hb g e1 e2 => ?_⟩⟩
  obtain ⟨i, hi, rfl⟩ := List.getElem_of_mem ha
  obtain ⟨j, hj, rfl⟩ := List.getElem_of_mem hb
  have f1 := ((h.1 i _ (List.getElem?_eq_getElem hi)).lt g e1).2
  have f2 := ((h2.1 j _ (List.getElem?_eq_getElem hj)).lt g e2).1
  omega

theorem faceN_in {f : Int → Int} {n : Nat} {S : List Int} {x : Int} (h : x ∈ S) : faceN f n S x = [] := by
  cases n with
  | zero => rfl
  | succ n => rw [faceN, if_pos h]
def frRows (B M : Nat) (F : List Int) (qF : Option Addr) (cF : Nat) (S : List Int) (vO : Value) (vals : List Value) (fs : List (List Int)) (rs : List Row) : List Row :=
  ⟨.slice (some ⟨B, 0, none⟩) M M, 4, 1, M, bls M S⟩ :: ⟨vO, 28, 1, fs.length, vals⟩ :: ⟨.slice qF M cF, 3, 1, M, intVs F⟩ :: rs

set_option maxRecDepth 8000 in
set_option maxHeartbeats 16000000 in
theorem faces_r (N : Int) (pE pA : Option Addr) (nE nA cE cA : Nat) (E : List (Int × Int)) (A : List (List Int)) (w : World) (hR : RotAt w pE pA E A) (hnE : E.length = nE) (hnA : A.length = nA) :
    Calls Tryd.prog 25 #[.agg #[.int .i64 N, .slice pE nE cE, .slice pA nA cA]] w (FacesPost (facesO N E A) w) := by
  subst hnE hnA
  have he1 := hR.e1
  have HR := Lib.hid hR
  cases hv : vRotB N E A
  case false =>
    have Hf : Hid (facesO N E A = []) := Lib.hid (by unfold facesO; simp [hv])
    have Hv := Lib.hid hv
    clear hv hR
    go_enter Tryd.func25, Tryd.ntmps25
    go_wp2_with (go_at_call 40; apply Calls.mono; (with_reducible exact valid_re Hv.out (HR.out.grew (by (repeat (first | exact gR _ | refine gO ?_ _ | refine gA ?_ _ | refine gD ?_ | refine gN ?_ _)))) rfl rfl); rintro e w' ⟨rfl, x, rfl⟩)
    go_ret
    rw [Hf.out]
    exact ⟨by (repeat (first | exact gR _ | refine gO ?_ _ | refine gA ?_ _ | refine gD ?_ | refine gN ?_ _)), some ⟨w.heap.size + 1, 0, none⟩, 0, rfl, by simp, w.heap.size + 1, 0, fun _ => none, fun _ => 0, fun h => by simp at h, fun u hu => by simp at hu⟩
  case true =>
  have Hv := Lib.hid hv
  have hV := vRotB_iff.1 hv
  have HV := Lib.hid hV
  have Hf : Hid (facesO N E A = facesF A (2 * E.length)) := Lib.hid (by unfold facesO; rw [if_pos hv])
  have HFl := Lib.hid (fun W1 (hg1 : Grew w W1) => follow_r N pE pA E.length A.length cE cA E A W1 (hR.grew hg1) hV rfl rfl)
  obtain ⟨M, hM⟩ : ∃ M, 2 * E.length = M := ⟨_, rfl⟩
  have hM2 : M ≤ 200 := by omega
  have hMe : M % 2 = 0 := by omega
  have Hnx := Lib.hid (fun x (h0 : 0 ≤ x) (h1 : x < (M : Int)) => nxF_in hV (e := x) h0 (by omega))
  rw [hM] at HFl Hf
  have Hnx2 : Hid (∀ x : Int, 0 ≤ x → x < M → 0 ≤ nxF A x ∧ nxF A x < M) := Lib.hid (fun x h0 h1 => by have := Hnx.out x h0 h1; omega)
  have HME := Lib.hid hM.symm
  clear hv hV hR hM Hnx
  go_enter Tryd.func25, Tryd.ntmps25
  go_wp2_with (first
    | (go_at_call 40; apply Calls.mono; (with_reducible exact valid_re Hv.out (HR.out.grew (by (repeat (first | exact gR _ | refine gO ?_ _ | refine gA ?_ _ | refine gD ?_ | refine gN ?_ _)))) rfl rfl); rintro e w' ⟨rfl, x, rfl⟩)
    | (go_at_call 50; apply Calls.mono; (with_reducible exact HFl.out _ (by (repeat (first | exact gR _ | refine gO ?_ _ | refine gA ?_ _ | refine gD ?_ | refine gN ?_ _)))); rintro e w3 ⟨hg3, qF, cF, rfl, _, hT⟩; have hT2 := Owns.join (B := w.heap.size + 1) (((Owns.nil (w.alloc (.cells #[.int .i64 N, .slice pE E.length cE, .slice pA A.length cA] 25)) (w.heap.size + 1)).made (by simp) #[] 28 1 0 (w.heap.size + 1) rfl (by decide) (by simp)).grew (by (repeat (first | exact gR _ | refine gO ?_ _ | refine gA ?_ _ | refine gD ?_ | refine gN ?_ _)))) hT hg3 (by first | rfl | omega | (simp <;> omega)); have HT := Lib.hid hT2; have Hg3 : Hid (Grew w w3) := Lib.hid (Grew.trans (by (repeat (first | exact gR _ | refine gO ?_ _ | refine gA ?_ _ | refine gD ?_ | refine gN ?_ _))) hg3); have hs3 := hg3.below.size; simp at hs3; clear hT hT2 hg3)
    | (refine wp_make_owns rfl _ _ 74 rfl 4 1 (.bool false) Tryd.underlying74 Tryd.infoBool rfl .i64 .i64 _ _ M rfl rfl rfl rfl (by omega) (by simp only [maxLen]; omega) (w.heap.size + 1) _ HT.out (by first | rfl | omega | (simp <;> omega)) ?_; intro w4 hO hg4 hs4; have HO4 := Lib.hid hO; have Hg4 : Hid (Grew w w4) := Lib.hid (Hg3.out.trans hg4); clear hO hg4))
  obtain ⟨B, hB⟩ : ∃ B, w3.heap.size = B := ⟨_, rfl⟩
  have HB := Lib.hid hB
  rw [hB] at HO4 hs4 ⊢
  clear hB HT
  go_loopw [3, 6] (fun vO i wq => ∃ d : Nat, d ≤ M ∧ i = .int .i64 d ∧ Grew w wq ∧ B < wq.heap.size ∧ ∃ vals : List Value, vals.length = (facesN (nxF A) M d).2.length ∧
    Owns wq (w.heap.size + 1) (frRows B M (folA A M) qF cF (facesN (nxF A) M d).1 vO vals (facesN (nxF A) M d).2 (matRows vals (facesN (nxF A) M d).2))) (fun _ i _ => M - (intOf i).toNat)
  case atStart =>
    refine ⟨0, Nat.zero_le _, rfl, Hg4.out, hs4, [], rfl, ?_⟩
    have h := HO4.out
    rw [← bls_nil] at h
    exact h
  case round =>
    obtain ⟨d, hd, rfl, hgq, hsq, vals, hvl, hOq⟩ := hrel
    have hfl := facesN_len (M := M) (f := nxF A) d
    have hmet := facesN_met Hnx2.out d hd
    obtain ⟨pO, cO, rfl, _, _, _, _, _⟩ := hOq.form (k := 1) rfl
    by_cases hld : d < M
    · obtain ⟨S, hS⟩ : ∃ S, (facesN (nxF A) M d).1 = S := ⟨_, rfl⟩
      obtain ⟨fs, hfs⟩ : ∃ fs, (facesN (nxF A) M d).2 = fs := ⟨_, rfl⟩
      rw [hS, hfs] at hOq
      rw [hfs] at hvl hfl
      rw [hS] at hmet
      obtain ⟨gM, cM, eM, _, kM, _, _, nM, mM⟩ := hOq.some (k := 0) rfl (by omega)
      cases eM
      have x1 := mM d _ (bls_get _ hld)
      have Hgq := Lib.hid hgq
      have HOq := Lib.hid hOq
      have Hvl := Lib.hid hvl
      have Hmet := Lib.hid hmet
      have HS := Lib.hid hS
      have Hfs := Lib.hid hfs
      clear hgq hOq hvl hmet hS hfs nM mM
      rw [Hfs.out]
      by_cases hin : (d : Int) ∈ S
      · rw [decide_eq_true hin] at x1
        have Hst : Hid (facesN (nxF A) M (d + 1) = (S, fs)) := Lib.hid (by simp only [facesN]; rw [HS.out, Hfs.out, faceN_in hin, if_pos rfl, List.append_nil])
        clear hin
        go_wp2
        go_roundw
        case rel => exact ⟨d + 1, by omega, by go_num, Hgq.out.trans (by (repeat (first | exact gR _ | refine gO ?_ _ | refine gA ?_ _ | refine gD ?_ | refine gN ?_ _))), by omega, vals, by rw [Hst.out]; exact Hvl.out, by rw [Hst.out]; exact HOq.out.grew (by (repeat (first | exact gR _ | refine gO ?_ _ | refine gA ?_ _ | refine gD ?_ | refine gN ?_ _)))⟩
        case measure => simp [intOf]; omega
      rw [decide_eq_false hin] at x1
      have hd0 : ¬ faceN (nxF A) M S d = [] := by
        obtain ⟨M', rfl⟩ : ∃ M', M = M' + 1 := ⟨M - 1, by omega⟩
        rw [faceN, if_neg hin]
        simp
      have Hd0 := Lib.hid hd0
      clear hin hd0
      obtain ⟨gF, cF', eF, _, kF, _, _, nF, mF⟩ := HOq.out.some (k := 2) rfl (by omega)
      cases eF
      clear nF mF
      go_wp2
      go_loopw [7, 8] (fun v7 v8 wk => ∃ (n : Nat) (x : Int) (fc : List Int), v8 = .int .i64 x ∧ (0 ≤ x ∧ x < M) ∧ n + fc.length = M ∧ faceN (nxF A) M S d = fc ++ faceN (nxF A) n (S ++ fc) x ∧ Met M (S ++ fc) ∧ Grew w wk ∧ wr.heap.size ≤ wk.heap.size ∧ lenOf v7 = fc.length ∧
        Owns wk (w.heap.size + 1) (frRows B M (folA A M) (some ⟨gF, 0, none⟩) cF (S ++ fc) (.slice pO fs.length cO) vals fs (⟨v7, 3, 1, fc.length, intVs fc⟩ :: matRows vals fs))) (fun v7 _ _ => M - lenOf v7)
      case atStart =>
        refine ⟨M, d, [], rfl, ⟨by omega, by omega⟩, by simp, by simp, by rw [List.append_nil]; exact Hmet.out, Hgq.out.trans (by (repeat (first | exact gR _ | refine gO ?_ _ | refine gA ?_ _ | refine gD ?_ | refine gN ?_ _))), (by first | rfl | omega | (simp <;> omega)), rfl, ?_⟩
        rw [List.append_nil]
        exact (HOq.out.made (by omega) #[] 3 1 0 wr.heap.size rfl (by decide) rfl).perm (List.perm_middle (l₁ := [_, _, _])).symm
      case round =>
        obtain ⟨n, x, fc, rfl, ⟨hx0, hx1⟩, hn, hface, hmt, hgk, hsk, hlen, hOk⟩ := hrel
        obtain ⟨p7, c7, rfl, _, _, _, _, _⟩ := hOk.form (k := 3) rfl
        obtain ⟨m, rfl⟩ := Int.eq_ofNat_of_zero_le hx0
        have hm : m < M := by omega
        obtain ⟨gM, cM, eM, _, kM, _, _, nM, mM⟩ := hOk.some (k := 0) rfl (by omega)
        cases eM
        have x1 := mM m _ (bls_get _ hm)
        have x2 := nM m
        have Hface := Lib.hid hface
        have Hmt := Lib.hid hmt
        have Hgk := Lib.hid hgk
        have HOk := Lib.hid hOk
        have hfcl : fc.length ≤ 200 := by omega
        clear hface hmt hgk hOk nM mM hlen
        by_cases hin : (m : Int) ∈ S ++ fc
        · rw [decide_eq_true hin] at x1
          have Hfc : Hid (faceN (nxF A) M S d = fc) := Lib.hid (by rw [Hface.out, faceN_in hin, List.append_nil])
          clear hin
          have h0 : ¬ fc = [] := by rw [← Hfc.out]; exact Hd0.out
          have Hst : Hid (facesN (nxF A) M (d + 1) = (S ++ fc, fs ++ [fc])) := Lib.hid (by simp only [facesN]; rw [HS.out, Hfs.out, Hfc.out, if_neg h0])
          clear h0
          go_wp2_with (at_builtin; refine wp_append_owns rfl _ _ 23 rfl 28 1 24 (.slice none 0 0) Tryd.underlying23 Tryd.infoInts rfl (by decide) (w.heap.size + 1) _ 1 _ _ _ (HOk.out.grew (by (repeat (first | exact gR _ | refine gO ?_ _ | refine gA ?_ _ | refine gD ?_ | refine gN ?_ _)))) rfl rfl _ 1 1 rfl [.slice p7 fc.length c7] rfl (fun h => by cases h) (one_news _ (by (simp [go_sem, ↓IntWalk.iteOmega]))) (by simp [Value.oneCell']) (by simp only [maxLen]; omega) (by omega) (by first | rfl | omega | (simp <;> omega)) ?_; intro v1 w1 hO1 hg1 hb1 _; have Hg1 := Lib.hid (Grew.grownBy (w0 := w) (Hgk.out.trans (by (repeat (first | exact gR _ | refine gO ?_ _ | refine gA ?_ _ | refine gD ?_ | refine gN ?_ _)))) hg1 (fun g h => by have := hb1 g h; omega)); have HO1 := Lib.hid hO1; have hs1 := hg1.size; simp at hs1; clear hO1 hg1 hb1)
          go_roundw
          case rel =>
            refine ⟨d + 1, by omega, by go_num, Hg1.out, by omega, vals ++ [.slice p7 fc.length c7], by rw [Hst.out, List.length_append, List.length_append, Hvl.out]; rfl, ?_⟩
            rw [Hst.out]
            have h := HO1.out
            simp only [frRows, List.set_cons_succ, List.set_cons_zero] at h
            unfold frRows
            rw [List.length_append, matRows_snoc Hvl.out]
            refine h.perm ?_
            exact List.Perm.cons _ (List.Perm.cons _ (List.Perm.cons _ (List.perm_append_singleton _ _).symm))
          case measure => simp [intOf]; omega
        · have hmt2 := Hmt.out.snoc (x := (m : Int)) (by omega) (by omega) hin
          have hlen2 := hmt2.len
          simp only [List.length_append, List.length_cons, List.length_nil] at hlen2
          obtain ⟨n', rfl⟩ : ∃ n', n = n' + 1 := ⟨n - 1, by omega⟩
          have Hface2 : Hid (faceN (nxF A) M S d = (fc ++ [(m : Int)]) ++ faceN (nxF A) n' (S ++ (fc ++ [(m : Int)])) (nxF A m)) := Lib.hid (by
            rw [Hface.out, faceN, if_neg hin, List.append_assoc, List.append_assoc]
            rfl)
          rw [decide_eq_false hin] at x1
          have Hmt2 := Lib.hid hmt2
          have hxn := Hnx2.out m (by omega) (by omega)
          have hME := HME.out
          obtain ⟨ho1, ho2⟩ := oth_in (d := (m : Int)) (M := E.length) (by omega) (by omega)
          obtain ⟨o, hoe⟩ : ∃ o : Nat, oth m = (o : Int) := ⟨(oth m).toNat, by omega⟩
          have hol : o < M := by omega
          have Ho := Lib.hid (fun W1 : World => (hoe ▸ other_r m W1 (by omega) : Calls Tryd.prog 51 #[.int .i64 m] W1 fun e w' => e = .returned (.int .i64 (o : Int)) ∧ W1 = w'))
          have hnx : nxF A m = sucF A o := by unfold nxF; rw [hoe]
          rw [hnx] at hxn Hface2
          have HOs := Lib.hid (HOk.out.set (k := 0) rfl m (.bool true))
          have Hgs := Lib.hid (Hgk.out.setCell (show w.heap.size ≤ (⟨B, m, none⟩ : Addr).block by have := HB.out; dsimp only; omega) (.bool true))
          clear hmt2 hin hoe ho1 ho2 hnx hME
          go_wp2_with (first
            | (at_builtin; refine wp_append_owns rfl _ _ 28 rfl 3 1 8 (.int .i64 0) Tryd.underlying28 Tryd.infoInt rfl (by decide) (w.heap.size + 1) _ 3 _ _ _ (HOs.out.grew (by (repeat (first | exact gR _ | refine gO ?_ _ | refine gA ?_ _ | refine gD ?_ | refine gN ?_ _)))) rfl rfl _ 1 1 rfl [.int .i64 (m : Int)] rfl (fun h => by cases h) (one_news _ (by (simp [go_sem, ↓IntWalk.iteOmega]))) (by simp [Value.oneCell']) (by simp only [maxLen]; omega) (by omega) (by first | rfl | omega | (simp <;> omega)) ?_; intro v1 w1 hO1 hg1 hb1 _; obtain ⟨p1, c1, rfl, _, _, _, _, _⟩ := hO1.form (k := 3) rfl; obtain ⟨gF2, cF2, eF2, _, _, _, _, _, mF2⟩ := hO1.some (k := 2) rfl (by omega); cases eF2; have e1 := mF2 o _ (intVs_get _ (by rw [folA, tab_length]; exact hol)); rw [folA, ge_tab _ hol] at e1; have Hg1 := Lib.hid (Grew.grownBy (w0 := w) (Hgs.out.trans (by (repeat (first | exact gR _ | refine gO ?_ _ | refine gA ?_ _ | refine gD ?_ | refine gN ?_ _)))) hg1 (fun g h => by have := hb1 g h; omega)); have HO1 := Lib.hid hO1; have hs1 := hg1.size; simp at hs1; clear hO1 hg1 hb1 mF2)
            | (go_at_call 51; apply Calls.mono; (with_reducible exact Ho.out _); rintro e w' ⟨rfl, rfl⟩))
          go_roundw
          case rel =>
            refine ⟨n', sucF A o, fc ++ [(m : Int)], rfl, hxn, by rw [List.length_append]; simp; omega, Hface2.out, by rw [← List.append_assoc]; exact Hmt2.out, Hg1.out, by omega, by rw [List.length_append]; rfl, ?_⟩
            have h := HO1.out
            rw [bls_set _ hm, List.append_assoc] at h
            simp only [frRows, List.set_cons_succ, List.set_cons_zero] at h
            unfold frRows
            rw [List.length_append, intVs_app']
            exact h
          case measure => simp [lenOf]; omega
    · have hde : d = M := by omega
      subst hde
      have Hb : Hid (∀ l ∈ (facesN (nxF A) d d).2, ∀ x ∈ l, -9223372036854775808 ≤ x ∧ x ≤ 9223372036854775807) := Lib.hid (fun l hl x hx => by
        have := hmet.2 x (facesN_in d l hl x hx)
        omega)
      have HOq := Lib.hid hOq
      have Hvl := Lib.hid hvl
      have Hgq := Lib.hid hgq
      clear hOq hvl hmet hgq
      go_wp2
      go_ret
      rw [Hf.out]
      obtain ⟨q, cap, e, h⟩ := mat_of_owns (rs := [⟨.slice (some ⟨B, 0, none⟩) d d, 4, 1, d, bls d (facesN (nxF A) d d).1⟩, ⟨.slice qF d cF, 3, 1, d, intVs (folA A d)⟩]) Hvl.out Hb.out (HOq.out.perm ((List.Perm.swap _ _ _).trans (List.Perm.cons _ (List.perm_append_comm (l₁ := [_, _])))))
      cases e
      exact ⟨Hgq.out, _, _, rfl, h⟩

end Go.Proofs.YtiihgpgpbgafiaaDoor

/- Components: plain part. -/
namespace Go.Proofs.YtiihgpgpbgafiaaDoor
open Go.RowKit

/-- An edge among the first j has the ends u and v. -/
def nbrJ (E : List (Int × Int)) (j : Nat) (u v : Int) : Prop := ∃ i, i < j ∧ (((pr E i).1 = u ∧ (pr E i).2 = v) ∨ ((pr E i).2 = u ∧ (pr E i).1 = v))
theorem nbrJ.symm {E : List (Int × Int)} {j : Nat} {u v : Int} (h : nbrJ E j u v) : nbrJ E j v u := by
  obtain ⟨i, hi, h | h⟩ := h
  · exact ⟨i, hi, Or.inr ⟨h.2, h.1⟩⟩
  · exact ⟨i, hi, Or.inl ⟨h.2, h.1⟩⟩
inductive Cn (E : List (Int × Int)) (j : Nat) : Int → Int → Prop
  | refl (u : Int) : Cn E j u u
  | step {u v w : Int} : Cn E j u v → nbrJ E j v w → Cn E j u w
theorem Cn.trans {E : List (Int × Int)} {j : Nat} {u v w : Int} (h : Cn E j u v) (k : Cn E j v w) : Cn E j u w := by
  induction k with
  | refl => exact h
  | step _ hn ih => exact ih.step hn
theorem Cn.symm {E : List (Int × Int)} {j : Nat} {u v : Int} (h : Cn E j u v) : Cn E j v u := by
  induction h with
  | refl => exact Cn.refl _
  | step _ hn ih => exact ((Cn.refl _).step hn.symm).trans ih
theorem Cn.mono {E : List (Int × Int)} {i j : Nat} (hij : i ≤ j) {u v : Int} (h : Cn E i u v) : Cn E j u v := by
  induction h with
  | refl => exact Cn.refl _
  | step _ hn ih =>
    obtain ⟨k, hk, hn⟩ := hn
    exact ih.step ⟨k, by omega, hn⟩
theorem Cn.edge (E : List (Int × Int)) (j : Nat) : Cn E (j + 1) (pr E j).1 (pr E j).2 := (Cn.refl _).step ⟨j, by omega, Or.inl ⟨rfl, rfl⟩⟩
/-- What one edge more joins. -/
theorem Cn.split {E : List (Int × Int)} {j : Nat} {u v : Int} (h : Cn E (j + 1) u v) :
    Cn E j u v ∨ (Cn E j u (pr E j).1 ∧ Cn E j (pr E j).2 v) ∨ (Cn E j u (pr E j).2 ∧ Cn E j (pr E j).1 v) := by
  induction h with
  | refl => exact Or.inl (Cn.refl _)
  | step _ hn ih =>
    obtain ⟨i, hi, hn⟩ := hn
    by_cases e : i = j
    · subst e
      rcases hn with ⟨rfl, rfl⟩ | ⟨rfl, rfl⟩
      · rcases ih with h | ⟨h, _⟩ | ⟨h, _⟩
        · exact Or.inr (Or.inl ⟨h, Cn.refl _⟩)
        · exact Or.inr (Or.inl ⟨h, Cn.refl _⟩)
        · exact Or.inl h
      · rcases ih with h | ⟨h, _⟩ | ⟨h, _⟩
        · exact Or.inr (Or.inr ⟨h, Cn.refl _⟩)
        · exact Or.inl h
        · exact Or.inr (Or.inr ⟨h, Cn.refl _⟩)
    · have hn' : nbrJ E j _ _ := ⟨i, by omega, hn⟩
      rcases ih with h | ⟨h, h2⟩ | ⟨h, h2⟩
      · exact Or.inl (h.step hn')
      · exact Or.inr (Or.inl ⟨h, h2.step hn'⟩)
      · exact Or.inr (Or.inr ⟨h, h2.step hn'⟩)

/-- The least of its component. -/
def isL (E : List (Int × Int)) (j : Nat) (v : Int) : Prop := ∀ u, 0 ≤ u → u < v → ¬ Cn E j u v
open Classical in
noncomputable def cntP (p : Nat → Prop) : Nat → Nat
  | 0 => 0
  | n + 1 => cntP p n + if p n then 1 else 0
theorem cntP_congr {p q : Nat → Prop} : ∀ {n : Nat}, (∀ v, v < n → (p v ↔ q v)) → cntP p n = cntP q n
  | 0, _ => rfl
  | n + 1, h => by
    have h1 := cntP_congr (n := n) (fun v hv => h v (by omega))
    have h2 := h n (by omega)
    simp only [cntP, h1]
    by_cases hq : q n
    · rw [if_pos hq, if_pos (h2.2 hq)]
    · rw [if_neg hq, if_neg (fun hp => hq (h2.1 hp))]
theorem cntP_le (p : Nat → Prop) : ∀ n, cntP p n ≤ n
  | 0 => Nat.le_refl _
  | n + 1 => by have := cntP_le p n; simp only [cntP]; split <;> omega
theorem cntP_all {p : Nat → Prop} : ∀ {n : Nat}, (∀ v, v < n → p v) → cntP p n = n
  | 0, _ => rfl
  | n + 1, h => by simp only [cntP]; rw [cntP_all (fun v hv => h v (by omega)), if_pos (h n (by omega))]
/-- One less. -/
theorem cntP_drop {p q : Nat → Prop} {x : Nat} (hp : p x) (hq : ¬ q x) : ∀ {n : Nat}, x < n → (∀ v, v < n → v ≠ x → (p v ↔ q v)) → cntP p n = cntP q n + 1
  | 0, h, _ => by omega
  | n + 1, h, hv => by
    simp only [cntP]
    by_cases e : x = n
    · subst e
      rw [cntP_congr (p := p) (q := q) (n := x) (fun v hvx => hv v (by omega) (by omega)), if_pos hp, if_neg hq]
    · have := cntP_drop hp hq (n := n) (by omega) (fun v h1 h2 => hv v (by omega) h2)
      have h2 := hv n (by omega) (Ne.symm e)
      rw [this]
      by_cases hq : q n
      · rw [if_pos hq, if_pos (h2.2 hq)]
      · rw [if_neg hq, if_neg (fun hp => hq (h2.1 hp))]

/-- The number of components, of the first v vertices only those that are the least of theirs. -/
noncomputable def cntL (E : List (Int × Int)) (v : Nat) : Nat := cntP (fun v : Nat => isL E E.length v) v

/-! ### The reference's forest -/
structure UpOK (E : List (Int × Int)) (j N : Nat) (up : List Int) : Prop where
  len : up.length = N
  le : ∀ v, v < N → 0 ≤ ge up v ∧ ge up v ≤ v
  cn : ∀ v, v < N → Cn E j (ge up v) v
  ls : ∀ v : Nat, v < N → ge up v = v → isL E j v
noncomputable def cntR (up : List Int) (N : Nat) : Nat := cntP (fun v : Nat => ge up v = v) N
theorem UpOK.root_eq {E : List (Int × Int)} {j N : Nat} {up : List Int} (h : UpOK E j N up) {r s : Nat} (hr : r < N) (hs : s < N) (er : ge up r = r) (es : ge up s = s) (hc : Cn E j r s) : r = s := by
  rcases Nat.lt_trichotomy r s with hl | hl | hl
  · exact absurd hc (h.ls s hs es r (by omega) (by omega))
  · exact hl
  · exact absurd hc.symm (h.ls r hr er s (by omega) (by omega))
theorem UpOK.keep {E : List (Int × Int)} {j N : Nat} {up : List Int} (h : UpOK E j N up) {r : Nat} (hr : Cn E j r (pr E j).1) (hs : Cn E j r (pr E j).2) : UpOK E (j + 1) N up := by
  refine ⟨h.len, h.le, fun v hv => (h.cn v hv).mono (by omega), fun v hv e u hu huv hc => ?_⟩
  rcases hc.split with hc | ⟨h1, h2⟩ | ⟨h1, h2⟩
  · exact h.ls v hv e u hu huv hc
  · exact h.ls v hv e u hu huv ((h1.trans hr.symm).trans (hs.trans h2))
  · exact h.ls v hv e u hu huv ((h1.trans hs.symm).trans (hr.trans h2))
theorem ge_set_same (l : List Int) {i : Nat} (h : i < l.length) (x : Int) : ge (l.set i x) i = x := by simp [ge, h]
theorem ge_set_other (l : List Int) {i j : Nat} (h : i ≠ j) (x : Int) : ge (l.set i x) j = ge l j := by simp [ge, List.getElem?_set, h]
/-- Two trees are joined: hi's root gets the parent lo. -/
theorem UpOK.join {E : List (Int × Int)} {j N : Nat} {up : List Int} (h : UpOK E j N up) {lo hi : Nat} (hl : lo < hi) (hN : hi < N) (el : ge up lo = lo) (eh : ge up hi = hi)
    (hc : (Cn E j lo (pr E j).1 ∧ Cn E j hi (pr E j).2) ∨ (Cn E j hi (pr E j).1 ∧ Cn E j lo (pr E j).2)) : UpOK E (j + 1) N (up.set hi lo) ∧ cntR up N = cntR (up.set hi lo) N + 1 := by
  have hle := h.len
  have hj : Cn E (j + 1) lo hi := by
    rcases hc with ⟨h1, h2⟩ | ⟨h1, h2⟩
    · exact ((h1.mono (by omega)).trans (Cn.edge E j)).trans (h2.symm.mono (by omega))
    · exact ((h2.mono (by omega)).trans (Cn.edge E j).symm).trans (h1.symm.mono (by omega))
  refine ⟨⟨by simpa using h.len, fun v hv => ?_, fun v hv => ?_, fun v hv e => ?_⟩, ?_⟩
  · by_cases e : hi = v
    · subst e; rw [ge_set_same _ (by omega)]; omega
    · rw [ge_set_other _ e]; exact h.le v hv
  · by_cases e : hi = v
    · subst e; rw [ge_set_same _ (by omega)]; exact hj
    · rw [ge_set_other _ e]; exact (h.cn v hv).mono (by omega)
  · by_cases eh2 : hi = v
    · subst eh2; rw [ge_set_same _ (by omega)] at e; omega
    rw [ge_set_other _ eh2] at e
    intro u hu huv hcn
    have key : ∀ {s : Nat}, s < N → ge up s = s → s ≠ hi → (s = lo ∨ s = hi) → ∀ {u : Int}, 0 ≤ u → Cn E j u hi → ¬ u < s := by
      intro s _ _ hs hlh u hu hc hlt
      have : s = lo := hlh.resolve_right hs
      exact h.ls hi hN eh u hu (by omega) hc
    rcases hcn.split with h0 | ⟨h1, h2⟩ | ⟨h1, h2⟩
    · exact h.ls v hv e u hu huv h0
    · rcases hc with ⟨c1, c2⟩ | ⟨c1, c2⟩
      · exact eh2 (h.root_eq hN hv eh e (c2.trans h2))
      · have : lo = v := h.root_eq (by omega) hv el e (c2.trans h2)
        subst this
        exact h.ls hi hN eh u hu (by omega) (h1.trans c1.symm)
    · rcases hc with ⟨c1, c2⟩ | ⟨c1, c2⟩
      · have : lo = v := h.root_eq (by omega) hv el e (c1.trans h2)
        subst this
        exact h.ls hi hN eh u hu (by omega) (h1.trans c2.symm)
      · exact eh2 (h.root_eq hN hv eh e (c1.trans h2))
  · refine cntP_drop (x := hi) eh ?_ hN (fun v hv hne => ?_)
    · rw [ge_set_same _ (by omega)]; omega
    · rw [ge_set_other _ (Ne.symm hne)]
theorem UpOK.count {E : List (Int × Int)} {N : Nat} {up : List Int} (h : UpOK E E.length N up) : cntR up N = cntL E N := by
  refine cntP_congr fun v hv => ⟨h.ls v hv, fun hL => ?_⟩
  have := h.le v hv
  refine Classical.byContradiction fun hne => hL (ge up v) this.1 (by omega) (h.cn v hv)
def idL (N : Nat) : List Int := (List.range N).map fun v : Nat => (v : Int)
theorem idL_len (N : Nat) : (idL N).length = N := by simp [idL]
theorem ge_idL {N v : Nat} (h : v < N) : ge (idL N) v = v := by simp [ge, idL, h]
theorem Cn_zero {E : List (Int × Int)} {u v : Int} (h : Cn E 0 u v) : u = v := by
  induction h with
  | refl => rfl
  | step _ hn _ => obtain ⟨i, hi, _⟩ := hn; omega
theorem UpOK.start (E : List (Int × Int)) (N : Nat) : UpOK E 0 N (idL N) ∧ cntR (idL N) N = N := by
  refine ⟨⟨idL_len N, fun v hv => by rw [ge_idL hv]; omega, fun v hv => by rw [ge_idL hv]; exact Cn.refl _, fun v hv _ u hu huv hc => ?_⟩, cntP_all fun v hv => ge_idL hv⟩
  have := Cn_zero hc
  omega

/-! ### The program's search -/
def old (E : List (Int × Int)) (v : Nat) (x : Int) : Prop := ∃ u : Int, 0 ≤ u ∧ u < v ∧ Cn E E.length u x
structure Bfs (E : List (Int × Int)) (N v : Nat) (S q : List Int) : Prop where
  met : Met N S
  od : ∀ x, old E v x → x ∈ S
  sd : ∀ x ∈ S, old E (v + 1) x
  qs : ∀ x ∈ q, x ∈ S
  vn : (v : Int) ∈ S
  cl : ∀ x ∈ S, x ∈ q ∨ ∀ y, nbrJ E E.length x y → y ∈ S
theorem old.mono {E : List (Int × Int)} {v : Nat} {x : Int} (h : old E v x) : old E (v + 1) x := by
  obtain ⟨u, h1, h2, h3⟩ := h
  exact ⟨u, h1, by push_cast; omega, h3⟩
theorem old.step {E : List (Int × Int)} {v : Nat} {x y : Int} (h : old E v x) (hn : nbrJ E E.length x y) : old E v y := by
  obtain ⟨u, h1, h2, h3⟩ := h
  exact ⟨u, h1, h2, h3.step hn⟩
theorem Bfs.start {E : List (Int × Int)} {N v : Nat} {S : List Int} (hm : Met N S) (hS : ∀ x, x ∈ S ↔ old E v x) (hv : v < N) (hn : (v : Int) ∉ S) : Bfs E N v (S ++ [(v : Int)]) [(v : Int)] := by
  refine ⟨hm.snoc (by omega) (by omega) hn, fun x hx => List.mem_append_left _ ((hS x).2 hx), fun x hx => ?_, fun x hx => List.mem_append_right _ hx, by simp, fun x hx => ?_⟩
  · rcases List.mem_append.1 hx with hx | hx
    · exact ((hS x).1 hx).mono
    · rw [List.mem_singleton.1 hx]; exact ⟨v, by omega, by push_cast; omega, Cn.refl _⟩
  · rcases List.mem_append.1 hx with hx | hx
    · exact Or.inr fun y hy => List.mem_append_left _ ((hS y).2 (((hS x).1 hx).step hy))
    · exact Or.inl hx
theorem Bfs.add {E : List (Int × Int)} {N v : Nat} {S q : List Int} (h : Bfs E N v S q) {x y : Int} (hx : x ∈ S) (hn : nbrJ E E.length x y) (hy : y ∉ S) (h0 : 0 ≤ y) (h1 : y < N) : Bfs E N v (S ++ [y]) (q ++ [y]) := by
  refine ⟨h.met.snoc h0 h1 hy, fun z hz => List.mem_append_left _ (h.od z hz), fun z hz => ?_, fun z hz => ?_, List.mem_append_left _ h.vn, fun z hz => ?_⟩
  · rcases List.mem_append.1 hz with hz | hz
    · exact h.sd z hz
    · rw [List.mem_singleton.1 hz]; exact (h.sd x hx).step hn
  · rcases List.mem_append.1 hz with hz | hz
    · exact List.mem_append_left _ (h.qs z hz)
    · exact List.mem_append_right _ hz
  · rcases List.mem_append.1 hz with hz | hz
    · rcases h.cl z hz with h2 | h2
      · exact Or.inl (List.mem_append_left _ h2)
      · exact Or.inr fun w hw => List.mem_append_left _ (h2 w hw)
    · exact Or.inl (List.mem_append_right _ hz)
theorem Bfs.cut {E : List (Int × Int)} {N v : Nat} {S q : List Int} {x : Int} (h : Bfs E N v S (x :: q)) (hx : ∀ y, nbrJ E E.length x y → y ∈ S) : Bfs E N v S q := by
  refine ⟨h.met, h.od, h.sd, fun z hz => h.qs z (List.mem_cons_of_mem _ hz), h.vn, fun z hz => ?_⟩
  rcases h.cl z hz with h2 | h2
  · rcases List.mem_cons.1 h2 with rfl | h2
    · exact Or.inr hx
    · exact Or.inl h2
  · exact Or.inr h2
theorem Bfs.done {E : List (Int × Int)} {N v : Nat} {S : List Int} (h : Bfs E N v S []) : ∀ x, x ∈ S ↔ old E (v + 1) x := by
  have hcl : ∀ x ∈ S, ∀ y, nbrJ E E.length x y → y ∈ S := fun x hx => (h.cl x hx).resolve_left (fun h => by cases h)
  refine fun x => ⟨h.sd x, fun hx => ?_⟩
  obtain ⟨u, h1, h2, h3⟩ := hx
  by_cases e : u < v
  · exact h.od x ⟨u, h1, e, h3⟩
  · have : u = v := by push_cast at h2; omega
    subst this
    have : ∀ {a b : Int}, Cn E E.length a b → a ∈ S → b ∈ S := by
      intro a b hab ha
      induction hab with
      | refl => exact ha
      | step _ hn ih => exact hcl _ ih _ hn
    exact this h3 h.vn
theorem cntL_succ {E : List (Int × Int)} {N v : Nat} {S : List Int} (hS : ∀ x, x ∈ S ↔ old E v x) : cntL E (v + 1) = cntL E v + if (v : Int) ∈ S then 0 else 1 := by
  unfold cntL
  simp only [cntP]
  congr 1
  by_cases h : (v : Int) ∈ S
  · rw [if_pos h, if_neg]
    intro hL
    obtain ⟨u, h1, h2, h3⟩ := (hS v).1 h
    exact hL u h1 h2 h3
  · rw [if_neg h, if_pos]
    intro u h1 h2 h3
    exact h ((hS v).2 ⟨u, h1, h2, h3⟩)

/-- Darts and edges. -/
theorem nbr_dart {E : List (Int × Int)} {d : Int} (h0 : 0 ≤ d) (h1 : d < 2 * E.length) : nbrJ E E.length (tailE E d) (tailE E (oth d)) := by
  refine ⟨(d / 2).toNat, by omega, ?_⟩
  by_cases e : d % 2 = 0
  · have e1 : oth d = d + 1 := by unfold oth; rw [if_pos e]
    have e2 : (d + 1) % 2 ≠ 0 := by omega
    have e3 : (d + 1) / 2 = d / 2 := by omega
    left
    unfold tailE
    rw [e1, if_pos e, if_neg e2, e3]
    exact ⟨rfl, rfl⟩
  · have e1 : oth d = d - 1 := by unfold oth; rw [if_neg e]
    have e2 : (d - 1) % 2 = 0 := by omega
    have e3 : (d - 1) / 2 = d / 2 := by omega
    right
    unfold tailE
    rw [e1, if_neg e, if_pos e2, e3]
    exact ⟨rfl, rfl⟩
theorem dart_nbr {E : List (Int × Int)} {u v : Int} (h : nbrJ E E.length u v) : ∃ d : Int, 0 ≤ d ∧ d < 2 * E.length ∧ tailE E d = u ∧ tailE E (oth d) = v := by
  obtain ⟨i, hi, h | h⟩ := h
  · refine ⟨2 * i, by omega, by omega, ?_, ?_⟩
    · unfold tailE; rw [if_pos (by omega), show (2 * (i : Int) / 2).toNat = i by omega]; exact h.1
    · unfold oth tailE; rw [if_pos (by omega : (2 * (i : Int)) % 2 = 0), if_neg (by omega), show ((2 * (i : Int) + 1) / 2).toNat = i by omega]; exact h.2
  · refine ⟨2 * i + 1, by omega, by omega, ?_, ?_⟩
    · unfold tailE; rw [if_neg (by omega), show ((2 * (i : Int) + 1) / 2).toNat = i by omega]; exact h.1
    · unfold oth tailE; rw [if_neg (by omega : ¬ (2 * (i : Int) + 1) % 2 = 0), if_pos (by omega), show ((2 * (i : Int) + 1 - 1) / 2).toNat = i by omega]; exact h.2
theorem tail_in {N : Int} {E : List (Int × Int)} {A : List (List Int)} (hV : vRot N E A) {d : Int} (h0 : 0 ≤ d) (h1 : d < 2 * E.length) : 0 ≤ tailE E d ∧ tailE E d < N := by
  have := hV.ed (d / 2).toNat (by omega)
  unfold okEdge at this
  unfold tailE
  split <;> omega
/-- When all darts around x have been met, so have all its neighbours. -/
theorem nbr_all {N : Int} {E : List (Int × Int)} {A : List (List Int)} (hV : vRot N E A) {x : Nat} {S : List Int} (h : ∀ k, k < (rowOf A x).length → tailE E (oth (ge (rowOf A x) k)) ∈ S) : ∀ y, nbrJ E E.length x y → y ∈ S := by
  intro y hy
  obtain ⟨d, h0, h1, h2, h3⟩ := dart_nbr hy
  obtain ⟨v, k, hv, hk, he, ht⟩ := dart_pos hV h0 h1
  have : v = x := by omega
  subst this
  have := h k hk
  rw [he, h3] at this
  exact this
theorem dart_of {N : Int} {E : List (Int × Int)} {A : List (List Int)} (hV : vRot N E A) {x k : Nat} (hx : x < A.length) (hk : k < (rowOf A x).length) : 0 ≤ ge (rowOf A x) k ∧ ge (rowOf A x) k < 2 * E.length ∧ tailE E (ge (rowOf A x) k) = x :=
  hV.dr (x, ge (rowOf A x) k) (mem_pre.2 ⟨k, hx, hk, rfl⟩)

end Go.Proofs.YtiihgpgpbgafiaaDoor

/- A queue: a slice of the call's own whose beginning has been cut off; what is appended to it. -/
namespace Go.Proofs.YtiihgpgpbgafiaaDoor
open Go.RowKit

/-- The row below a queue: p elements have been cut off. -/
def qRow (e : TypeId) (g p cap : Nat) (ys xs : List Value) : Row := ⟨.slice (some ⟨g, 0, none⟩) (p + xs.length) (p + cap), e, 1, p + xs.length, ys ++ xs⟩

/-- The first element of a queue. -/
theorem owns_first {w : World} {B : Nat} {rs : List Row} (h : Owns w B rs) {k : Nat} {e : TypeId} {g p cap : Nat} {ys xs : List Value} (hk : rs[k]? = some (qRow e g p cap ys xs)) (hp : ys.length = p) :
    xs.length ≤ cap ∧ B ≤ g ∧ g < w.heap.size ∧ p + cap ≤ maxLen ∧ ∀ j u, xs[j]? = some u → w.cell? ⟨g, p + j, none⟩ = some u := by
  obtain ⟨h1, h2⟩ := h.get hk
  rcases h2 with ⟨h2, _⟩ | ⟨g', cap', h2, h3, h4, h5, h6, _, h8⟩
  · cases h2
  · cases h2
    refine ⟨by omega, h3, h4, h6, fun j u hu => h8 _ u ?_⟩
    rw [List.getElem?_append_right (by omega), show p + j - ys.length = j by omega]
    exact hu
/-- One element is cut off. -/
theorem qRow_cut (e : TypeId) (g p cap : Nat) (ys : List Value) (x : Value) (xs : List Value) : qRow e g p (cap + 1) ys (x :: xs) = qRow e g (p + 1) cap (ys ++ [x]) xs := by
  unfold qRow
  have h1 : p + (x :: xs).length = p + 1 + xs.length := by simp; omega
  have h2 : p + (cap + 1) = p + 1 + cap := by omega
  rw [h1, h2, List.append_assoc]
  rfl

theorem owp_append_que {P : Program} {o : Oper} {a : Act} {K : Act → World → Prop} {Q : Exit → Act → World → Prop} {w : World} (s x : Operand) (t : TypeId)
    (ho : o.op = .call { callee := .builtin .append, args := #[s, x], argTypes := #[t, t] }) (e : TypeId) (bytes : Nat) (z : Value) (ht : P.underlying t = some (.slice e))
    (hinfo : (P.info? e).map (fun i => (i.zero, i.size, i.bytes)) = some (some z, 1, bytes)) (hzs : z.cells.size = 1)
    (B : Nat) (rs : List Row) (k g off p cap n : Nat) (ys xs : List Value) (hO : Owns w B rs) (hk : rs[k]? = some (qRow e g p cap ys xs)) (hys : ys.length = p) (hoff : 0 < cap → off = p) (hn : xs.length = n) (hs : a.eval s = .slice (some ⟨g, off, none⟩) n cap)
    (ad : Addr) (c : Nat) (hx : a.eval x = .slice (some ad) 1 c) (u : Value) (hu : w.cell? (ad.add 0) = some u) (h1 : u.oneCell' = true)
    (hlen : n + 1 ≤ maxLen) (hbytes : (n + 1) * bytes ≤ 140737488355328) (hB : B ≤ w.heap.size)
    (h : ∀ g' off' p' cap' ys' w', Owns w' B (rs.set k (qRow e g' p' cap' ys' (xs ++ [u]))) → ys'.length = p' → (0 < cap' → off' = p') → n + 1 ≤ cap' → w.grownBy w' (some g) → B ≤ g → K (a.put o.dst (.slice (some ⟨g', off', none⟩) (n + 1) cap')) w') :
    o.wp P a w K Q := by
  subst hn
  obtain ⟨i0, hi, hz0, hz1, hz2⟩ := info_parts hinfo
  obtain ⟨hle, hBg, hgl, hmx, hcells⟩ := owns_first hO hk hys
  have hrow : w.ownsRow B e 1 (.slice (some ⟨g, 0, none⟩) (p + xs.length) (p + cap)) (p + xs.length) (ys ++ xs) := hO.1 k _ hk
  obtain ⟨r1, r2⟩ := hrow
  rcases r2 with ⟨h2, _⟩ | ⟨g', cap', cur, hv', hb, hh, _, hm, hsz, htk⟩
  · cases h2
  cases hv'
  have hnews : ∀ j v, [u][j]? = some v → w.cell? (ad.add j) = some v := by
    intro j v hj
    match j, hj with
    | 0, hj => simp at hj; subst hj; exact hu
  have h1' : ∀ v ∈ [u], v.oneCell' = true := by simp [h1]
  by_cases hroom : xs.length + 1 ≤ cap
  · have hop := hoff (by omega)
    subst hop
    have hrun := run_append_room_cells (P := P) w t o.type e i0 ht hi g off xs.length cap ad 1 c [u] (by simp [hz1]) hnews h1' hroom (fun j hj => by
        simp at hj
        subst hj
        rw [hz1, Nat.mul_one, Nat.add_zero]
        unfold World.cell?
        simp only [hh]
        have : off + xs.length < cur.size := by omega
        simp [this]) (fun j hj => by
        exact frozen_of_row w g _ cur e hh)
    unfold Oper.wp
    simp [execOp, ho, resolve, invoke, builtin, hs, hx, hrun, Result.andThen]
    have hgb : w.grownBy (w.setCell ⟨g, off + xs.length * i0.size, none⟩ u) (some g) := by
      refine ⟨rfl, rfl, rfl, by simp [World.setCell], fun j hj hne => ?_⟩
      simp only [World.setCell, Array.getElem?_modify]
      rw [if_neg (fun e => hne (by simp [e]))]
    refine h g off off cap ys _ (hO.put hk hgb ?_ (fun g' hg' => Or.inl hg')) hys (fun _ => rfl) hroom hgb hBg
    rw [hz1, Nat.mul_one]
    refine ⟨by simp [qRow, hys], Or.inr ⟨g, off + cap, cur.setIfInBounds (off + xs.length) u, rfl, hb, ?_, (by simp [qRow]; omega), hm, (by simpa [qRow] using hsz), ?_⟩⟩
    · show (w.setCell ⟨g, off + xs.length, none⟩ u).heap[g]? = _
      simp only [World.setCell, Array.getElem?_modify, hh]
      simp [qRow]
    · simp only [qRow, List.length_append, List.length_cons, List.length_nil, Nat.mul_one]
      rw [Array.toList_setIfInBounds, show off + (xs.length + (0 + 1)) = off + xs.length + 1 by omega]
      have hlt : off + xs.length < cur.toList.length := by simp; omega
      rw [List.take_succ_eq_append_getElem (by simpa using hlt), List.getElem_set_self, List.take_set_of_le (Nat.le_refl _)]
      rw [Nat.mul_one] at htk
      rw [htk, List.append_assoc]
  · obtain ⟨v', w', hrun, q1, q2⟩ := run_append_arg_grows (P := P) w t o.type e i0 z 1 bytes ht hi hz0 hz1 hz2 hzs (by decide) ⟨g, off, none⟩ xs.length cap xs (by simp) (fun j v hj => by
        have hl := (List.getElem?_eq_some_iff.1 hj).1
        rw [hoff (by omega), Addr.add_lit]
        exact hcells j v hj) ad 1 c [u] (by simp) hnews (by omega) hlen hbytes
    unfold Oper.wp
    simp [execOp, ho, resolve, invoke, builtin, hs, hx, hrun, Result.andThen]
    have hv : ∃ g' cap', v' = .slice (some ⟨g', 0, none⟩) (xs.length + 1) cap' ∧ w.heap.size ≤ g' ∧ xs.length + 1 ≤ cap' := by
      rcases q1.2 with ⟨_, h2⟩ | ⟨g2, c2, cur2, hv2, hb2, _, hle2, _⟩
      · omega
      · exact ⟨g2, c2, hv2, hb2, hle2⟩
    obtain ⟨g', cap', rfl, hge, hcap⟩ := hv
    have hq : qRow e g' 0 cap' [] (xs ++ [u]) = ⟨.slice (some ⟨g', 0, none⟩) (xs.length + 1) cap', e, 1, xs.length + 1, xs ++ [u]⟩ := by simp [qRow]
    have hgb : w.grownBy w' (some g) := ⟨q2.os, q2.tape, q2.output, q2.size, fun j hj _ => q2.block j hj (by simp)⟩
    refine h g' 0 0 cap' [] w' ?_ rfl (fun _ => rfl) hcap hgb hBg
    rw [hq]
    exact hO.put hk hgb (ownsRow_base q1 hB) (fun g2 hg2 => Or.inr (by simp [Value.ownBlock] at hg2; omega))

theorem wp_append_que {P : Program} {ops : Array Oper} {rest : List Oper} {o : Oper} {a : Act} {Q : Exit → Act → World → Prop} {w : World} (hgd : o.guard = none) (s x : Operand) (t : TypeId)
    (ho : o.op = .call { callee := .builtin .append, args := #[s, x], argTypes := #[t, t] }) (e : TypeId) (bytes : Nat) (z : Value) (ht : P.underlying t = some (.slice e))
    (hinfo : (P.info? e).map (fun i => (i.zero, i.size, i.bytes)) = some (some z, 1, bytes)) (hzs : z.cells.size = 1)
    (B : Nat) (rs : List Row) (k g off p cap n : Nat) (ys xs : List Value) (hO : Owns w B rs) (hk : rs[k]? = some (qRow e g p cap ys xs)) (hys : ys.length = p) (hoff : 0 < cap → off = p) (hn : xs.length = n) (hs : a.eval s = .slice (some ⟨g, off, none⟩) n cap)
    (ad : Addr) (c : Nat) (hx : a.eval x = .slice (some ad) 1 c) (u : Value) (hu : w.cell? (ad.add 0) = some u) (h1 : u.oneCell' = true)
    (hlen : n + 1 ≤ maxLen) (hbytes : (n + 1) * bytes ≤ 140737488355328) (hB : B ≤ w.heap.size)
    (h : ∀ g' off' p' cap' ys' w', Owns w' B (rs.set k (qRow e g' p' cap' ys' (xs ++ [u]))) → ys'.length = p' → (0 < cap' → off' = p') → n + 1 ≤ cap' → w.grownBy w' (some g) → B ≤ g → wpList P ops Q rest (a.put o.dst (.slice (some ⟨g', off', none⟩) (n + 1) cap')) w') :
    wpList P ops Q (o :: rest) a w :=
  wpList_plain hgd fun _ hK => owp_append_que s x t ho e bytes z ht hinfo hzs B rs k g off p cap n ys xs hO hk hys hoff hn hs ad c hx u hu h1 hlen hbytes hB fun g' off' p' cap' ys' w' g1 g2 g3 g4 g5 g6 => hK _ _ (h g' off' p' cap' ys' w' g1 g2 g3 g4 g5 g6)
end Go.Proofs.YtiihgpgpbgafiaaDoor

/- components of the program: the walk. -/
namespace Go.Proofs.YtiihgpgpbgafiaaDoor
open Go.RowKit
attribute [local go_sem ↓] Go.wp_at_zero Go.wp_at_succ

set_option maxRecDepth 8000 in
set_option maxHeartbeats 16000000 in
theorem comps_p (N : Int) (pE pA : Option Addr) (nE nA cE cA : Nat) (E : List (Int × Int)) (A : List (List Int)) (w : World) (hR : RotAt w pE pA E A) (hV : vRot N E A) (hnE : E.length = nE) (hnA : A.length = nA) :
    Calls Tryd.prog 53 #[.agg #[.int .i64 N, .slice pE nE cE, .slice pA nA cA]] w fun e w' => e = .returned (.int .i64 (cntL E A.length)) ∧ Grew w w' := by
  subst hnE hnA
  have he1 := hR.e1
  have ha1 := hR.a1
  have hN : N = A.length := hV.al.symm
  subst hN
  have HR := Lib.hid hR
  have HL := Lib.hid hR.r1
  have HV := Lib.hid hV
  clear hR hV
  go_enter Tryd.func53, Tryd.ntmps53
  go_wp2_with (refine wp_make_owns rfl _ _ 74 rfl 4 1 (.bool false) Tryd.underlying74 Tryd.infoBool rfl .i64 .i64 _ _ A.length rfl rfl rfl rfl (by omega) (by simp only [maxLen]; omega) (w.heap.size + 1) [] (Owns.nil _ _) (by simp) ?_; intro w4 hO hg4 hs4; have HO4 := Lib.hid hO; have Hg4 := Lib.hid hg4; have hsz4 := hg4.below.size; have b0 := hg4.cellEq (b := w.heap.size) (i := 0) (v := .int .i64 A.length) (by first | (go_simp; done) | (simp [go_sem, ↓IntWalk.iteOmega, *]; done)); clear hO hg4)
  simp at hs4 hsz4
  have HwB : Hid (Grew w (w.alloc (.cells #[.int .i64 A.length, .slice pE E.length cE, .slice pA A.length cA] 25))) := Lib.hid ((Grew.refl w).alloc _)
  have Hc0 : Hid ((w.alloc (.cells #[.int .i64 A.length, .slice pE E.length cE, .slice pA A.length cA] 25)).cell? ⟨w.heap.size, 0, none⟩ = some (.int .i64 A.length)) := Lib.hid (by simp [go_sem])
  have Hc1 : Hid ((w.alloc (.cells #[.int .i64 A.length, .slice pE E.length cE, .slice pA A.length cA] 25)).cell? ⟨w.heap.size, 1, none⟩ = some (.slice pE E.length cE)) := Lib.hid (by simp [go_sem])
  have Hc2 : Hid ((w.alloc (.cells #[.int .i64 A.length, .slice pE E.length cE, .slice pA A.length cA] 25)).cell? ⟨w.heap.size, 2, none⟩ = some (.slice pA A.length cA)) := Lib.hid (by simp [go_sem])
  have hsB : (w.alloc (.cells #[.int .i64 A.length, .slice pE E.length cE, .slice pA A.length cA] 25)).heap.size = w.heap.size + 1 := by simp
  obtain ⟨wB, hwB⟩ : ∃ wB, w.alloc (.cells #[.int .i64 A.length, .slice pE E.length cE, .slice pA A.length cA] 25) = wB := ⟨_, rfl⟩
  rw [hwB] at Hg4 HwB Hc0 Hc1 Hc2 hsB HO4
  clear hwB
  rw [hsB] at HO4
  go_loopw [4, 15] (fun vn i wq => ∃ v : Nat, v ≤ A.length ∧ i = .int .i64 v ∧ vn = .int .i64 (cntL E v) ∧ Grew wB wq ∧ w4.heap.size ≤ wq.heap.size ∧ ∃ S : List Int, Met A.length S ∧ (∀ x, x ∈ S ↔ old E v x) ∧ Owns wq (w.heap.size + 1) [⟨.slice (some ⟨w.heap.size + 1, 0, none⟩) A.length A.length, 4, 1, A.length, bls A.length S⟩]) (fun _ i _ => A.length - (intOf i).toNat)
  case atStart =>
    refine ⟨0, Nat.zero_le _, rfl, rfl, Hg4.out, Nat.le_refl _, [], ⟨List.nodup_nil, fun _ h => by cases h⟩, fun x => ⟨fun h => (by cases h), fun h => (by obtain ⟨u, h1, h2, _⟩ := h; omega)⟩, ?_⟩
    rw [bls_nil]
    exact HO4.out
  case round =>
    obtain ⟨v, hv, rfl, rfl, hgq, hsq, S, hmet, hS, hOq⟩ := hrel
    have hcv : cntL E v ≤ v := cntP_le _ v
    have Hcs := Lib.hid (cntL_succ (N := 0) hS)
    obtain ⟨c, hc⟩ : ∃ c, cntL E v = c := ⟨_, rfl⟩
    rw [hc] at hcv Hcs ⊢
    have Hc := Lib.hid hc
    clear hc
    have Hgq := Lib.hid hgq
    have HOq := Lib.hid hOq
    have Hmet := Lib.hid hmet
    have HS := Lib.hid hS
    have q0 := hgq.cellEq Hc0.out
    have Hwq : Hid (Grew w wr) := Lib.hid (HwB.out.trans hgq)
    clear hgq hOq hmet hS
    by_cases hlv : v < A.length
    · obtain ⟨gM, cM, eM, _, kM, _, _, nM, mM⟩ := HOq.out.some (k := 0) rfl (by omega)
      cases eM
      have x1 := mM v _ (bls_get _ hlv)
      have x2 := nM v
      clear nM mM
      by_cases hin : (v : Int) ∈ S
      · rw [decide_eq_true hin] at x1
        have Hcs2 : Hid (cntL E (v + 1) = c) := Lib.hid (by rw [Hcs.out, if_pos hin]; rfl)
        have HS2 : Hid (∀ x, x ∈ S ↔ old E (v + 1) x) := Lib.hid (fun x => ⟨fun h => ((HS.out x).1 h).mono, fun ⟨u, h1, h2, h3⟩ => by
          by_cases e : u < v
          · exact (HS.out x).2 ⟨u, h1, e, h3⟩
          · have : u = v := by push_cast at h2; omega
            subst this
            obtain ⟨u', g1, g2, g3⟩ := (HS.out _).1 hin
            exact (HS.out x).2 ⟨u', g1, g2, g3.trans h3⟩⟩)
        clear hin
        go_wp2
        go_roundw
        case rel => exact ⟨v + 1, by omega, by go_num, by rw [Hcs2.out], Hgq.out.trans (by (repeat (first | exact gR _ | refine gO ?_ _ | refine gA ?_ _ | refine gD ?_ | refine gN ?_ _))), by omega, S, Hmet.out, HS2.out, HOq.out.grew (by (repeat (first | exact gR _ | refine gO ?_ _ | refine gA ?_ _ | refine gD ?_ | refine gN ?_ _)))⟩
        case measure => simp [intOf]; omega
      have Hcs2 : Hid (cntL E (v + 1) = c + 1) := Lib.hid (by rw [Hcs.out, if_neg hin])
      have Hst := Lib.hid (Bfs.start Hmet.out HS.out hlv hin)
      rw [decide_eq_false hin] at x1
      clear hin
      have HOs : Hid (Owns (wr.setCell ⟨w.heap.size + 1, v, none⟩ (.bool true)) (w.heap.size + 1) [⟨.slice (some ⟨w.heap.size + 1, 0, none⟩) A.length A.length, 4, 1, A.length, bls A.length (S ++ [(v : Int)])⟩]) := Lib.hid (by
        have h := HOq.out.set (k := 0) rfl v (.bool true)
        rw [bls_set _ hlv] at h
        exact h)
      have Hgs := Lib.hid (Hgq.out.setCell (show wB.heap.size ≤ (⟨w.heap.size + 1, v, none⟩ : Addr).block by dsimp only; omega) (.bool true))
      go_wp2
      go_loopg [6] (A.length + 1) (fun k v6 wk => ∃ (S q : List Int) (g off p cap : Nat) (ys : List Value), v6 = .slice (some ⟨g, off, none⟩) q.length cap ∧ Bfs E A.length v S q ∧ q.length + (A.length - S.length) ≤ k ∧ k ≤ A.length + 1 ∧ Grew wB wk ∧ w4.heap.size ≤ wk.heap.size ∧ ys.length = p ∧ (0 < cap → off = p) ∧
        Owns wk (w.heap.size + 1) [⟨.slice (some ⟨w.heap.size + 1, 0, none⟩) A.length A.length, 4, 1, A.length, bls A.length S⟩, qRow 3 g p cap ys (intVs q)])
      case atStart =>
        refine ⟨S ++ [(v : Int)], [(v : Int)], wr.heap.size, 0, 0, 1, [], by simp, Hst.out, by simp; omega, Nat.le_refl _, Hgs.out.trans (by (repeat (first | exact gR _ | refine gO ?_ _ | refine gA ?_ _ | refine gD ?_ | refine gN ?_ _))), (by first | rfl | omega | (simp <;> omega)), rfl, fun _ => rfl, ?_⟩
        exact (HOs.out.made (by simp; omega) #[.int .i64 v] 3 1 1 wr.heap.size rfl (by decide) (by simp)).perm (List.Perm.swap _ _ _)
      case round =>
        obtain ⟨S2, q, g, off, p, cap, ys, rfl, hB, hgk, hgkb, hgB, hsk, hys, hoff, hOk⟩ := hrel
        have hgr0 := hgB
        cases q with
        | nil =>
          have HS2 := Lib.hid hB.done
          have Hmet2 := Lib.hid hB.met
          have Hgr0 := Lib.hid hgr0
          have HOk := Lib.hid hOk
          clear hB hOk hgr0 hgB hoff
          go_wp2
          go_roundw
          case rel => exact ⟨v + 1, by omega, by go_num, by rw [Hcs2.out]; rfl, Hgr0.out, by omega, S2, Hmet2.out, HS2.out, (HOk.out.perm (List.Perm.swap _ _ _)).tail⟩
          case measure => simp [intOf]; omega
        | cons x q =>
          have hxr := hB.met.2 x (hB.qs x (List.mem_cons_self ..))
          obtain ⟨x, rfl⟩ := Int.eq_ofNat_of_zero_le hxr.1
          have hxl : x < A.length := by omega
          have hxi : (x : Int) < (A.length : Int) := by omega
          obtain ⟨hfl, _, _, hfm, hfc⟩ := owns_first hOk (k := 1) rfl hys
          simp only [intVs_length, List.length_cons] at hfl
          have hop := hoff (by omega)
          subst hop
          have e0 := hfc 0 (.int .i64 (x : Int)) rfl
          rw [Nat.add_zero] at e0
          obtain ⟨bA, oA, rp, rc, rfl, lA, cA'⟩ := HR.out.hA.rows (by omega)
          have Hwk : Hid (Grew w wr) := Lib.hid (HwB.out.trans hgB)
          obtain ⟨a1, _⟩ := cA' wr Hwk.out x hxl
          obtain ⟨_, a2⟩ := cA' w (Grew.refl _) x hxl
          obtain ⟨rv, hrv⟩ : ∃ rv, rp x = rv := ⟨_, rfl⟩
          rw [hrv] at a1 a2
          have Ha2 := Lib.hid a2
          have hrl := HL.out x hxl
          have q2 := hgB.cellEq Hc2.out
          have HB0 := Lib.hid hB
          have HgB := Lib.hid hgB
          have HOk := Lib.hid hOk
          have Hgk := Lib.hid hgk
          clear cA' a2 hrv hB hgB hgr0 hOk hgk hoff hfc hxr
          rw [List.length_cons]
          go_wp2
          go_region
          go_wp2
          clear q2 e0 a1
          go_loopw [6, 42] (fun v6 i wk => ∃ k2 : Nat, k2 ≤ (rowOf A x).length ∧ i = .int .i64 k2 ∧ ∃ (S q : List Int) (g p cap : Nat) (ys : List Value), v6 = .slice (some ⟨g, p, none⟩) (q.length + 1) cap ∧ Bfs E A.length v S ((x : Int) :: q) ∧ (∀ i, i < k2 → tailE E (oth (ge (rowOf A x) i)) ∈ S) ∧ q.length + 1 + (A.length - S.length) ≤ gk ∧ Grew wB wk ∧ w4.heap.size ≤ wk.heap.size ∧ ys.length = p ∧
            Owns wk (w.heap.size + 1) [⟨.slice (some ⟨w.heap.size + 1, 0, none⟩) A.length A.length, 4, 1, A.length, bls A.length S⟩, qRow 3 g p cap ys (intVs ((x : Int) :: q))]) (fun _ i _ => (rowOf A x).length - (intOf i).toNat)
          case atStart => exact ⟨0, Nat.zero_le _, rfl, S2, q, g, off, cap, ys, rfl, HB0.out, fun i hi => by omega, Hgk.out, HgB.out.trans (by (repeat (first | exact gR _ | refine gO ?_ _ | refine gA ?_ _ | refine gD ?_ | refine gN ?_ _))), by simp; omega, hys, HOk.out.grew (by (repeat (first | exact gR _ | refine gO ?_ _ | refine gA ?_ _ | refine gD ?_ | refine gN ?_ _)))⟩
          case round =>
            obtain ⟨k2, hk2, rfl, S, q, g, p, cap, ys, rfl, hB, hhd, hgk, hgB, hsk, hys, hOk⟩ := hrel
            obtain ⟨hfl, _, _, hfm, _⟩ := owns_first hOk (k := 1) rfl hys
            simp only [intVs_length, List.length_cons] at hfl
            have hSl := hB.met.len
            have hql : q.length ≤ 101 := by omega
            have hxS : (x : Int) ∈ S := hB.qs _ (List.mem_cons_self ..)
            have HxS := Lib.hid hxS
            have Hwk : Hid (Grew w wr) := Lib.hid (HwB.out.trans hgB)
            have q1 := hgB.cellEq Hc1.out
            have HB0 := Lib.hid hB
            have HgB := Lib.hid hgB
            have HOk := Lib.hid hOk
            have Hgk := Lib.hid hgk
            have Hhd := Lib.hid hhd
            clear hB hgB hOk hgk hhd hxS
            by_cases hlk : k2 < (rowOf A x).length
            · obtain ⟨bR, oR, rfl, lR, cR⟩ := Ha2.out.cells (by omega)
              have e1 := cR wr Hwk.out k2 hlk
              have hok := dart_of HV.out hxl hlk
              obtain ⟨m, hm0⟩ : ∃ m : Nat, ge (rowOf A x) k2 = (m : Int) := ⟨(ge (rowOf A x) k2).toNat, by have := hok.1; omega⟩
              have hm : m < 2 * E.length := by have := hok.2.1; omega
              rw [hm0] at e1 hok
              obtain ⟨ho1, ho2⟩ := oth_in (d := (m : Int)) (M := E.length) (by omega) (by omega)
              obtain ⟨o, hoe⟩ : ∃ o : Nat, oth m = (o : Int) := ⟨(oth m).toNat, by omega⟩
              have hti := tail_in HV.out (d := (o : Int)) (by omega) (by omega)
              have hnb := nbr_dart (E := E) (d := (m : Int)) (by omega) (by omega)
              rw [hok.2.2, hoe] at hnb
              obtain ⟨y, hy⟩ : ∃ y : Nat, tailE E o = (y : Int) := ⟨(tailE E o).toNat, by omega⟩
              have hyl : y < A.length := by omega
              rw [hy] at hnb
              have Hnb := Lib.hid hnb
              have Hhy : Hid (tailE E (oth (ge (rowOf A x) k2)) = (y : Int)) := Lib.hid (by rw [hm0, hoe, hy])
              obtain ⟨bE, oE, rfl, lE, cE'⟩ := HR.out.hE.cells (by omega)
              obtain ⟨c1, c2⟩ := cE' wr Hwk.out (m / 2) (by omega)
              have hm2 : m / 2 < E.length := by omega
              have hm2i : (m : Int) / 2 < (E.length : Int) := by omega
              have hx1 : bits BinOp.xor IntKind.i64 ((m : Int) % 2) 1 = (o : Int) % 2 := by rw [← hoe]; exact xor_two m (by omega)
              have ho2' : o / 2 = m / 2 := by unfold oth at hoe; split at hoe <;> omega
              have Htx := Lib.hid (fun W1 : World => (by have h := tail_e E o W1; rw [ho2', hy] at h; exact h : Calls Tryd.prog 52 #[.agg #[.int .i64 (pr E (m / 2)).1, .int .i64 (pr E (m / 2)).2], .int .i64 ((o : Int) % 2)] W1 fun e w' => e = .returned (.int .i64 (y : Int)) ∧ Grew W1 w'))
              obtain ⟨gM, cM, eM, _, kM, _, _, nM, mM⟩ := HOk.out.some (k := 0) rfl (by omega)
              cases eM
              have x1 := mM y _ (bls_get _ hyl)
              have x2 := nM y
              clear cR hok hm0 ho1 ho2 hoe hti hnb hy cE' ho2' nM mM
              by_cases hin : (y : Int) ∈ S
              · rw [decide_eq_true hin] at x1
                have Hin := Lib.hid hin
                clear hin
                go_wp2_with (go_at_call 52; apply Calls.mono; (with_reducible exact Htx.out _); rintro e w' ⟨rfl, x9, rfl⟩)
                go_roundw
                case rel => exact ⟨k2 + 1, by omega, by go_num, S, q, g, p, cap, ys, rfl, HB0.out, fun i hi => (by
                  by_cases e : i = k2
                  · rw [e, Hhy.out]; exact Hin.out
                  · exact Hhd.out i (by omega)), Hgk.out, HgB.out.trans (by (repeat (first | exact gR _ | refine gO ?_ _ | refine gA ?_ _ | refine gD ?_ | refine gN ?_ _))), (by first | rfl | omega | (simp <;> omega)), hys, HOk.out.grew (by (repeat (first | exact gR _ | refine gO ?_ _ | refine gA ?_ _ | refine gD ?_ | refine gN ?_ _)))⟩
                case measure => simp [intOf]; omega
              · have HB2 := Lib.hid (HB0.out.add HxS.out Hnb.out hin (by omega) (by omega))
                have hS2l := HB2.out.met.len
                simp only [List.length_append, List.length_cons, List.length_nil] at hS2l
                rw [decide_eq_false hin] at x1
                go_wp2_with (first
                  | (go_at_call 52; apply Calls.mono; (with_reducible exact Htx.out _); rintro e w' ⟨rfl, x9, rfl⟩)
                  | (at_builtin; refine wp_append_que rfl _ _ 28 rfl 3 8 (.int .i64 0) Tryd.underlying28 Tryd.infoInt rfl (w.heap.size + 1) _ 1 g p p cap (q.length + 1) ys (intVs ((x : Int) :: q)) ((HOk.out.set (k := 0) rfl y (.bool true)).grew (by (repeat (first | exact gR _ | refine gO ?_ _ | refine gA ?_ _ | refine gD ?_ | refine gN ?_ _)))) rfl hys (fun _ => rfl) (by simp [intVs_length]) rfl _ 1 rfl (.int .i64 (y : Int)) (by (simp [go_sem, ↓IntWalk.iteOmega])) (by simp [Value.oneCell']) (by simp only [maxLen]; omega) (by omega) (by first | rfl | omega | (simp <;> omega)) ?_; intro g1 off1 p1 cap1 ys1 w1 hO1 hys1 hoff1 hcap1 hg1 hb1; have hop1 := hoff1 (by omega); subst hop1; have Hg1 := Lib.hid (Grew.grownBy (w0 := wB) ((HgB.out.setCell (show wB.heap.size ≤ (⟨w.heap.size + 1, y, none⟩ : Addr).block by dsimp only; omega) (.bool true)).trans (by (repeat (first | exact gR _ | refine gO ?_ _ | refine gA ?_ _ | refine gD ?_ | refine gN ?_ _)))) hg1 (fun k h => by have := Option.some.inj h; omega)); have HO1 := Lib.hid hO1; have hs1 := hg1.size; simp at hs1; clear hO1 hg1 hb1 hoff1))
                go_roundw
                case rel =>
                  refine ⟨k2 + 1, by omega, by go_num, S ++ [(y : Int)], q ++ [(y : Int)], g1, off1, cap1, ys1, by simp, HB2.out, fun i hi => ?_, ?_, Hg1.out, by omega, hys1, ?_⟩
                  · by_cases e : i = k2
                    · rw [e, Hhy.out]; simp
                    · exact List.mem_append_left _ (Hhd.out i (by omega))
                  · have := Hgk.out
                    simp only [List.length_append, List.length_cons, List.length_nil]
                    omega
                  · have h := HO1.out
                    rw [bls_set _ hyl] at h
                    have e : intVs ((x : Int) :: (q ++ [(y : Int)])) = intVs ((x : Int) :: q) ++ [.int .i64 (y : Int)] := by simp [intVs]
                    rw [e]
                    exact h
                case measure => simp [intOf]; omega
            · have hke : k2 = (rowOf A x).length := by omega
              have HBc := Lib.hid (HB0.out.cut (nbr_all HV.out (fun i hi => Hhd.out i (by omega))))
              have Hgr2 := Lib.hid HgB.out
              by_cases hc1 : cap = 1
              · have hq0 : q = [] := List.length_eq_zero_iff.1 (by omega)
                subst hc1 hq0
                go_wp2
                go_roundg (gk - 1)
                case rel => exact ⟨S, [], g, p, p + 1, 0, ys ++ [.int .i64 (x : Int)], rfl, HBc.out, (by have := Hgk.out; simp at this ⊢; omega), (by omega), Hgr2.out.trans (by (repeat (first | exact gR _ | refine gO ?_ _ | refine gA ?_ _ | refine gD ?_ | refine gN ?_ _))), (by first | rfl | omega | (simp <;> omega)), (by simp [hys]), (fun h => by cases h), (by have h : Owns wr (w.heap.size + 1) [_, qRow 3 g p (0 + 1) ys (.int .i64 (x : Int) :: intVs [])] := HOk.out; rw [qRow_cut] at h; exact h.grew (by (repeat (first | exact gR _ | refine gO ?_ _ | refine gA ?_ _ | refine gD ?_ | refine gN ?_ _))))⟩
                case measure => have := Hgk.out; omega
              · obtain ⟨cap, rfl⟩ : ∃ c', cap = c' + 1 := ⟨cap - 1, by omega⟩
                go_wp2
                go_roundg (gk - 1)
                case rel => exact ⟨S, q, g, p + 1, p + 1, cap, ys ++ [.int .i64 (x : Int)], rfl, HBc.out, (by have := Hgk.out; omega), (by omega), Hgr2.out.trans (by (repeat (first | exact gR _ | refine gO ?_ _ | refine gA ?_ _ | refine gD ?_ | refine gN ?_ _))), (by first | rfl | omega | (simp <;> omega)), (by simp [hys]), (fun _ => rfl), (by have h := HOk.out; rw [show intVs ((x : Int) :: q) = .int .i64 (x : Int) :: intVs q from rfl, qRow_cut] at h; exact h.grew (by (repeat (first | exact gR _ | refine gO ?_ _ | refine gA ?_ _ | refine gD ?_ | refine gN ?_ _))))⟩
                case measure => have := Hgk.out; omega
    · have hve : v = A.length := by omega
      subst hve
      go_wp2
      go_ret
      exact ⟨by rw [Hc.out]; rfl, Hwq.out⟩

end Go.Proofs.YtiihgpgpbgafiaaDoor

/- Components of the reference. -/
namespace Go.Proofs.YtiihgpgpbgafiaaDoor
open Go.RowKit
attribute [local go_sem ↓] Go.wp_at_zero Go.wp_at_succ

/-- The root of v's tree. -/
def rootN (up : List Int) : Nat → Nat → Nat
  | 0, v => v
  | f + 1, v => if ge up v = v then v else rootN up f (ge up v).toNat
def rootF (up : List Int) (v : Nat) : Nat := rootN up (v + 1) v
theorem rootN_spec {E : List (Int × Int)} {j N : Nat} {up : List Int} (h : UpOK E j N up) : ∀ (f v : Nat), v < N → v < f → rootN up f v < N ∧ ge up (rootN up f v) = (rootN up f v : Nat) ∧ Cn E j (rootN up f v : Nat) v
  | 0, _, _, h2 => by omega
  | f + 1, v, h1, h2 => by
    rw [rootN]
    by_cases e : ge up v = v
    · rw [if_pos e]; exact ⟨h1, e, Cn.refl _⟩
    · rw [if_neg e]
      have h3 := h.le v h1
      have h4 := rootN_spec h f (ge up v).toNat (by omega) (by omega)
      refine ⟨h4.1, h4.2.1, h4.2.2.trans ?_⟩
      rw [Int.toNat_of_nonneg h3.1]
      exact h.cn v h1

set_option maxHeartbeats 2000000 in
theorem root_r (p : Option Addr) (n cap : Nat) (E : List (Int × Int)) (j : Nat) (up : List Int) (v : Nat) (w : World) (hI : Ints w p up) (hU : UpOK E j n up) (hv : v < n) :
    Calls Tryd.prog 80 #[.slice p n cap, .int .i64 v] w fun e w' => e = .returned (.int .i64 (rootF up v)) ∧ w = w' := by
  have hl := hU.len
  subst hl
  obtain ⟨b, o, rfl, hbl, hc⟩ := hI.cells (by omega)
  have HC := Lib.hid (hc w (Grew.refl _))
  have HU := Lib.hid hU
  clear hc hU hI
  go_enter Tryd.func80, Tryd.ntmps80
  go_wp2
  go_loop [1] (fun x => ∃ (m f : Nat), x = .int .i64 m ∧ m < up.length ∧ m < f ∧ rootN up f m = rootF up v) (fun x => (intOf x).toNat)
  case atStart => exact ⟨v, v + 1, rfl, hv, by omega, rfl⟩
  case round =>
    obtain ⟨m, f, rfl, hm, hf, hr⟩ := hrel
    obtain ⟨f, rfl⟩ : ∃ f', f = f' + 1 := ⟨f - 1, by omega⟩
    have e1 := HC.out m hm
    have hle := HU.out.le m hm
    rw [rootN] at hr
    by_cases e : ge up m = m
    · rw [if_pos e] at hr
      rw [e] at e1
      have Hr := Lib.hid hr
      clear hle e hr
      go_wp2
      go_ret
      exact ⟨by rw [← Hr.out]; rfl, rfl⟩
    · rw [if_neg e] at hr
      obtain ⟨x, hx⟩ : ∃ x : Nat, ge up m = (x : Int) := ⟨(ge up m).toNat, by omega⟩
      rw [hx] at e1 e hle hr
      rw [Int.toNat_natCast] at hr
      have hxm : x < m := by omega
      have hne : ((x : Int) == (m : Int)) = false := beq_eq_false_iff_ne.2 e
      have hne2 : ¬ x = m := by omega
      have Hr := Lib.hid hr
      clear hle e hr hx
      go_wp2
      go_round
      case rel => exact ⟨x, f, rfl, by omega, by omega, Hr.out⟩
      case measure => simp [intOf]; omega

theorem idL_succ (v : Nat) : idL (v + 1) = idL v ++ [(v : Int)] := by unfold idL; rw [List.range_succ, List.map_append]; rfl

set_option maxRecDepth 8000 in
set_option maxHeartbeats 16000000 in
theorem comps_r (N : Int) (pE pA : Option Addr) (nE nA cE cA : Nat) (E : List (Int × Int)) (A : List (List Int)) (w : World) (hR : RotAt w pE pA E A) (hV : vRot N E A) (hnE : E.length = nE) (hnA : A.length = nA) :
    Calls Tryd.prog 66 #[.agg #[.int .i64 N, .slice pE nE cE, .slice pA nA cA]] w fun e w' => e = .returned (.int .i64 (cntL E A.length)) ∧ Grew w w' := by
  subst hnE hnA
  have he1 := hR.e1
  have ha1 := hR.a1
  have hN : N = A.length := hV.al.symm
  subst hN
  have HR := Lib.hid hR
  have HV := Lib.hid hV
  clear hR hV
  go_enter Tryd.func66, Tryd.ntmps66
  have HwB : Hid (Grew w (w.alloc (.cells #[.int .i64 A.length, .slice pE E.length cE, .slice pA A.length cA] 25))) := Lib.hid ((Grew.refl w).alloc _)
  have Hc0 : Hid ((w.alloc (.cells #[.int .i64 A.length, .slice pE E.length cE, .slice pA A.length cA] 25)).cell? ⟨w.heap.size, 0, none⟩ = some (.int .i64 A.length)) := Lib.hid (by simp [go_sem])
  have Hc1 : Hid ((w.alloc (.cells #[.int .i64 A.length, .slice pE E.length cE, .slice pA A.length cA] 25)).cell? ⟨w.heap.size, 1, none⟩ = some (.slice pE E.length cE)) := Lib.hid (by simp [go_sem])
  have hsB : (w.alloc (.cells #[.int .i64 A.length, .slice pE E.length cE, .slice pA A.length cA] 25)).heap.size = w.heap.size + 1 := by simp
  go_wp2
  obtain ⟨wB, hwB⟩ : ∃ wB, w.alloc (.cells #[.int .i64 A.length, .slice pE E.length cE, .slice pA A.length cA] 25) = wB := ⟨_, rfl⟩
  rw [hwB] at HwB Hc0 Hc1 hsB ⊢
  clear hwB
  go_loopw [3, 4] (fun o i wq => ∃ v : Nat, v ≤ A.length ∧ i = .int .i64 v ∧ Grew wB wq ∧ Owns wq (w.heap.size + 1) [⟨o, 3, 1, v, intVs (idL v)⟩]) (fun _ i _ => A.length - (intOf i).toNat)
  case atStart =>
    exact ⟨0, Nat.zero_le _, rfl, by (repeat (first | exact gR _ | refine gO ?_ _ | refine gA ?_ _ | refine gD ?_ | refine gN ?_ _)), (Owns.nil wB (w.heap.size + 1)).made (by omega) #[] 3 1 0 (w.heap.size + 1) rfl (by decide) hsB.symm⟩
  case round =>
    obtain ⟨v, hv, rfl, hgq, hOq⟩ := hrel
    have q0 := hgq.cellEq Hc0.out
    have q1 := hgq.cellEq Hc1.out
    have hsq := hgq.below.size
    obtain ⟨pO, cO, rfl, _, _, _, _, _⟩ := hOq.form (k := 0) rfl
    have Hgq := Lib.hid hgq
    have HOq := Lib.hid hOq
    clear hgq hOq
    by_cases hlv : v < A.length
    · clear q1
      go_wp2_with (at_builtin; refine wp_append_owns rfl _ _ 28 rfl 3 1 8 (.int .i64 0) Tryd.underlying28 Tryd.infoInt rfl (by decide) (w.heap.size + 1) _ 0 _ _ _ (HOq.out.grew (by (repeat (first | exact gR _ | refine gO ?_ _ | refine gA ?_ _ | refine gD ?_ | refine gN ?_ _)))) rfl rfl _ 1 1 rfl [.int .i64 (v : Int)] rfl (fun h => by cases h) (one_news _ (by (simp [go_sem, ↓IntWalk.iteOmega]))) (by simp [Value.oneCell']) (by simp only [maxLen]; omega) (by omega) (by first | rfl | omega | (simp <;> omega)) ?_; intro v1 w1 hO1 hg1 hb1 _; have Hg1 := Lib.hid (Grew.grownBy (w0 := wB) (Hgq.out.trans (by (repeat (first | exact gR _ | refine gO ?_ _ | refine gA ?_ _ | refine gD ?_ | refine gN ?_ _)))) hg1 (fun g h => by have := hb1 g h; omega)); have HO1 := Lib.hid hO1; have hs1 := hg1.size; simp at hs1; clear hO1 hg1 hb1)
      go_roundw
      case rel => exact ⟨v + 1, by omega, by go_num, Hg1.out, (by have h := HO1.out; rw [idL_succ, intVs_app']; exact h)⟩
      case measure => simp [intOf]; omega
    have hve : v = A.length := by omega
    subst hve
    go_wp2
    clear q0 q1
    go_loopw [5, 6] (fun vn i wq => ∃ j : Nat, j ≤ E.length ∧ i = .int .i64 j ∧ Grew wB wq ∧ ∃ (up : List Int) (c : Nat), UpOK E j A.length up ∧ cntR up A.length = c ∧ c ≤ 100 ∧ vn = .int .i64 c ∧ Owns wq (w.heap.size + 1) [⟨.slice pO A.length cO, 3, 1, A.length, intVs up⟩]) (fun _ i _ => E.length - (intOf i).toNat)
    case atStart =>
      have h := UpOK.start E A.length
      exact ⟨0, Nat.zero_le _, rfl, Hgq.out, idL A.length, A.length, h.1, h.2, ha1, rfl, HOq.out⟩
    case round =>
      obtain ⟨j, hj, rfl, hgq, up, c, hU, hcn, hc100, rfl, hOq⟩ := hrel
      have q1 := hgq.cellEq Hc1.out
      have hsq := hgq.below.size
      have Hgq := Lib.hid hgq
      have HOq := Lib.hid hOq
      have HU := Lib.hid hU
      have Hcn := Lib.hid hcn
      have Hwq : Hid (Grew w wr) := Lib.hid (HwB.out.trans hgq)
      clear hgq hOq hU hcn
      by_cases hlj : j < E.length
      · obtain ⟨bE, oE, rfl, lE, cE'⟩ := HR.out.hE.cells (by omega)
        obtain ⟨c1, c2⟩ := cE' wr Hwq.out j hlj
        have hed := HV.out.ed j hlj
        unfold okEdge at hed
        obtain ⟨a, ha⟩ : ∃ a : Nat, (pr E j).1 = (a : Int) := ⟨(pr E j).1.toNat, by omega⟩
        obtain ⟨b, hb⟩ : ∃ b : Nat, (pr E j).2 = (b : Int) := ⟨(pr E j).2.toNat, by omega⟩
        rw [ha] at c1
        rw [hb] at c2
        have hal : a < A.length := by omega
        have hbl : b < A.length := by omega
        obtain ⟨g0, hI⟩ : ∃ _ : True, Ints wr pO up := by
          obtain ⟨p', c', e, h2, _⟩ := HOq.out.ints (k := 0) rfl HU.out.len (fun x hx => by
            obtain ⟨i, hi, rfl⟩ := List.getElem_of_mem hx
            have := HU.out.le i (by rw [← HU.out.len]; exact hi)
            rw [ge_eq up hi] at this
            have := HU.out.len
            omega)
          cases e
          exact ⟨trivial, h2⟩
        have Hra := Lib.hid (fun (W1 : World) (hg : Grew wr W1) => root_r pO A.length cO E j up a W1 (hI.grew hg) HU.out hal)
        have Hrb := Lib.hid (fun (W1 : World) (hg : Grew wr W1) => root_r pO A.length cO E j up b W1 (hI.grew hg) HU.out hbl)
        have hsa := rootN_spec HU.out (a + 1) a hal (by omega)
        have hsb := rootN_spec HU.out (b + 1) b hbl (by omega)
        have era : rootN up (a + 1) a = rootF up a := rfl
        have erb : rootN up (b + 1) b = rootF up b := rfl
        rw [era] at hsa
        rw [erb] at hsb
        obtain ⟨ra, hra⟩ : ∃ ra, rootF up a = ra := ⟨_, rfl⟩
        obtain ⟨rb, hrb⟩ : ∃ rb, rootF up b = rb := ⟨_, rfl⟩
        rw [hra] at hsa Hra
        rw [hrb] at hsb Hrb
        rw [← ha] at hsa
        rw [← hb] at hsb
        obtain ⟨sa1, sa2, sa3⟩ := hsa
        obtain ⟨sb1, sb2, sb3⟩ := hsb
        have Ha2 := Lib.hid sa2
        have Ha3 := Lib.hid sa3
        have Hb2 := Lib.hid sb2
        have Hb3 := Lib.hid sb3
        clear cE' hed hI era erb hra hrb sa2 sa3 sb2 sb3 ha hb g0
        go_upto_region 10 with fail
        refine wp_region_over (by kernel_rfl) (by kernel_rfl) ?_; (repeat (go_big_quiet_step (first | (go_at_call 80; apply over_callE; with_reducible exact Hra.out _ (by (repeat (first | exact gR _ | refine gO ?_ _ | refine gA ?_ _ | refine gD ?_ | refine gN ?_ _)))) | (go_at_call 80; apply over_callE; with_reducible exact Hrb.out _ (by (repeat (first | exact gR _ | refine gO ?_ _ | refine gA ?_ _ | refine gD ?_ | refine gN ?_ _))))))); refine wpQuiet_nil ?_; rintro _ ⟨x, rfl⟩
        rcases Nat.lt_trichotomy ra rb with hlt | hlt | hlt
        · have hne : ((ra : Int) == (rb : Int)) = false := beq_eq_false_iff_ne.2 (by omega)
          obtain ⟨gU, cU, eU, _, kU, _, _, nU, mU⟩ := HOq.out.some (k := 0) rfl (by omega)
          cases eU
          have x1 := mU rb _ (intVs_get _ (by rw [HU.out.len]; omega))
          have x2 := nU rb
          have hJ := HU.out.join hlt (by omega) Ha2.out Hb2.out (Or.inl ⟨Ha3.out, Hb3.out⟩)
          have hpos : 0 < c := by have := hJ.2; rw [Hcn.out] at this; omega
          obtain ⟨c, rfl⟩ : ∃ c', c = c' + 1 := ⟨c - 1, by omega⟩
          have HJ := Lib.hid hJ
          clear nU mU hJ
          go_wp2
          go_roundw
          case rel =>
            refine ⟨j + 1, by omega, by go_num, (Hgq.out.setCell (show wB.heap.size ≤ (⟨gU, rb, none⟩ : Addr).block by dsimp only; omega) _).over _, up.set rb ra, c, HJ.out.1, (by have := HJ.out.2; rw [Hcn.out] at this; omega), by omega, by go_num, ?_⟩
            have h := HOq.out.set (k := 0) rfl rb (.int .i64 (ra : Int))
            rw [intVs_set] at h
            exact h.grew (by (repeat (first | exact gR _ | refine gO ?_ _ | refine gA ?_ _ | refine gD ?_ | refine gN ?_ _)))
          case measure => simp [intOf]; omega
        · subst hlt
          have HU2 := Lib.hid (HU.out.keep Ha3.out Hb3.out)
          go_wp2
          go_roundw
          case rel => exact ⟨j + 1, by omega, by go_num, Hgq.out.trans (by (repeat (first | exact gR _ | refine gO ?_ _ | refine gA ?_ _ | refine gD ?_ | refine gN ?_ _))), up, c, HU2.out, Hcn.out, by omega, rfl, HOq.out.grew (by (repeat (first | exact gR _ | refine gO ?_ _ | refine gA ?_ _ | refine gD ?_ | refine gN ?_ _)))⟩
          case measure => simp [intOf]; omega
        · have hne : ((ra : Int) == (rb : Int)) = false := beq_eq_false_iff_ne.2 (by omega)
          obtain ⟨gU, cU, eU, _, kU, _, _, nU, mU⟩ := HOq.out.some (k := 0) rfl (by omega)
          cases eU
          have x1 := mU ra _ (intVs_get _ (by rw [HU.out.len]; omega))
          have x2 := nU ra
          have hJ := HU.out.join hlt (by omega) Hb2.out Ha2.out (Or.inr ⟨Ha3.out, Hb3.out⟩)
          have hpos : 0 < c := by have := hJ.2; rw [Hcn.out] at this; omega
          obtain ⟨c, rfl⟩ : ∃ c', c = c' + 1 := ⟨c - 1, by omega⟩
          have HJ := Lib.hid hJ
          clear nU mU hJ
          go_wp2
          go_roundw
          case rel =>
            refine ⟨j + 1, by omega, by go_num, (Hgq.out.setCell (show wB.heap.size ≤ (⟨gU, ra, none⟩ : Addr).block by dsimp only; omega) _).over _, up.set ra rb, c, HJ.out.1, (by have := HJ.out.2; rw [Hcn.out] at this; omega), by omega, by go_num, ?_⟩
            have h := HOq.out.set (k := 0) rfl ra (.int .i64 (rb : Int))
            rw [intVs_set] at h
            exact h.grew (by (repeat (first | exact gR _ | refine gO ?_ _ | refine gA ?_ _ | refine gD ?_ | refine gN ?_ _)))
          case measure => simp [intOf]; omega
      · have hje : j = E.length := by omega
        subst hje
        have Hct : Hid (cntL E A.length = c) := Lib.hid (by rw [← HU.out.count, Hcn.out])
        go_wp2
        go_ret
        exact ⟨by rw [Hct.out]; rfl, Hwq.out⟩

end Go.Proofs.YtiihgpgpbgafiaaDoor

/- Genus of both. -/
namespace Go.Proofs.YtiihgpgpbgafiaaDoor
open Go.RowKit
attribute [local go_sem ↓] Go.wp_at_zero Go.wp_at_succ

noncomputable def genusF (N : Int) (E : List (Int × Int)) (A : List (List Int)) : Int :=
  if vRotB N E A = true then (cntL E A.length : Int) - (N - E.length + (((facesO N E A).length : Int) + cntP (fun u => (rowOf A u).length = 0) A.length)).tdiv 2 else -1

set_option maxRecDepth 8000 in
set_option maxHeartbeats 8000000 in
theorem genus_p (N : Int) (pE pA : Option Addr) (nE nA cE cA : Nat) (E : List (Int × Int)) (A : List (List Int)) (w : World) (hR : RotAt w pE pA E A) (hL : Lim w) (hnE : E.length = nE) (hnA : A.length = nA) :
    Calls Tryd.prog 29 #[.agg #[.int .i64 N, .slice pE nE cE, .slice pA nA cA]] w fun e w' => e = .returned (.int .i64 (genusF N E A)) ∧ Grew w w' := by
  subst hnE hnA
  have he1 := hR.e1
  have ha1 := hR.a1
  have HR := Lib.hid hR
  have HL := Lib.hid hL
  cases hv : vRotB N E A
  case false =>
    have Hf : Hid (genusF N E A = -1) := Lib.hid (by unfold genusF; simp [hv])
    have Hv := Lib.hid hv
    clear hv hR hL
    go_enter Tryd.func29, Tryd.ntmps29
    go_wp2_with (go_at_call 28; apply Calls.mono; (with_reducible exact valid_pe Hv.out (HR.out.grew (by (repeat (first | exact gR _ | refine gO ?_ _ | refine gA ?_ _ | refine gD ?_ | refine gN ?_ _)))) (HL.out.grew (by (repeat (first | exact gR _ | refine gO ?_ _ | refine gA ?_ _ | refine gD ?_ | refine gN ?_ _)))) rfl rfl); rintro e w' ⟨rfl, x, rfl⟩)
    go_ret
    exact ⟨by rw [Hf.out]; rfl, by (repeat (first | exact gR _ | refine gO ?_ _ | refine gA ?_ _ | refine gD ?_ | refine gN ?_ _))⟩
  case true =>
  have Hv := Lib.hid hv
  have hV := vRotB_iff.1 hv
  have HV := Lib.hid hV
  have hN : N = A.length := hV.al.symm
  subst hN
  obtain ⟨f, hf⟩ : ∃ f, (facesO A.length E A).length = f := ⟨_, rfl⟩
  have hf2 : f ≤ 200 := by
    rw [← hf]
    unfold facesO facesF
    rw [if_pos hv]
    have := facesN_len (M := 2 * E.length) (f := nxF A) (2 * E.length)
    omega
  have Hf : Hid (genusF A.length E A = (cntL E A.length : Int) - ((A.length : Int) - E.length + ((f : Int) + cntP (fun u => (rowOf A u).length = 0) A.length)).tdiv 2) := Lib.hid (by unfold genusF; rw [if_pos hv, hf])
  have hcl : cntL E A.length ≤ A.length := cntP_le _ _
  have HCl := Lib.hid hcl
  have Hlf := Lib.hid hf
  clear hv hV hR hf hcl hL
  go_enter Tryd.func29, Tryd.ntmps29
  go_wp2_with (first
    | (go_at_call 28; apply Calls.mono; (with_reducible exact valid_pe Hv.out (HR.out.grew (by (repeat (first | exact gR _ | refine gO ?_ _ | refine gA ?_ _ | refine gD ?_ | refine gN ?_ _)))) (HL.out.grew (by (repeat (first | exact gR _ | refine gO ?_ _ | refine gA ?_ _ | refine gD ?_ | refine gN ?_ _)))) rfl rfl); rintro e w' ⟨rfl, x, rfl⟩)
    | (go_at_call 30; apply Calls.mono; (with_reducible exact faces_p _ _ _ _ _ _ _ _ _ _ (HR.out.grew (by (repeat (first | exact gR _ | refine gO ?_ _ | refine gA ?_ _ | refine gD ?_ | refine gN ?_ _)))) (HL.out.grew (by (repeat (first | exact gR _ | refine gO ?_ _ | refine gA ?_ _ | refine gD ?_ | refine gN ?_ _)))) rfl rfl); rintro e w3 ⟨hg3, qF, cF, rfl, _⟩; obtain ⟨x3, rfl⟩ := hg3; rw [Hlf.out]))
  go_loop [3, 15] (fun vf i => ∃ v : Nat, v ≤ A.length ∧ i = .int .i64 v ∧ vf = .int .i64 ((f : Int) + cntP (fun u => (rowOf A u).length = 0) v)) (fun _ i => A.length - (intOf i).toNat)
  case atStart => exact ⟨0, Nat.zero_le _, rfl, by simp [cntP]⟩
  case round =>
    obtain ⟨v, hv, rfl, rfl⟩ := hrel
    have hce := cntP_le (fun u => (rowOf A u).length = 0) v
    have Hcs : Hid (cntP (fun u => (rowOf A u).length = 0) (v + 1) = cntP (fun u => (rowOf A u).length = 0) v + if (rowOf A v).length = 0 then 1 else 0) := Lib.hid (by simp only [cntP]; split <;> rename_i h <;> simp [h])
    by_cases hlv : v < A.length
    · obtain ⟨c, hc⟩ : ∃ c, cntP (fun u => (rowOf A u).length = 0) v = c := ⟨_, rfl⟩
      rw [hc] at hce Hcs ⊢
      clear hc
      obtain ⟨bA, oA, rp, rc, rfl, lA, cA'⟩ := HR.out.hA.rows (by omega)
      obtain ⟨a1, _⟩ := cA' w (Grew.refl _) v hlv
      obtain ⟨rv, hrv⟩ : ∃ rv, rp v = rv := ⟨_, rfl⟩
      rw [hrv] at a1
      have hrl := HR.out.r1 v hlv
      clear cA' hrv
      by_cases h0 : rowOf A v = []
      · have Hcs2 : Hid (cntP (fun u => (rowOf A u).length = 0) (v + 1) = c + 1) := Lib.hid (by rw [Hcs.out, if_pos (by rw [h0]; rfl)])
        rw [h0] at a1
        clear h0 hrl
        go_wp2
        go_round
        case rel => exact ⟨v + 1, by omega, by go_num, by rw [Hcs2.out]; go_num⟩
        case measure => simp [intOf]; omega
      · have h0l : 0 < (rowOf A v).length := List.length_pos_iff.2 h0
        have Hcs2 : Hid (cntP (fun u => (rowOf A u).length = 0) (v + 1) = c) := Lib.hid (by rw [Hcs.out, if_neg (by omega)]; rfl)
        go_wp2
        go_round
        case rel => exact ⟨v + 1, by omega, by go_num, by rw [Hcs2.out]⟩
        case measure => simp [intOf]; omega
    · have hve : v = A.length := by omega
      subst hve
      have hce2 := HCl.out
      obtain ⟨c, hc⟩ : ∃ c, cntP (fun u => (rowOf A u).length = 0) A.length = c := ⟨_, rfl⟩
      rw [hc] at hce Hf ⊢
      obtain ⟨cl, hcl⟩ : ∃ cl, cntL E A.length = cl := ⟨_, rfl⟩
      have HC := Lib.hid (fun (W1 : World) (hg : Grew w W1) => (hcl ▸ comps_p A.length pE pA E.length A.length cE cA E A W1 (HR.out.grew hg) HV.out rfl rfl))
      rw [hcl] at Hf hce2
      clear hc hcl Hcs
      go_upto_region 10 with fail
      refine wp_region_over (by kernel_rfl) (by kernel_rfl) ?_; (repeat (go_big_quiet_step ((go_at_call 53; apply over_call; with_reducible exact HC.out _ (by (repeat (first | exact gR _ | refine gO ?_ _ | refine gA ?_ _ | refine gD ?_ | refine gN ?_ _))))))); refine wpQuiet_nil ?_; rintro _ ⟨x, rfl⟩
      have htd : -1000 ≤ ((A.length : Int) - E.length + ((f : Int) + c)).tdiv 2 ∧ ((A.length : Int) - E.length + ((f : Int) + c)).tdiv 2 ≤ 1000 := by
        generalize hX : (A.length : Int) - E.length + ((f : Int) + c) = X
        have : X ≤ 1000 := by omega
        have : -1000 ≤ X := by omega
        have h2 : Int.sign 2 = 1 := rfl
        rw [Int.tdiv_eq_ediv]
        split <;> omega
      have hwr : wrap64 ((cl : Int) - ((A.length : Int) - E.length + ((f : Int) + c)).tdiv 2) = (cl : Int) - ((A.length : Int) - E.length + ((f : Int) + c)).tdiv 2 := IntWalk.wrap64_in _ ⟨by omega, by omega⟩
      have Hwr := Lib.hid (hwr.trans Hf.out.symm)
      clear htd hwr
      go_wp2
      go_ret
      exact ⟨ret_int Hwr.out, by (repeat (first | exact gR _ | refine gO ?_ _ | refine gA ?_ _ | refine gD ?_ | refine gN ?_ _))⟩

set_option maxRecDepth 8000 in
set_option maxHeartbeats 8000000 in
theorem genus_r (N : Int) (pE pA : Option Addr) (nE nA cE cA : Nat) (E : List (Int × Int)) (A : List (List Int)) (w : World) (hR : RotAt w pE pA E A) (hnE : E.length = nE) (hnA : A.length = nA) :
    Calls Tryd.prog 48 #[.agg #[.int .i64 N, .slice pE nE cE, .slice pA nA cA]] w fun e w' => e = .returned (.int .i64 (genusF N E A)) ∧ Grew w w' := by
  subst hnE hnA
  have he1 := hR.e1
  have ha1 := hR.a1
  have HR := Lib.hid hR
  skip
  cases hv : vRotB N E A
  case false =>
    have Hf : Hid (genusF N E A = -1) := Lib.hid (by unfold genusF; simp [hv])
    have Hv := Lib.hid hv
    clear hv hR
    go_enter Tryd.func48, Tryd.ntmps48
    go_wp2_with (go_at_call 40; apply Calls.mono; (with_reducible exact valid_re Hv.out (HR.out.grew (by (repeat (first | exact gR _ | refine gO ?_ _ | refine gA ?_ _ | refine gD ?_ | refine gN ?_ _)))) rfl rfl); rintro e w' ⟨rfl, x, rfl⟩)
    go_ret
    exact ⟨by rw [Hf.out]; rfl, by (repeat (first | exact gR _ | refine gO ?_ _ | refine gA ?_ _ | refine gD ?_ | refine gN ?_ _))⟩
  case true =>
  have Hv := Lib.hid hv
  have hV := vRotB_iff.1 hv
  have HV := Lib.hid hV
  have hN : N = A.length := hV.al.symm
  subst hN
  obtain ⟨f, hf⟩ : ∃ f, (facesO A.length E A).length = f := ⟨_, rfl⟩
  have hf2 : f ≤ 200 := by
    rw [← hf]
    unfold facesO facesF
    rw [if_pos hv]
    have := facesN_len (M := 2 * E.length) (f := nxF A) (2 * E.length)
    omega
  have Hf : Hid (genusF A.length E A = (cntL E A.length : Int) - ((A.length : Int) - E.length + ((f : Int) + cntP (fun u => (rowOf A u).length = 0) A.length)).tdiv 2) := Lib.hid (by unfold genusF; rw [if_pos hv, hf])
  have hcl : cntL E A.length ≤ A.length := cntP_le _ _
  have HCl := Lib.hid hcl
  have Hlf := Lib.hid hf
  clear hv hV hR hf hcl
  go_enter Tryd.func48, Tryd.ntmps48
  go_wp2_with (first
    | (go_at_call 40; apply Calls.mono; (with_reducible exact valid_re Hv.out (HR.out.grew (by (repeat (first | exact gR _ | refine gO ?_ _ | refine gA ?_ _ | refine gD ?_ | refine gN ?_ _)))) rfl rfl); rintro e w' ⟨rfl, x, rfl⟩)
    | (go_at_call 25; apply Calls.mono; (with_reducible exact faces_r _ _ _ _ _ _ _ _ _ _ (HR.out.grew (by (repeat (first | exact gR _ | refine gO ?_ _ | refine gA ?_ _ | refine gD ?_ | refine gN ?_ _)))) rfl rfl); rintro e w3 ⟨hg3, qF, cF, rfl, _⟩; obtain ⟨x3, rfl⟩ := hg3; rw [Hlf.out]))
  go_loop [3, 4] (fun vf i => ∃ v : Nat, v ≤ A.length ∧ i = .int .i64 v ∧ vf = .int .i64 ((f : Int) + cntP (fun u => (rowOf A u).length = 0) v)) (fun _ i => A.length - (intOf i).toNat)
  case atStart => exact ⟨0, Nat.zero_le _, rfl, by simp [cntP]⟩
  case round =>
    obtain ⟨v, hv, rfl, rfl⟩ := hrel
    have hce := cntP_le (fun u => (rowOf A u).length = 0) v
    have Hcs : Hid (cntP (fun u => (rowOf A u).length = 0) (v + 1) = cntP (fun u => (rowOf A u).length = 0) v + if (rowOf A v).length = 0 then 1 else 0) := Lib.hid (by simp only [cntP]; split <;> rename_i h <;> simp [h])
    by_cases hlv : v < A.length
    · obtain ⟨c, hc⟩ : ∃ c, cntP (fun u => (rowOf A u).length = 0) v = c := ⟨_, rfl⟩
      rw [hc] at hce Hcs ⊢
      clear hc
      obtain ⟨bA, oA, rp, rc, rfl, lA, cA'⟩ := HR.out.hA.rows (by omega)
      obtain ⟨a1, _⟩ := cA' w (Grew.refl _) v hlv
      obtain ⟨rv, hrv⟩ : ∃ rv, rp v = rv := ⟨_, rfl⟩
      rw [hrv] at a1
      have hrl := HR.out.r1 v hlv
      clear cA' hrv
      by_cases h0 : rowOf A v = []
      · have Hcs2 : Hid (cntP (fun u => (rowOf A u).length = 0) (v + 1) = c + 1) := Lib.hid (by rw [Hcs.out, if_pos (by rw [h0]; rfl)])
        rw [h0] at a1
        clear h0 hrl
        go_wp2
        go_round
        case rel => exact ⟨v + 1, by omega, by go_num, by rw [Hcs2.out]; go_num⟩
        case measure => simp [intOf]; omega
      · have h0l : 0 < (rowOf A v).length := List.length_pos_iff.2 h0
        have Hcs2 : Hid (cntP (fun u => (rowOf A u).length = 0) (v + 1) = c) := Lib.hid (by rw [Hcs.out, if_neg (by omega)]; rfl)
        go_wp2
        go_round
        case rel => exact ⟨v + 1, by omega, by go_num, by rw [Hcs2.out]⟩
        case measure => simp [intOf]; omega
    · have hve : v = A.length := by omega
      subst hve
      have hce2 := HCl.out
      obtain ⟨c, hc⟩ : ∃ c, cntP (fun u => (rowOf A u).length = 0) A.length = c := ⟨_, rfl⟩
      rw [hc] at hce Hf ⊢
      obtain ⟨cl, hcl⟩ : ∃ cl, cntL E A.length = cl := ⟨_, rfl⟩
      have HC := Lib.hid (fun (W1 : World) (hg : Grew w W1) => (hcl ▸ comps_r A.length pE pA E.length A.length cE cA E A W1 (HR.out.grew hg) HV.out rfl rfl))
      rw [hcl] at Hf hce2
      clear hc hcl Hcs
      go_upto_region 9 with fail
      refine wp_region_over (by kernel_rfl) (by kernel_rfl) ?_; (repeat (go_big_quiet_step ((go_at_call 66; apply over_call; with_reducible exact HC.out _ (by (repeat (first | exact gR _ | refine gO ?_ _ | refine gA ?_ _ | refine gD ?_ | refine gN ?_ _))))))); refine wpQuiet_nil ?_; rintro _ ⟨x, rfl⟩
      have htd : -1000 ≤ ((A.length : Int) - E.length + ((f : Int) + c)).tdiv 2 ∧ ((A.length : Int) - E.length + ((f : Int) + c)).tdiv 2 ≤ 1000 := by
        generalize hX : (A.length : Int) - E.length + ((f : Int) + c) = X
        have : X ≤ 1000 := by omega
        have : -1000 ≤ X := by omega
        have h2 : Int.sign 2 = 1 := rfl
        rw [Int.tdiv_eq_ediv]
        split <;> omega
      have hwr : wrap64 ((cl : Int) - ((A.length : Int) - E.length + ((f : Int) + c)).tdiv 2) = (cl : Int) - ((A.length : Int) - E.length + ((f : Int) + c)).tdiv 2 := IntWalk.wrap64_in _ ⟨by omega, by omega⟩
      have Hwr := Lib.hid (hwr.trans Hf.out.symm)
      clear htd hwr
      go_wp2
      go_ret
      exact ⟨ret_int Hwr.out, by (repeat (first | exact gR _ | refine gO ?_ _ | refine gA ?_ _ | refine gD ?_ | refine gN ?_ _))⟩

end Go.Proofs.YtiihgpgpbgafiaaDoor

/- Cycles of a map, and how many there are. -/
namespace Go.Proofs.YtiihgpgpbgafiaaDoor

/-- From x through t to z, each the image of the one before. -/
def Ch (f : Int → Int) : Int → List Int → Int → Prop
  | x, [], z => f x = z
  | x, y :: t, z => f x = y ∧ Ch f y t z
def Cyc (f : Int → Int) : List Int → Prop
  | [] => False
  | x :: t => Ch f x t x

theorem Ch.app {f : Int → Int} : ∀ {t : List Int} {x y : Int} {u : List Int} {z : Int}, Ch f x (t ++ y :: u) z ↔ Ch f x t y ∧ Ch f y u z
  | [], _, _, _, _ => Iff.rfl
  | v :: t, x, y, u, z => by
    show (f x = v ∧ Ch f v (t ++ y :: u) z) ↔ ((f x = v ∧ Ch f v t y) ∧ Ch f y u z)
    rw [Ch.app (t := t), and_assoc]
theorem Cyc.rot {f : Int → Int} : ∀ {u v : List Int}, Cyc f (u ++ v) → Cyc f (v ++ u)
  | [], v, h => by simpa using h
  | x :: t, [], h => by simpa using h
  | x :: t, y :: w, h => by
    have h' : Ch f x (t ++ y :: w) x := h
    obtain ⟨h1, h2⟩ := Ch.app.1 h'
    exact Ch.app.2 ⟨h2, h1⟩
theorem Cyc.ne {f : Int → Int} {l : List Int} (h : Cyc f l) : l ≠ [] := by
  rintro rfl
  exact h
theorem Ch.idx {f : Int → Int} : ∀ {t : List Int} {x z : Int}, Ch f x t z → ∀ k, k < t.length + 1 → f (ge (x :: t) k) = if k < t.length then ge t k else z
  | [], x, z, h, k, hk => by
    have : k = 0 := by simp at hk; omega
    subst this
    rw [if_neg (by simp), ge_cons_zero]
    exact h
  | y :: t, x, z, h, k, hk => by
    obtain ⟨h1, h2⟩ := h
    cases k with
    | zero => rw [ge_cons_zero, if_pos (by simp), ge_cons_zero]; exact h1
    | succ k =>
      rw [ge_cons_succ, Ch.idx h2 k (by simpa using hk)]
      by_cases e : k < t.length
      · rw [if_pos e, if_pos (by simpa using e), ge_cons_succ]
      · rw [if_neg e, if_neg (by simpa using e)]
theorem Ch.of_idx {f : Int → Int} : ∀ {t : List Int} {x z : Int}, (∀ k, k < t.length + 1 → f (ge (x :: t) k) = if k < t.length then ge t k else z) → Ch f x t z
  | [], x, z, h => by have := h 0 (by simp); rw [ge_cons_zero, if_neg (by simp)] at this; exact this
  | y :: t, x, z, h => by
    refine ⟨?_, Ch.of_idx fun k hk => ?_⟩
    · have := h 0 (by simp)
      rw [ge_cons_zero, if_pos (by simp), ge_cons_zero] at this
      exact this
    · have := h (k + 1) (by simpa using hk)
      rw [ge_cons_succ] at this
      rw [this]
      by_cases e : k < t.length
      · rw [if_pos e, if_pos (by simpa using e), ge_cons_succ]
      · rw [if_neg e, if_neg (by simpa using e)]
theorem Cyc.idx {f : Int → Int} {l : List Int} (h : Cyc f l) {k : Nat} (hk : k < l.length) : f (ge l k) = ge l ((k + 1) % l.length) := by
  cases l with
  | nil => exact h.elim
  | cons x t =>
    have := Ch.idx h k (by simpa using hk)
    rw [this, List.length_cons]
    by_cases e : k < t.length
    · rw [if_pos e, Nat.mod_eq_of_lt (by omega), ge_cons_succ]
    · have : k = t.length := by simp at hk; omega
      subst this
      rw [if_neg e, Nat.mod_self, ge_cons_zero]
theorem Cyc.of_idx {f : Int → Int} {l : List Int} (hn : l ≠ []) (h : ∀ k, k < l.length → f (ge l k) = ge l ((k + 1) % l.length)) : Cyc f l := by
  cases l with
  | nil => exact hn rfl
  | cons x t =>
    refine Ch.of_idx fun k hk => ?_
    have := h k (by simpa using hk)
    rw [this, List.length_cons]
    by_cases e : k < t.length
    · rw [if_pos e, Nat.mod_eq_of_lt (by omega), ge_cons_succ]
    · have : k = t.length := by omega
      subst this
      rw [if_neg e, Nat.mod_self, ge_cons_zero]
theorem Ch.img {f : Int → Int} : ∀ {t : List Int} {x z : Int}, Ch f x t z → ∀ y ∈ x :: t, f y ∈ t ∨ f y = z
  | [], x, z, h, y, hy => by rw [List.mem_singleton.1 hy]; exact Or.inr h
  | v :: t, x, z, h, y, hy => by
    obtain ⟨h1, h2⟩ := h
    rcases List.mem_cons.1 hy with rfl | hy
    · exact Or.inl (by rw [h1]; exact List.mem_cons_self)
    · exact (Ch.img h2 y hy).imp (List.mem_cons_of_mem _) id
theorem Cyc.img {f : Int → Int} {l : List Int} (h : Cyc f l) {y : Int} (hy : y ∈ l) : f y ∈ l := by
  cases l with
  | nil => cases hy
  | cons x t =>
    rcases Ch.img h y hy with h | h
    · exact List.mem_cons_of_mem _ h
    · rw [h]; exact List.mem_cons_self
/-- What holds one element and is closed holds the cycle. -/
theorem Ch.sub {f : Int → Int} {S : Int → Prop} (hS : ∀ y, S y → S (f y)) : ∀ {t : List Int} {x z : Int}, Ch f x t z → S x → ∀ y ∈ x :: t, S y
  | [], x, z, _, hx, y, hy => by rw [List.mem_singleton.1 hy]; exact hx
  | v :: t, x, z, h, hx, y, hy => by
    obtain ⟨h1, h2⟩ := h
    rcases List.mem_cons.1 hy with rfl | hy
    · exact hx
    · exact Ch.sub hS h2 (h1 ▸ hS x hx) y hy
theorem Cyc.start {f : Int → Int} {l : List Int} (h : Cyc f l) {x : Int} (hx : x ∈ l) : ∃ u v, l = u ++ x :: v ∧ Cyc f (x :: (v ++ u)) := by
  obtain ⟨u, v, rfl⟩ := List.append_of_mem hx
  exact ⟨u, v, rfl, Cyc.rot (u := u) (v := x :: v) h⟩
theorem Cyc.sub {f : Int → Int} {S : Int → Prop} {l : List Int} (h : Cyc f l) (hS : ∀ y, S y → S (f y)) {x : Int} (hx : x ∈ l) (hSx : S x) : ∀ y ∈ l, S y := by
  obtain ⟨u, v, rfl, h'⟩ := h.start hx
  intro y hy
  refine Ch.sub hS h' hSx y ?_
  simp only [List.mem_append, List.mem_cons] at hy ⊢
  rcases hy with h | h | h
  · exact Or.inr (Or.inr h)
  · exact Or.inl h
  · exact Or.inr (Or.inl h)
/-- Two cycles that have an element in common have the same elements. -/
theorem Cyc.same {f : Int → Int} {l m : List Int} (h : Cyc f l) (k : Cyc f m) {x : Int} (hx : x ∈ l) (hm : x ∈ m) (y : Int) : y ∈ l ↔ y ∈ m :=
  ⟨fun hy => h.sub (S := (· ∈ m)) (fun _ => k.img) hx hm y hy, fun hy => k.sub (S := (· ∈ l)) (fun _ => h.img) hm hx y hy⟩

theorem Ch.rel {f h r : Int → Int} : ∀ {t : List Int} {x z : Int}, Ch f x t z → Ch h (r x) (t.map r) (r z) → ∀ y ∈ x :: t, h (r y) = r (f y)
  | [], x, z, h1, h2, y, hy => by rw [List.mem_singleton.1 hy, show f x = z from h1]; exact h2
  | v :: t, x, z, ⟨h1, h2⟩, ⟨h3, h4⟩, y, hy => by
    rcases List.mem_cons.1 hy with rfl | hy
    · rw [h1, h3]
    · exact Ch.rel h2 h4 y hy
theorem Cyc.rel {f h r : Int → Int} {l : List Int} (h1 : Cyc f l) (h2 : Cyc h (l.map r)) : ∀ y ∈ l, h (r y) = r (f y) := by
  cases l with
  | nil => exact h1.elim
  | cons x t => exact Ch.rel h1 h2
theorem Ch.map {f h r : Int → Int} : ∀ {t : List Int} {x z : Int}, (∀ y ∈ x :: t, h (r y) = r (f y)) → Ch f x t z → Ch h (r x) (t.map r) (r z)
  | [], x, z, hr, h1 => by show h (r x) = r z; rw [hr x (by simp), show f x = z from h1]
  | v :: t, x, z, hr, ⟨h1, h2⟩ => ⟨by rw [hr x (by simp), h1], Ch.map (fun y hy => hr y (List.mem_cons_of_mem _ hy)) h2⟩
theorem Cyc.map {f h r : Int → Int} {l : List Int} (hr : ∀ y ∈ l, h (r y) = r (f y)) (h1 : Cyc f l) : Cyc h (l.map r) := by
  cases l with
  | nil => exact h1.elim
  | cons x t => exact Ch.map hr h1
theorem Ch.rev {f h r : Int → Int} : ∀ {t : List Int} {x z : Int}, (∀ y ∈ x :: t, h (r (f y)) = r y) → Ch f x t z → Ch h (r z) (t.map r).reverse (r x)
  | [], x, z, hr, h1 => by
    have : f x = z := h1
    show h (r z) = r x
    rw [← this]
    exact hr x (by simp)
  | v :: t, x, z, hr, ⟨h1, h2⟩ => by
    rw [List.map_cons, List.reverse_cons]
    refine Ch.app.2 ⟨Ch.rev (fun y hy => hr y (List.mem_cons_of_mem _ hy)) h2, ?_⟩
    show h (r v) = r x
    rw [← h1]
    exact hr x (by simp)
theorem Cyc.rev {f h r : Int → Int} {l : List Int} (hr : ∀ y ∈ l, h (r (f y)) = r y) (h1 : Cyc f l) : Cyc h (l.map r).reverse := by
  cases l with
  | nil => exact h1.elim
  | cons x t =>
    rw [List.map_cons, List.reverse_cons]
    exact Cyc.rot (u := [r x]) (Ch.rev hr h1)
/-- What is stepped over. -/
theorem Ch.sk {f g sk : Int → Int} : ∀ {t : List Int} {x z : Int}, (∀ y ∈ x :: t, g y = sk (f y)) → (∀ y ∈ t, sk y = y) → Ch f x t z → Ch g x t (sk z)
  | [], x, z, hg, _, h => by show g x = sk z; rw [hg x (by simp), show f x = z from h]
  | v :: t, x, z, hg, hs, ⟨h1, h2⟩ => ⟨by rw [hg x (by simp), h1, hs v (by simp)], Ch.sk (fun y hy => hg y (List.mem_cons_of_mem _ hy)) (fun y hy => hs y (List.mem_cons_of_mem _ hy)) h2⟩

/-- The elements of D, as cycles. -/
structure Dec (D : Int → Prop) (f : Int → Int) (L : List (List Int)) : Prop where
  cyc : ∀ l ∈ L, Cyc f l
  nd : L.flatten.Nodup
  mem : ∀ x, x ∈ L.flatten ↔ D x
theorem Dec.perm {D : Int → Prop} {f : Int → Int} {L M : List (List Int)} (h : Dec D f L) (hp : L.Perm M) : Dec D f M :=
  ⟨fun l hl => h.cyc l (hp.mem_iff.2 hl), (hp.flatten.nodup_iff).1 h.nd, fun x => (hp.flatten.mem_iff).symm.trans (h.mem x)⟩
theorem Dec.swap {D : Int → Prop} {f : Int → Int} {l m : List Int} {L : List (List Int)} (h : Dec D f (l :: L)) (hp : l.Perm m) (hc : Cyc f m) : Dec D f (m :: L) := by
  have hp' : (l :: L).flatten.Perm (m :: L).flatten := by
    simp only [List.flatten_cons]
    exact hp.append_right _
  refine ⟨fun x hx => ?_, (hp'.nodup_iff).1 h.nd, fun x => (hp'.mem_iff).symm.trans (h.mem x)⟩
  rcases List.mem_cons.1 hx with rfl | hx
  · exact hc
  · exact h.cyc x (List.mem_cons_of_mem _ hx)
theorem Dec.tail {D : Int → Prop} {f : Int → Int} {l : List Int} {L : List (List Int)} (h : Dec D f (l :: L)) : Dec (fun x => D x ∧ x ∉ l) f L := by
  have hn := h.nd
  rw [List.flatten_cons, List.nodup_append] at hn
  refine ⟨fun x hx => h.cyc x (List.mem_cons_of_mem _ hx), hn.2.1, fun x => ⟨fun hx => ⟨(h.mem x).1 (by rw [List.flatten_cons]; exact List.mem_append_right _ hx), fun hl => hn.2.2 x hl x hx rfl⟩, fun hx => ?_⟩⟩
  have := (h.mem x).2 hx.1
  rw [List.flatten_cons] at this
  exact (List.mem_append.1 this).resolve_left hx.2
theorem Dec.congr {D D' : Int → Prop} {f : Int → Int} {L : List (List Int)} (h : Dec D f L) (hD : ∀ x, D x ↔ D' x) : Dec D' f L := ⟨h.cyc, h.nd, fun x => (h.mem x).trans (hD x)⟩
theorem Dec.cons {D : Int → Prop} {f : Int → Int} {l : List Int} {L : List (List Int)} (h : Dec D f L) (hc : Cyc f l) (hn : l.Nodup) (hd : ∀ x ∈ l, ¬ D x) : Dec (fun x => D x ∨ x ∈ l) f (l :: L) := by
  refine ⟨fun x hx => ?_, ?_, fun x => ?_⟩
  · rcases List.mem_cons.1 hx with rfl | hx
    · exact hc
    · exact h.cyc x hx
  · rw [List.flatten_cons, List.nodup_append]
    exact ⟨hn, h.nd, fun a ha b hb e => hd a ha ((h.mem a).1 (e ▸ hb))⟩
  · rw [List.flatten_cons, List.mem_append, h.mem x]
    exact Or.comm
theorem Dec.len : ∀ {L M : List (List Int)} {D : Int → Prop} {f : Int → Int}, Dec D f L → Dec D f M → L.length = M.length
  | [], M, D, f, h, k => by
    cases M with
    | nil => rfl
    | cons m M =>
      have hc := k.cyc m (by simp)
      cases m with
      | nil => exact hc.elim
      | cons x t =>
        have := (h.mem x).2 ((k.mem x).1 (by simp))
        simp at this
  | l :: L, M, D, f, h, k => by
    have hc := h.cyc l (by simp)
    cases l with
    | nil => exact hc.elim
    | cons x t =>
      have hx := (k.mem x).2 ((h.mem x).1 (by simp))
      obtain ⟨m, hm, hxm⟩ := List.mem_flatten.1 hx
      obtain ⟨A, B, rfl⟩ := List.append_of_mem hm
      have k' := (k.perm List.perm_middle).tail
      have hs := hc.same (k.cyc m hm) (x := x) (by simp) hxm
      have := Dec.len h.tail (k'.congr (D' := fun y => D y ∧ y ∉ x :: t) (fun y => by rw [hs y]))
      simp [this]
      omega
/-- The cycle of x in front. -/
theorem Dec.at {D : Int → Prop} {f : Int → Int} {L : List (List Int)} (h : Dec D f L) {x : Int} (hx : D x) : ∃ t M, Dec D f ((x :: t) :: M) ∧ M.length + 1 = L.length := by
  obtain ⟨l, hl, hxl⟩ := List.mem_flatten.1 ((h.mem x).2 hx)
  obtain ⟨A, B, rfl⟩ := List.append_of_mem hl
  obtain ⟨u, v, rfl, hc⟩ := (h.cyc l hl).start hxl
  refine ⟨v ++ u, A ++ B, (h.perm List.perm_middle).swap ?_ hc, by simp; omega⟩
  exact (List.perm_middle).trans (List.Perm.cons _ List.perm_append_comm)
theorem Dec.map {D D' : Int → Prop} {f h r : Int → Int} {L : List (List Int)} (k : Dec D f L) (hr : ∀ y, D y → h (r y) = r (f y)) (hi : ∀ x y, D x → D y → r x = r y → x = y) (hD : ∀ x, D' x ↔ ∃ y, D y ∧ r y = x) : Dec D' h (L.map (List.map r)) := by
  have e : (L.map (List.map r)).flatten = L.flatten.map r := by rw [List.map_flatten]
  refine ⟨fun l hl => ?_, ?_, fun x => ?_⟩
  · obtain ⟨m, hm, rfl⟩ := List.mem_map.1 hl
    exact Cyc.map (fun y hy => hr y ((k.mem y).1 (List.mem_flatten.2 ⟨m, hm, hy⟩))) (k.cyc m hm)
  · rw [e]
    unfold List.Nodup
    rw [List.pairwise_map]
    refine List.Pairwise.imp_of_mem ?_ k.nd
    intro a b ha hb hne he
    exact hne (hi a b ((k.mem a).1 ha) ((k.mem b).1 hb) he)
  · rw [e, List.mem_map, hD x]
    exact ⟨fun ⟨y, hy, e⟩ => ⟨y, (k.mem y).1 hy, e⟩, fun ⟨y, hy, e⟩ => ⟨y, (k.mem y).2 hy, e⟩⟩
/-- The reverse of all cycles. -/
theorem Dec.rev {D D' : Int → Prop} {f h r : Int → Int} {L : List (List Int)} (k : Dec D f L) (hr : ∀ y, D y → h (r (f y)) = r y) (hi : ∀ x y, D x → D y → r x = r y → x = y) (hD : ∀ x, D' x ↔ ∃ y, D y ∧ r y = x) : Dec D' h (L.map fun l => (l.map r).reverse) := by
  have hp : (L.map fun l => (l.map r).reverse).flatten.Perm (L.flatten.map r) := by
    clear k hr hi
    induction L with
    | nil => exact List.Perm.refl _
    | cons l L ih =>
      simp only [List.map_cons, List.flatten_cons, List.map_append]
      exact (List.reverse_perm _).append ih
  refine ⟨fun l hl => ?_, ?_, fun x => ?_⟩
  · obtain ⟨m, hm, rfl⟩ := List.mem_map.1 hl
    exact Cyc.rev (fun y hy => hr y ((k.mem y).1 (List.mem_flatten.2 ⟨m, hm, hy⟩))) (k.cyc m hm)
  · rw [hp.nodup_iff]
    unfold List.Nodup
    rw [List.pairwise_map]
    refine List.Pairwise.imp_of_mem ?_ k.nd
    intro a b ha hb hne he
    exact hne (hi a b ((k.mem a).1 ha) ((k.mem b).1 hb) he)
  · rw [hp.mem_iff, List.mem_map, hD x]
    exact ⟨fun ⟨y, hy, e⟩ => ⟨y, (k.mem y).1 hy, e⟩, fun ⟨y, hy, e⟩ => ⟨y, (k.mem y).2 hy, e⟩⟩

/-! ### Two elements are taken out -/
section
variable {D : Int → Prop} {f g sk : Int → Int} {a b : Int} {M : List (List Int)}
theorem cyc_out (hsk : ∀ y, y ≠ a → y ≠ b → sk y = y) (hg : ∀ y, D y → y ≠ a → y ≠ b → g y = sk (f y)) {x z : Int} {t : List Int} (hD : ∀ y ∈ x :: t, D y ∧ y ≠ a ∧ y ≠ b) (h : Ch f x t z) : Ch g x t (sk z) :=
  Ch.sk (fun y hy => hg y (hD y hy).1 (hD y hy).2.1 (hD y hy).2.2) (fun y hy => hsk y (hD y (List.mem_cons_of_mem _ hy)).2.1 (hD y (List.mem_cons_of_mem _ hy)).2.2) h
/-- They lie in different cycles: the cycles become one. -/
theorem Dec.del_two {t u : List Int} (h : Dec D f ((a :: t) :: (b :: u) :: M)) (hsk : ∀ y, y ≠ a → y ≠ b → sk y = y) (ha : sk a = f b) (hb : sk b = f a) (hfa : f a ≠ a) (hfb : f b ≠ b)
    (hg : ∀ y, D y → y ≠ a → y ≠ b → g y = sk (f y)) : ∃ L', Dec (fun y => D y ∧ y ≠ a ∧ y ≠ b) g L' ∧ L'.length = M.length + 1 := by
  have hn := h.nd
  simp only [List.flatten_cons, List.cons_append, List.nodup_cons, List.nodup_append, List.mem_append, List.mem_cons, not_or] at hn
  obtain ⟨⟨na1, na2, na3, na4⟩, n1, ⟨⟨nb1, nb2⟩, n2, n3, n4⟩, n5⟩ := hn
  have hca : Ch f a t a := h.cyc (a :: t) (by simp)
  have hcb : Ch f b u b := h.cyc (b :: u) (by simp)
  have hmem := h.mem
  simp only [List.flatten_cons, List.cons_append, List.mem_cons, List.mem_append] at hmem
  cases t with
  | nil => exact absurd hca hfa
  | cons x xs =>
    cases u with
    | nil => exact absurd hcb hfb
    | cons y ys =>
      obtain ⟨e1, hca⟩ := hca
      obtain ⟨e2, hcb⟩ := hcb
      have hDx : ∀ z ∈ x :: xs, D z ∧ z ≠ a ∧ z ≠ b := fun z hz => ⟨(hmem z).1 (Or.inr (Or.inl hz)), fun e => na1 (e ▸ hz), fun e => n5 z hz b (Or.inl rfl) e⟩
      have hDy : ∀ z ∈ y :: ys, D z ∧ z ≠ a ∧ z ≠ b := fun z hz => ⟨(hmem z).1 (Or.inr (Or.inr (Or.inr (Or.inl hz)))), fun e => na3 (e ▸ hz), fun e => nb1 (e ▸ hz)⟩
      refine ⟨((x :: xs) ++ (y :: ys)) :: M, ⟨fun l hl => ?_, ?_, fun z => ?_⟩, rfl⟩
      · rcases List.mem_cons.1 hl with rfl | hl
        · refine Ch.app.2 ⟨?_, ?_⟩
          · have := cyc_out hsk hg hDx hca
            rw [ha, e2] at this
            exact this
          · have := cyc_out hsk hg hDy hcb
            rw [hb, e1] at this
            exact this
        · have hc := h.cyc l (by simp [hl])
          cases l with
          | nil => exact hc.elim
          | cons z zs =>
            have hz : ∀ v ∈ z :: zs, D v ∧ v ≠ a ∧ v ≠ b := fun v hv => by
              have hvM : v ∈ M.flatten := List.mem_flatten.2 ⟨_, hl, hv⟩
              exact ⟨(hmem v).1 (Or.inr (Or.inr (Or.inr (Or.inr hvM)))), fun e => na4 (e ▸ hvM), fun e => nb2 (e ▸ hvM)⟩
            have := cyc_out hsk hg hz hc
            rw [hsk z (hz z (by simp)).2.1 (hz z (by simp)).2.2] at this
            exact this
      · rw [List.flatten_cons, List.nodup_append, List.nodup_append]
        refine ⟨⟨n1, n2, fun p hp q hq => n5 p hp q (Or.inr (Or.inl hq))⟩, n3, fun p hp q hq => ?_⟩
        rcases List.mem_append.1 hp with hp | hp
        · exact n5 p hp q (Or.inr (Or.inr hq))
        · exact n4 p hp q hq
      · rw [List.flatten_cons, List.mem_append, List.mem_append]
        constructor
        · rintro ((hz | hz) | hz)
          · exact hDx z hz
          · exact hDy z hz
          · exact ⟨(hmem z).1 (Or.inr (Or.inr (Or.inr (Or.inr hz)))), fun e => na4 (e ▸ hz), fun e => nb2 (e ▸ hz)⟩
        · rintro ⟨h1, h2, h3⟩
          rcases (hmem z).2 h1 with h | h | h | h | h
          · exact absurd h h2
          · exact Or.inl (Or.inl h)
          · exact absurd h h3
          · exact Or.inl (Or.inr h)
          · exact Or.inr h
/-- They lie in one cycle, in two parts then; each part may be empty. -/
theorem Dec.del_one {t : List Int} (h : Dec D f ((a :: t) :: M)) (hab : b ∈ t) (hsk : ∀ y, y ≠ a → y ≠ b → sk y = y) (ha : sk a = f b) (hb : sk b = f a) 
    (hg : ∀ y, D y → y ≠ a → y ≠ b → g y = sk (f y)) : ∃ L', Dec (fun y => D y ∧ y ≠ a ∧ y ≠ b) g L' ∧ L'.length + ((if f a = b then 1 else 0) + (if f b = a then 1 else 0)) = M.length + 2 := by
  obtain ⟨xs, ys, rfl⟩ := List.append_of_mem hab
  have hn := h.nd
  simp only [List.flatten_cons, List.cons_append, List.append_assoc, List.nodup_cons, List.nodup_append, List.mem_append, List.mem_cons, not_or] at hn
  obtain ⟨⟨na1, na2, na3, na4⟩, n1, ⟨⟨nb1, nb2⟩, n2, n3, n4⟩, n5⟩ := hn
  have hca : Ch f a (xs ++ b :: ys) a := h.cyc (a :: (xs ++ b :: ys)) (by simp)
  obtain ⟨c1, c2⟩ := Ch.app.1 hca
  have hmem := h.mem
  simp only [List.flatten_cons, List.cons_append, List.append_assoc, List.mem_cons, List.mem_append] at hmem
  have hM : Dec (fun y => y ∈ M.flatten) g M := by
    refine ⟨fun l hl => ?_, n3, fun x => Iff.rfl⟩
    have hc := h.cyc l (List.mem_cons_of_mem _ hl)
    cases l with
    | nil => exact hc.elim
    | cons z zs =>
      have hz : ∀ v ∈ z :: zs, D v ∧ v ≠ a ∧ v ≠ b := fun v hv => by
        have hvM : v ∈ M.flatten := List.mem_flatten.2 ⟨_, hl, hv⟩
        exact ⟨(hmem v).1 (Or.inr (Or.inr (Or.inr (Or.inr hvM)))), fun e => na4 (e ▸ hvM), fun e => nb2 (e ▸ hvM)⟩
      have := cyc_out hsk hg hz hc
      rw [hsk z (hz z (by simp)).2.1 (hz z (by simp)).2.2] at this
      exact this
  have hDx : ∀ z ∈ xs, D z ∧ z ≠ a ∧ z ≠ b := fun z hz => ⟨(hmem z).1 (Or.inr (Or.inl hz)), fun e => na1 (e ▸ hz), fun e => n5 z hz b (Or.inl rfl) e⟩
  have hDy : ∀ z ∈ ys, D z ∧ z ≠ a ∧ z ≠ b := fun z hz => ⟨(hmem z).1 (Or.inr (Or.inr (Or.inr (Or.inl hz)))), fun e => na3 (e ▸ hz), fun e => nb1 (e ▸ hz)⟩
  have hall : ∀ z, (D z ∧ z ≠ a ∧ z ≠ b) ↔ ((z ∈ M.flatten ∨ z ∈ ys) ∨ z ∈ xs) := fun z => by
    constructor
    · rintro ⟨h1, h2, h3⟩
      rcases (hmem z).2 h1 with h | h | h | h | h
      · exact absurd h h2
      · exact Or.inr h
      · exact absurd h h3
      · exact Or.inl (Or.inr h)
      · exact Or.inl (Or.inl h)
    · rintro ((hz | hz) | hz)
      · exact ⟨(hmem z).1 (Or.inr (Or.inr (Or.inr (Or.inr hz)))), fun e => na4 (e ▸ hz), fun e => nb2 (e ▸ hz)⟩
      · exact hDy z hz
      · exact hDx z hz
  have hY : ∃ L1, Dec (fun y => y ∈ M.flatten ∨ y ∈ ys) g L1 ∧ L1.length + (if f b = a then 1 else 0) = M.length + 1 := by
    cases ys with
    | nil =>
      refine ⟨M, hM.congr fun x => by simp, ?_⟩
      have : f b = a := c2
      rw [if_pos this]
    | cons y ys =>
      obtain ⟨e2, c2⟩ := c2
      refine ⟨(y :: ys) :: M, hM.cons (l := y :: ys) ?_ n2 (fun x hx hxM => n4 x hx x hxM rfl), ?_⟩
      · have := cyc_out hsk hg hDy c2
        rw [ha, e2] at this
        exact this
      · rw [if_neg (fun e => (hDy y (by simp)).2.1 (e2.symm.trans e))]
        rfl
  obtain ⟨L1, hL1, hl1⟩ := hY
  cases xs with
  | nil =>
    refine ⟨L1, hL1.congr fun x => by rw [hall x]; simp, ?_⟩
    have : f a = b := c1
    rw [if_pos this]
    omega
  | cons x xs =>
    obtain ⟨e1, c1⟩ := c1
    refine ⟨(x :: xs) :: L1, (hL1.cons (l := x :: xs) ?_ n1 (fun z hz hzL => ?_)).congr fun z => (hall z).symm, ?_⟩
    · have := cyc_out hsk hg hDx c1
      rw [hb, e1] at this
      exact this
    · rcases hzL with h | h
      · exact n5 z hz z (Or.inr (Or.inr h)) rfl
      · exact n5 z hz z (Or.inr (Or.inl h)) rfl
    · rw [if_neg (fun e => (hDx x (by simp)).2.2 (e1.symm.trans e)), List.length_cons]
      omega
end
end Go.Proofs.YtiihgpgpbgafiaaDoor

/- The faces as cycles. -/
namespace Go.Proofs.YtiihgpgpbgafiaaDoor

theorem Ch.last {f : Int → Int} : ∀ {t : List Int} {x z : Int}, Ch f x t z → ∃ q ∈ x :: t, f q = z
  | [], x, z, h => ⟨x, by simp, h⟩
  | y :: t, x, z, ⟨_, h⟩ => by
    obtain ⟨q, hq, e⟩ := Ch.last h
    exact ⟨q, List.mem_cons_of_mem _ hq, e⟩
theorem Cyc.pre {f : Int → Int} {l : List Int} (h : Cyc f l) {z : Int} (hz : z ∈ l) : ∃ q ∈ l, f q = z := by
  obtain ⟨u, v, rfl, h'⟩ := h.start hz
  obtain ⟨q, hq, e⟩ := Ch.last h'
  refine ⟨q, ?_, e⟩
  simp only [List.mem_append, List.mem_cons] at hq ⊢
  rcases hq with h | h | h
  · exact Or.inr (Or.inl h)
  · exact Or.inr (Or.inr h)
  · exact Or.inl h

section
variable {M : Nat} {f : Int → Int}
theorem face_hit (hf : ∀ x : Int, 0 ≤ x → x < M → 0 ≤ f x ∧ f x < M) (hi : ∀ x y : Int, 0 ≤ x → x < M → 0 ≤ y → y < M → f x = f y → x = y) {S p : List Int} {x x0 : Int}
    (hm : Met M (S ++ (x0 :: p))) (hS : ∀ y : Int, 0 ≤ y → y < M → f y ∈ S → y ∈ S) (hc : Ch f x0 p x) (hx : x ∈ S ++ (x0 :: p)) : x = x0 := by
  have hn := hm.1
  rw [List.nodup_append] at hn
  have hr : ∀ y ∈ x0 :: p, 0 ≤ y ∧ y < M := fun y hy => hm.2 y (List.mem_append_right _ hy)
  rcases List.mem_append.1 hx with hx | hx
  · obtain ⟨q, hq, e⟩ := Ch.last hc
    exact absurd rfl (hn.2.2 q (hS q (hr q hq).1 (hr q hq).2 (e ▸ hx)) q hq)
  · rcases List.mem_cons.1 hx with hx | hx
    · exact hx
    · exfalso
      obtain ⟨u, v, rfl⟩ := List.append_of_mem hx
      obtain ⟨c1, c2⟩ := Ch.app.1 hc
      obtain ⟨q, hq, e⟩ := Ch.last c1
      obtain ⟨r, hr', e'⟩ := Ch.last c2
      have h1 : q ∈ x0 :: (u ++ x :: v) := by
        rcases List.mem_cons.1 hq with h | h
        · exact List.mem_cons.2 (Or.inl h)
        · exact List.mem_cons.2 (Or.inr (List.mem_append_left _ h))
      have h2 : r ∈ x0 :: (u ++ x :: v) := List.mem_cons.2 (Or.inr (List.mem_append_right _ hr'))
      have : q = r := hi q r (hr q h1).1 (hr q h1).2 (hr r h2).1 (hr r h2).2 (by rw [e, e'])
      subst this
      have hn2 := hn.2.1
      rw [← List.cons_append, List.nodup_append] at hn2
      exact hn2.2.2 q hq q hr' rfl
theorem faceN_cyc (hf : ∀ x : Int, 0 ≤ x → x < M → 0 ≤ f x ∧ f x < M) (hi : ∀ x y : Int, 0 ≤ x → x < M → 0 ≤ y → y < M → f x = f y → x = y) {S : List Int} {x0 : Int} (hS : ∀ y : Int, 0 ≤ y → y < M → f y ∈ S → y ∈ S) :
    ∀ (n : Nat) (p : List Int) (x : Int), Met M (S ++ (x0 :: p)) → Ch f x0 p x → 0 ≤ x → x < M → n + (p.length + 1) = M → Cyc f (x0 :: (p ++ faceN f n (S ++ (x0 :: p)) x))
  | 0, p, x, hm, hc, h0, h1, hn => by
    have hx : x ∈ S ++ (x0 :: p) := Classical.byContradiction fun hx => by
      have := (hm.snoc h0 h1 hx).len
      simp at this
      omega
    have := face_hit hf hi hm hS hc hx
    subst this
    simp only [faceN, List.append_nil]
    exact hc
  | n + 1, p, x, hm, hc, h0, h1, hn => by
    rw [faceN]
    by_cases hx : x ∈ S ++ (x0 :: p)
    · rw [if_pos hx, List.append_nil]
      have := face_hit hf hi hm hS hc hx
      subst this
      exact hc
    · rw [if_neg hx]
      have := faceN_cyc hf hi hS n (p ++ [x]) (f x) (by rw [← List.cons_append, ← List.append_assoc]; exact hm.snoc h0 h1 hx) (Ch.app.2 ⟨hc, rfl⟩) (hf x h0 h1).1 (hf x h0 h1).2 (by rw [List.length_append]; simp; omega)
      have e : S ++ (x0 :: p) ++ [x] = S ++ x0 :: (p ++ [x]) := by rw [List.append_assoc]; rfl
      rw [e]
      rw [List.append_assoc] at this
      exact this

/-- What the faces are, when the first d darts have been asked. -/
structure FacOK (M : Nat) (f : Int → Int) (d : Nat) (S : List Int) (fs : List (List Int)) : Prop where
  met : Met M S
  flat : S = fs.flatten
  cyc : ∀ l ∈ fs, Cyc f l
  old : ∀ x : Int, 0 ≤ x → x < d → x ∈ S
  shut : ∀ y : Int, 0 ≤ y → y < M → f y ∈ S → y ∈ S
  head : ∀ l ∈ fs, (∀ x ∈ l, ge l 0 ≤ x) ∧ ge l 0 < d
  incr : fs.Pairwise fun l m => ge l 0 < ge m 0
theorem facesN_ok (hf : ∀ x : Int, 0 ≤ x → x < M → 0 ≤ f x ∧ f x < M) (hi : ∀ x y : Int, 0 ≤ x → x < M → 0 ≤ y → y < M → f x = f y → x = y) : ∀ d : Nat, d ≤ M → FacOK M f d (facesN f M d).1 (facesN f M d).2
  | 0, _ => ⟨⟨List.nodup_nil, fun _ h => (by cases h)⟩, rfl, fun _ h => (by cases h), fun x h0 h1 => (by omega), fun y _ _ h => (by cases h), fun _ h => (by cases h), List.Pairwise.nil⟩
  | d + 1, hd => by
    have ih := facesN_ok hf hi d (by omega)
    obtain ⟨S, hS⟩ : ∃ S, (facesN f M d).1 = S := ⟨_, rfl⟩
    obtain ⟨fs, hfs⟩ : ∃ fs, (facesN f M d).2 = fs := ⟨_, rfl⟩
    rw [hS, hfs] at ih
    simp only [facesN]
    rw [hS, hfs]
    by_cases hx : (d : Int) ∈ S
    · have e : faceN f M S d = [] := by
        cases M with
        | zero => rfl
        | succ m => rw [faceN, if_pos hx]
      rw [e, if_pos rfl, List.append_nil]
      refine ⟨ih.met, ih.flat, ih.cyc, fun x h0 h1 => ?_, ih.shut, fun l hl => ⟨(ih.head l hl).1, by have := (ih.head l hl).2; push_cast; omega⟩, ih.incr⟩
      by_cases e : x = d
      · exact e ▸ hx
      · exact ih.old x h0 (by push_cast at h1; omega)
    · obtain ⟨m, rfl⟩ : ∃ m, M = m + 1 := ⟨M - 1, by omega⟩
      have hm1 := ih.met.snoc (x := (d : Int)) (by omega) (by omega) hx
      have hcy := faceN_cyc hf hi (S := S) (x0 := (d : Int)) ih.shut m [] (f d) hm1 rfl (hf d (by omega) (by omega)).1 (hf d (by omega) (by omega)).2 (by simp)
      rw [List.nil_append] at hcy
      have hfm := faceN_met hf (m + 1) S d ih.met (by omega) (by omega)
      have hfe : faceN f (m + 1) S d = (d : Int) :: faceN f m (S ++ [(d : Int)]) (f d) := by rw [faceN, if_neg hx]
      rw [← hfe] at hcy
      obtain ⟨l, hl⟩ : ∃ l, faceN f (m + 1) S d = l := ⟨_, rfl⟩
      have hl0 : ge l 0 = d := by rw [← hl, hfe, ge_cons_zero]
      have hdl : (d : Int) ∈ l := by rw [← hl, hfe]; simp
      rw [hl] at hcy hfm ⊢
      have hne : l ≠ [] := hcy.ne
      rw [if_neg hne]
      have hnew : ∀ x ∈ l, x ∉ S := fun x hx hxS => by
        have := hfm.1
        rw [List.nodup_append] at this
        exact this.2.2 x hxS x hx rfl
      have hrl : ∀ x ∈ l, 0 ≤ x ∧ x < ((m + 1 : Nat) : Int) := fun x hx => hfm.2 x (List.mem_append_right _ hx)
      refine ⟨hfm, ?_, fun l' hl' => ?_, fun x h0 h1 => ?_, fun y h0 h1 hy => ?_, fun l' hl' => ?_, ?_⟩
      · rw [List.flatten_append, ← ih.flat]; simp
      · rcases List.mem_append.1 hl' with h | h
        · exact ih.cyc l' h
        · rw [List.mem_singleton.1 h]; exact hcy
      · by_cases e : x = d
        · exact List.mem_append_right _ (e ▸ hdl)
        · exact List.mem_append_left _ (ih.old x h0 (by push_cast at h1; omega))
      · rcases List.mem_append.1 hy with h | h
        · exact List.mem_append_left _ (ih.shut y h0 h1 h)
        · obtain ⟨q, hq, e⟩ := hcy.pre h
          have := hi q y (hrl q hq).1 (hrl q hq).2 h0 h1 e
          subst this
          exact List.mem_append_right _ hq
      · rcases List.mem_append.1 hl' with h | h
        · have := ih.head l' h
          exact ⟨this.1, by push_cast; omega⟩
        · rw [List.mem_singleton.1 h]
          refine ⟨fun x hx => ?_, by rw [hl0]; push_cast; omega⟩
          rw [hl0]
          exact Int.not_lt.1 fun hlt => hnew x hx (ih.old x (hrl x hx).1 hlt)
      · rw [List.pairwise_append]
        refine ⟨ih.incr, List.pairwise_singleton _ _, fun a ha b hb => ?_⟩
        rw [List.mem_singleton.1 hb, hl0]
        exact (ih.head a ha).2
end

theorem fac_inj {N : Int} {E : List (Int × Int)} {A : List (List Int)} (hV : vRot N E A) : ∀ x y : Int, 0 ≤ x → x < (2 * E.length : Nat) → 0 ≤ y → y < (2 * E.length : Nat) → nxF A x = nxF A y → x = y := by
  intro x y x0 x1 y0 y1 h
  have hs : ∀ x y : Int, 0 ≤ x → x < 2 * E.length → 0 ≤ y → y < 2 * E.length → sucF A x = sucF A y → x = y := by
    intro x y x0 x1 y0 y1 h
    obtain ⟨v, k, hv, hk, e, _⟩ := dart_pos hV x0 x1
    obtain ⟨v', k', hv', hk', e', _⟩ := dart_pos hV y0 y1
    rw [← e, ← e', suc_of hV hv hk, suc_of hV hv' hk'] at h
    have l1 : (k + 1) % (rowOf A v).length < (rowOf A v).length := Nat.mod_lt _ (by omega)
    have l2 : (k' + 1) % (rowOf A v').length < (rowOf A v').length := Nat.mod_lt _ (by omega)
    have t1 : tailE E (ge (rowOf A v) ((k + 1) % (rowOf A v).length)) = v := (hV.dr (v, _) (mem_pre.2 ⟨_, hv, l1, rfl⟩)).2.2
    have t2 : tailE E (ge (rowOf A v') ((k' + 1) % (rowOf A v').length)) = v' := (hV.dr (v', _) (mem_pre.2 ⟨_, hv', l2, rfl⟩)).2.2
    have hvv : v = v' := by rw [h, t2] at t1; omega
    subst hvv
    have hkk : (k + 1) % (rowOf A v).length = (k' + 1) % (rowOf A v).length := by
      rcases Nat.lt_trichotomy ((k + 1) % (rowOf A v).length) ((k' + 1) % (rowOf A v).length) with c | c | c
      · exact absurd h (row_inj hV hv c l2)
      · exact c
      · exact absurd h.symm (row_inj hV hv c l1)
    have : k = k' := by
      rcases Nat.lt_or_ge (k + 1) (rowOf A v).length with c | c
      · rcases Nat.lt_or_ge (k' + 1) (rowOf A v).length with c' | c'
        · rw [Nat.mod_eq_of_lt c, Nat.mod_eq_of_lt c'] at hkk; omega
        · have : k' + 1 = (rowOf A v).length := by omega
          rw [Nat.mod_eq_of_lt c, this, Nat.mod_self] at hkk; omega
      · have e1 : k + 1 = (rowOf A v).length := by omega
        rcases Nat.lt_or_ge (k' + 1) (rowOf A v).length with c' | c'
        · rw [Nat.mod_eq_of_lt c', e1, Nat.mod_self] at hkk; omega
        · omega
    subst this
    rw [← e, ← e']
  have o1 := oth_in (d := x) (M := E.length) x0 (by push_cast at x1; omega)
  have o2 := oth_in (d := y) (M := E.length) y0 (by push_cast at y1; omega)
  have := hs (oth x) (oth y) o1.1 (by omega) o2.1 (by omega) h
  rw [← oth_oth x, this, oth_oth]
theorem fac_ok {N : Int} {E : List (Int × Int)} {A : List (List Int)} (hV : vRot N E A) : FacOK (2 * E.length) (nxF A) (2 * E.length) (facesN (nxF A) (2 * E.length) (2 * E.length)).1 (facesF A (2 * E.length)) :=
  facesN_ok (fun x h0 h1 => by have := nxF_in hV (e := x) h0 (by push_cast at h1; omega); push_cast; omega) (fac_inj hV) _ (Nat.le_refl _)
theorem fac_dec {N : Int} {E : List (Int × Int)} {A : List (List Int)} (hV : vRot N E A) : Dec (fun x => 0 ≤ x ∧ x < 2 * (E.length : Int)) (nxF A) (facesF A (2 * E.length)) := by
  have h := fac_ok hV
  refine ⟨h.cyc, by rw [← h.flat]; exact h.met.1, fun x => ?_⟩
  rw [← h.flat]
  exact ⟨fun hx => by have := h.met.2 x hx; push_cast at this; omega, fun hx => h.old x hx.1 (by push_cast; omega)⟩
end Go.Proofs.YtiihgpgpbgafiaaDoor

/- A system without an edge: it is valid, and its genus is not greater. -/
namespace Go.Proofs.YtiihgpgpbgafiaaDoor

/-- A row without the darts of edge e. -/
def delOne (e d : Int) : List Int := if e < d / 2 then [d - 2] else if d / 2 < e then [d] else []
def delRow (e : Int) (l : List Int) : List Int := l.flatMap (delOne e)
/-- The new number of a dart. -/
def sh (e d : Int) : Int := if d < 2 * e then d else d - 2
theorem delOne_in {e d : Int} (h : d / 2 ≠ e) : delOne e d = [sh e d] := by
  unfold delOne sh
  by_cases h1 : e < d / 2
  · rw [if_pos h1, if_neg (by omega)]
  · rw [if_neg h1, if_pos (by omega), if_pos (by omega)]
theorem delOne_out {e d : Int} (h : d / 2 = e) : delOne e d = [] := by
  unfold delOne
  rw [if_neg (by omega), if_neg (by omega)]
theorem delRow_app (e : Int) (a b : List Int) : delRow e (a ++ b) = delRow e a ++ delRow e b := List.flatMap_append
theorem delRow_cons (e x : Int) (l : List Int) : delRow e (x :: l) = delOne e x ++ delRow e l := rfl
theorem delRow_all {e : Int} : ∀ {l : List Int}, (∀ d ∈ l, d / 2 ≠ e) → delRow e l = l.map (sh e)
  | [], _ => rfl
  | x :: l, h => by
    rw [delRow_cons, delOne_in (h x (by simp)), delRow_all (fun d hd => h d (List.mem_cons_of_mem _ hd))]
    rfl
theorem mem_delRow {e y : Int} {l : List Int} : y ∈ delRow e l ↔ ∃ d ∈ l, d / 2 ≠ e ∧ sh e d = y := by
  unfold delRow
  rw [List.mem_flatMap]
  constructor
  · rintro ⟨d, hd, hy⟩
    by_cases h : d / 2 = e
    · rw [delOne_out h] at hy; cases hy
    · rw [delOne_in h, List.mem_singleton] at hy
      exact ⟨d, hd, h, hy.symm⟩
  · rintro ⟨d, hd, h, rfl⟩
    exact ⟨d, hd, by rw [delOne_in h]; simp⟩
theorem sh_inj {e x y : Int} (hx : x / 2 ≠ e) (hy : y / 2 ≠ e) (h : sh e x = sh e y) : x = y := by
  unfold sh at h
  split at h <;> split at h <;> omega
theorem delRow_nodup {e : Int} : ∀ {l : List Int}, l.Nodup → (delRow e l).Nodup
  | [], _ => List.nodup_nil
  | x :: l, h => by
    rw [List.nodup_cons] at h
    rw [delRow_cons]
    by_cases hx : x / 2 = e
    · rw [delOne_out hx]; exact delRow_nodup h.2
    · rw [delOne_in hx, List.singleton_append, List.nodup_cons]
      refine ⟨fun hm => ?_, delRow_nodup h.2⟩
      obtain ⟨d, hd, h1, h2⟩ := mem_delRow.1 hm
      exact h.1 (sh_inj h1 hx h2 ▸ hd)
theorem delRow_perm {e : Int} {l m : List Int} (h : l.Perm m) : (delRow e l).Perm (delRow e m) := h.flatMap_right _

/-- The darts of the first n lists. -/
def dts (A : List (List Int)) (n : Nat) : List Int := (pre A n).map (·.2)
theorem dts_succ (A : List (List Int)) (n : Nat) : dts A (n + 1) = dts A n ++ rowOf A n := by
  unfold dts
  rw [pre_succ, List.map_append, List.map_map]
  congr 1
  exact List.map_id _
theorem rowOf_map (g : List Int → List Int) (hg : g [] = []) (A : List (List Int)) (v : Nat) : rowOf (A.map g) v = g (rowOf A v) := by
  unfold rowOf
  by_cases h : v < A.length
  · simp [List.getD_eq_getElem?_getD, h]
  · simp [List.getD_eq_getElem?_getD, h, hg]
theorem dts_del (e : Int) (A : List (List Int)) : ∀ n, dts (A.map (delRow e)) n = delRow e (dts A n)
  | 0 => rfl
  | n + 1 => by rw [dts_succ, dts_succ, delRow_app, dts_del e A n, rowOf_map _ rfl]

theorem pr_erase {E : List (Int × Int)} {e i : Nat} (he : e < E.length) (hi : i + 1 < E.length) : pr (E.eraseIdx e) i = pr E (if i < e then i else i + 1) := by
  have hl : i < (E.eraseIdx e).length := by rw [List.length_eraseIdx, if_pos he]; omega
  rw [pr_eq _ hl, List.getElem_eraseIdx]
  by_cases h : i < e
  · rw [dif_pos h, if_pos h, pr_eq]
  · rw [dif_neg h, if_neg h, pr_eq]
theorem tailE_sh {E : List (Int × Int)} {e : Nat} (he : e < E.length) {d : Int} (h0 : 0 ≤ d) (h1 : d < 2 * E.length) (hd : d / 2 ≠ e) : tailE (E.eraseIdx e) (sh e d) = tailE E d := by
  unfold tailE sh
  by_cases h : d < 2 * e
  · rw [if_pos h, pr_erase he (by omega), if_pos (show (d / 2).toNat < e by omega)]
  · rw [if_neg h, pr_erase he (by omega), if_neg (show ¬ ((d - 2) / 2).toNat < e by omega)]
    have e1 : ((d - 2) / 2).toNat + 1 = (d / 2).toNat := by omega
    rw [e1]
    by_cases hp : d % 2 = 0
    · rw [if_pos hp, if_pos (show (d - 2) % 2 = 0 by omega)]
    · rw [if_neg hp, if_neg (show ¬ (d - 2) % 2 = 0 by omega)]
theorem sh_in {e : Nat} {n : Nat} (he : e < n) {d : Int} (h0 : 0 ≤ d) (h1 : d < 2 * n) (hd : d / 2 ≠ e) : 0 ≤ sh e d ∧ sh e d < 2 * ((n - 1 : Nat) : Int) := by
  unfold sh
  split <;> omega
theorem oth_sh {e d : Int} : oth (sh e d) = sh e (oth d) := by
  unfold oth sh
  by_cases h : d % 2 = 0
  · by_cases h2 : d < 2 * e
    · simp only [h2, h, if_true]; rw [if_pos (by omega)]
    · simp only [h2, h, if_true, if_false]; rw [if_pos (by omega), if_neg (by omega)]; omega
  · by_cases h2 : d < 2 * e
    · simp only [h2, h, if_true, if_false]; rw [if_pos (by omega)]
    · simp only [h2, h, if_false]; rw [if_neg (by omega), if_neg (by omega)]; omega
theorem oth_half (d : Int) : oth d / 2 = d / 2 := by unfold oth; split <;> omega

section
variable {N : Int} {E : List (Int × Int)} {A : List (List Int)}
theorem mem_dts {x : Int} : x ∈ dts A A.length ↔ ∃ v k, v < A.length ∧ k < (rowOf A v).length ∧ ge (rowOf A v) k = x := by
  unfold dts
  rw [List.mem_map]
  constructor
  · rintro ⟨q, hq, rfl⟩
    obtain ⟨k, h1, h2, h3⟩ := mem_pre.1 hq
    exact ⟨q.1, k, h1, h2, h3⟩
  · rintro ⟨v, k, h1, h2, h3⟩
    exact ⟨(v, x), mem_pre.2 ⟨k, h1, h2, h3⟩, rfl⟩
theorem dart_dts (hV : vRot N E A) {d : Int} (h0 : 0 ≤ d) (h1 : d < 2 * E.length) : d ∈ dts A A.length := by
  obtain ⟨v, k, hv, hk, e, _⟩ := dart_pos hV h0 h1
  exact mem_dts.2 ⟨v, k, hv, hk, e⟩
theorem del_valid (hV : vRot N E A) {e : Nat} (he : e < E.length) : vRot N (E.eraseIdx e) (A.map (delRow e)) := by
  have hlen : (E.eraseIdx e).length = E.length - 1 := by rw [List.length_eraseIdx, if_pos he]
  refine ⟨hV.n0, hV.n1, by have := hV.e1; omega, by rw [List.length_map]; exact hV.al, fun i hi => ?_, fun q hq => ?_, ?_, ?_⟩
  · rw [pr_erase he (by omega)]
    split
    · exact hV.ed _ (by omega)
    · exact hV.ed _ (by omega)
  · obtain ⟨k, h1, h2, h3⟩ := mem_pre.1 hq
    rw [List.length_map] at h1
    have hm : q.2 ∈ delRow e (rowOf A q.1) := by rw [← rowOf_map (delRow e) rfl, ← h3]; exact ge_mem h2
    obtain ⟨d, hd, hn, hs⟩ := mem_delRow.1 hm
    obtain ⟨i, hi, rfl⟩ := List.getElem_of_mem hd
    have hok := hV.dr (q.1, (rowOf A q.1)[i]) (mem_pre.2 ⟨i, h1, hi, ge_eq _ hi⟩)
    obtain ⟨o1, o2, o3⟩ := hok
    dsimp only at o1 o2 o3
    have := sh_in he o1 o2 hn
    rw [hs] at this
    refine ⟨this.1, by rw [hlen]; exact this.2, ?_⟩
    rw [← hs, tailE_sh he o1 o2 hn, o3]
  · show (dts _ _).Nodup
    rw [List.length_map, dts_del]
    exact delRow_nodup hV.nd
  · have hp1 : (2 * (e : Int)) ∈ dts A A.length := dart_dts hV (by omega) (by omega)
    have hp2 : (2 * (e : Int) + 1) ∈ dts A A.length := dart_dts hV (by omega) (by omega)
    have hnd : (dts A A.length).Nodup := hV.nd
    have hln : (dts A A.length).length = 2 * E.length := by unfold dts; rw [List.length_map]; exact hV.ln
    have hgoal : (dts (A.map (delRow e)) (A.map (delRow e)).length).length = 2 * (E.eraseIdx e).length := by
      rw [List.length_map, dts_del, hlen]
      have q1 := List.perm_cons_erase hp1
      have hp2' : (2 * (e : Int) + 1) ∈ (dts A A.length).erase (2 * (e : Int)) := (List.mem_erase_of_ne (by omega)).2 hp2
      have q2 := List.perm_cons_erase hp2'
      have q := q1.trans (q2.cons _)
      have hnd2 := (q.nodup_iff).1 hnd
      have hl2 := q.length_eq
      simp only [List.length_cons] at hl2
      rw [(delRow_perm q).length_eq, delRow_cons, delRow_cons, delOne_out (by omega), delOne_out (by omega), List.nil_append, List.nil_append, delRow_all, List.length_map]
      · omega
      · intro d hd hde
        rw [List.nodup_cons, List.nodup_cons] at hnd2
        have : d = 2 * (e : Int) ∨ d = 2 * (e : Int) + 1 := by omega
        rcases this with rfl | rfl
        · exact hnd2.1 (List.mem_cons_of_mem _ hd)
        · exact hnd2.2.1 hd
    unfold dts at hgoal
    rw [List.length_map] at hgoal
    exact hgoal

/-- A row is a cycle. -/
theorem row_cyc (hV : vRot N E A) {v : Nat} (hv : v < A.length) (h0 : rowOf A v ≠ []) : Cyc (sucF A) (rowOf A v) := Cyc.of_idx h0 fun _ hk => suc_of hV hv hk
theorem row_nodup (hV : vRot N E A) {v : Nat} (hv : v < A.length) : (rowOf A v).Nodup := by
  unfold List.Nodup
  rw [List.pairwise_iff_getElem]
  intro i j hi hj hij
  rw [← ge_eq _ hi, ← ge_eq _ hj]
  exact row_inj hV hv hij hj
theorem mem_row (hV : vRot N E A) {v : Nat} (hv : v < A.length) {d : Int} (hd : d ∈ rowOf A v) : 0 ≤ d ∧ d < 2 * E.length ∧ tailE E d = v := by
  obtain ⟨i, hi, rfl⟩ := List.getElem_of_mem hd
  exact hV.dr (v, (rowOf A v)[i]) (mem_pre.2 ⟨i, hv, hi, ge_eq _ hi⟩)
theorem row_of (hV : vRot N E A) {d : Int} (h0 : 0 ≤ d) (h1 : d < 2 * E.length) : ∃ v, v < A.length ∧ d ∈ rowOf A v ∧ tailE E d = v := by
  obtain ⟨v, k, hv, hk, e, t⟩ := dart_pos hV h0 h1
  exact ⟨v, hv, e ▸ ge_mem hk, t⟩
theorem suc_tail (hV : vRot N E A) {d : Int} (h0 : 0 ≤ d) (h1 : d < 2 * E.length) : tailE E (sucF A d) = tailE E d := by
  obtain ⟨v, hv, hd, ht⟩ := row_of hV h0 h1
  rw [ht]
  exact (mem_row hV hv ((row_cyc hV hv (List.ne_nil_of_mem hd)).img hd)).2.2
theorem ends_ne (hV : vRot N E A) {e : Nat} (he : e < E.length) : tailE E (2 * e) ≠ tailE E (2 * e + 1) := by
  have := hV.ed e he
  unfold okEdge at this
  unfold tailE
  rw [if_pos (by omega), if_neg (by omega), show (2 * (e : Int) / 2).toNat = e by omega, show ((2 * (e : Int) + 1) / 2).toNat = e by omega]
  exact this.2.2.2.2

/-- What is stepped over when the darts a and b go. -/
def skF (A : List (List Int)) (a b z : Int) : Int := if z = a then sucF A a else if z = b then sucF A b else z
theorem suc_del (hV : vRot N E A) {e : Nat} (he : e < E.length) {y : Int} (h0 : 0 ≤ y) (h1 : y < 2 * E.length) (hy : y / 2 ≠ e) :
    sucF (A.map (delRow e)) (sh e y) = sh e (skF A (2 * e) (2 * e + 1) (sucF A y)) := by
  have hV' := del_valid hV he
  obtain ⟨v, hv, hd, ht⟩ := row_of hV h0 h1
  have hcy := row_cyc hV hv (List.ne_nil_of_mem hd)
  have hnd := row_nodup hV hv
  have hrow : rowOf (A.map (delRow e)) v = delRow e (rowOf A v) := rowOf_map _ rfl A v
  have hcy' := row_cyc hV' (v := v) (by rw [List.length_map]; exact hv) (by rw [hrow]; exact List.ne_nil_of_mem (mem_delRow.2 ⟨y, hd, hy, rfl⟩))
  rw [hrow] at hcy'
  have key : ∀ c c' : Int, (c = 2 * e ∧ c' = 2 * e + 1 ∨ c = 2 * e + 1 ∧ c' = 2 * e) → c ∈ rowOf A v → sucF (A.map (delRow e)) (sh e y) = sh e (skF A (2 * e) (2 * e + 1) (sucF A y)) := by
    intro c c' hcc hc
    have hc' : c' ∉ rowOf A v := fun h => by
      have t1 := (mem_row hV hv hc).2.2
      have t2 := (mem_row hV hv h).2.2
      have := ends_ne hV he
      rcases hcc with ⟨rfl, rfl⟩ | ⟨rfl, rfl⟩
      · exact this (t1.trans t2.symm)
      · exact this (t2.trans t1.symm)
    have hskc : skF A (2 * e) (2 * e + 1) c = sucF A c := by
      unfold skF
      rcases hcc with ⟨rfl, rfl⟩ | ⟨rfl, rfl⟩
      · rw [if_pos rfl]
      · rw [if_neg (by omega), if_pos rfl]
    have hsk : ∀ z, z ≠ c → z ≠ c' → skF A (2 * e) (2 * e + 1) z = z := fun z h1 h2 => by
      unfold skF
      rcases hcc with ⟨rfl, rfl⟩ | ⟨rfl, rfl⟩
      · rw [if_neg h1, if_neg h2]
      · rw [if_neg h2, if_neg h1]
    have hce : c / 2 = e := by omega
    obtain ⟨u, w, hl, hcyc⟩ := hcy.start hc
    rw [hl] at hnd hd hc' hcy'
    rw [List.nodup_append, List.nodup_cons] at hnd
    have hin : ∀ z ∈ w ++ u, z ≠ c ∧ z ≠ c' ∧ z / 2 ≠ e := fun z hz => by
      have hzc : z ≠ c := by
        rintro rfl
        rcases List.mem_append.1 hz with h | h
        · exact hnd.2.1.1 h
        · exact hnd.2.2 _ h _ (by simp) rfl
      have hzc' : z ≠ c' := by
        rintro rfl
        refine hc' ?_
        rcases List.mem_append.1 hz with h | h
        · exact List.mem_append_right _ (List.mem_cons_of_mem _ h)
        · exact List.mem_append_left _ h
      exact ⟨hzc, hzc', by omega⟩
    have hyw : y ∈ w ++ u := by
      have hyc : y ≠ c := fun e => hy (by rw [e]; exact hce)
      simp only [List.mem_append, List.mem_cons] at hd ⊢
      rcases hd with h | h | h
      · exact Or.inr h
      · exact absurd h hyc
      · exact Or.inl h
    have hdel : delRow e (u ++ c :: w) = (u ++ w).map (sh e) := by
      rw [delRow_app, delRow_cons, delOne_out hce, List.nil_append, ← delRow_app]
      exact delRow_all (fun d hd => (hin d ((List.perm_append_comm.mem_iff).1 hd)).2.2)
    have hcs : Cyc (fun z => skF A (2 * e) (2 * e + 1) (sucF A z)) (w ++ u) := by
      cases hwu : w ++ u with
      | nil => rw [hwu] at hyw; cases hyw
      | cons z t =>
        rw [hwu] at hcyc hin
        obtain ⟨e1, e2⟩ : sucF A c = z ∧ Ch (sucF A) z t c := hcyc
        have := Ch.sk (f := sucF A) (g := fun z => skF A (2 * e) (2 * e + 1) (sucF A z)) (sk := skF A (2 * e) (2 * e + 1)) (t := t) (x := z) (z := c) (fun _ _ => rfl) (fun q hq => hsk q (hin q (List.mem_cons_of_mem _ hq)).1 (hin q (List.mem_cons_of_mem _ hq)).2.1) e2
        rw [hskc, e1] at this
        exact this
    rw [hdel] at hcy'
    exact (hcs.rot).rel hcy' y ((List.perm_append_comm.mem_iff).1 hyw)
  by_cases ha : (2 * (e : Int)) ∈ rowOf A v
  · exact key _ _ (Or.inl ⟨rfl, rfl⟩) ha
  · by_cases hb : (2 * (e : Int) + 1) ∈ rowOf A v
    · exact key _ _ (Or.inr ⟨rfl, rfl⟩) hb
    · have hall : ∀ d ∈ rowOf A v, d / 2 ≠ e := fun d hd h => by
        have : d = 2 * (e : Int) ∨ d = 2 * (e : Int) + 1 := by omega
        rcases this with rfl | rfl
        · exact ha hd
        · exact hb hd
      rw [delRow_all hall] at hcy'
      have hsd := hcy.img hd
      rw [hcy.rel hcy' y hd]
      unfold skF
      rw [if_neg (fun h : sucF A y = 2 * (e : Int) => ha (h ▸ hsd)), if_neg (fun h : sucF A y = 2 * (e : Int) + 1 => hb (h ▸ hsd))]
end
end Go.Proofs.YtiihgpgpbgafiaaDoor

/- The genus when an edge is deleted. -/
namespace Go.Proofs.YtiihgpgpbgafiaaDoor

theorem cntP_mono {p q : Nat → Prop} : ∀ {n : Nat}, (∀ v, v < n → p v → q v) → cntP p n ≤ cntP q n
  | 0, _ => Nat.le_refl _
  | n + 1, h => by
    have ih := cntP_mono (p := p) (q := q) (n := n) (fun v hv => h v (by omega))
    simp only [cntP]
    by_cases hp : p n
    · rw [if_pos hp, if_pos (h n (by omega) hp)]; omega
    · rw [if_neg hp]; split <;> omega
theorem cntP_one {p q : Nat → Prop} : ∀ {n : Nat}, (∀ v w, v < n → w < n → p v → ¬ q v → p w → ¬ q w → v = w) → cntP p n ≤ cntP q n + 1
  | 0, _ => by simp [cntP]
  | n + 1, h => by
    simp only [cntP]
    by_cases hx : p n ∧ ¬ q n
    · have := cntP_mono (p := p) (q := q) (n := n) (fun v hv hpv => Classical.byContradiction fun hq => by
        have := h v n (by omega) (by omega) hpv hq hx.1 hx.2
        omega)
      rw [if_pos hx.1, if_neg hx.2]
      omega
    · have ih := cntP_one (p := p) (q := q) (n := n) (fun v w hv hw => h v w (by omega) (by omega))
      by_cases hp : p n
      · have hq : q n := Classical.byContradiction fun hq => hx ⟨hp, hq⟩
        rw [if_pos hp, if_pos hq]; omega
      · rw [if_neg hp]; split <;> omega
/-- One more. -/
theorem cntP_add {p : Nat → Prop} {x : Nat} {P : Prop} [Decidable P] {n : Nat} (hp : ¬ p x) (hx : x < n) : cntP (fun u => p u ∨ (u = x ∧ P)) n = cntP p n + if P then 1 else 0 := by
  by_cases h : P
  · rw [if_pos h]
    exact cntP_drop (x := x) (Or.inr ⟨rfl, h⟩) hp hx (fun v _ hne => ⟨fun h => h.resolve_right (fun h => hne h.1), Or.inl⟩)
  · rw [if_neg h]
    exact cntP_congr fun v _ => ⟨fun h2 => h2.resolve_right (fun h3 => h h3.2), Or.inl⟩

section
variable {E : List (Int × Int)} {e : Nat}
theorem nbr_del (he : e < E.length) {u v : Int} (h : nbrJ E E.length u v) :
    nbrJ (E.eraseIdx e) (E.eraseIdx e).length u v ∨ ((pr E e).1 = u ∧ (pr E e).2 = v) ∨ ((pr E e).2 = u ∧ (pr E e).1 = v) := by
  obtain ⟨i, hi, hh⟩ := h
  by_cases hie : i = e
  · subst hie; exact Or.inr hh
  · left
    have hl : (E.eraseIdx e).length = E.length - 1 := by rw [List.length_eraseIdx, if_pos he]
    refine ⟨if i < e then i else i - 1, by rw [hl]; split <;> omega, ?_⟩
    have : pr (E.eraseIdx e) (if i < e then i else i - 1) = pr E i := by
      rw [pr_erase he (by split <;> omega)]
      congr 1
      by_cases hie2 : i < e
      · rw [if_pos hie2, if_pos hie2]
      · rw [if_neg hie2, if_neg (by omega)]; omega
    rw [this]
    exact hh
theorem Cn.del (he : e < E.length) {u v : Int} (h : Cn E E.length u v) :
    Cn (E.eraseIdx e) (E.eraseIdx e).length u v ∨ (Cn (E.eraseIdx e) (E.eraseIdx e).length u (pr E e).1 ∧ Cn (E.eraseIdx e) (E.eraseIdx e).length (pr E e).2 v) ∨
      (Cn (E.eraseIdx e) (E.eraseIdx e).length u (pr E e).2 ∧ Cn (E.eraseIdx e) (E.eraseIdx e).length (pr E e).1 v) := by
  induction h with
  | refl => exact Or.inl (Cn.refl _)
  | step _ hn ih =>
    rcases nbr_del he hn with hn' | ⟨rfl, rfl⟩ | ⟨rfl, rfl⟩
    · rcases ih with h | ⟨h, h2⟩ | ⟨h, h2⟩
      · exact Or.inl (h.step hn')
      · exact Or.inr (Or.inl ⟨h, h2.step hn'⟩)
      · exact Or.inr (Or.inr ⟨h, h2.step hn'⟩)
    · rcases ih with h | ⟨h, _⟩ | ⟨h, _⟩
      · exact Or.inr (Or.inl ⟨h, Cn.refl _⟩)
      · exact Or.inr (Or.inl ⟨h, Cn.refl _⟩)
      · exact Or.inl h
    · rcases ih with h | ⟨h, _⟩ | ⟨h, _⟩
      · exact Or.inr (Or.inr ⟨h, Cn.refl _⟩)
      · exact Or.inl h
      · exact Or.inr (Or.inr ⟨h, Cn.refl _⟩)
theorem lead_eq {E' : List (Int × Int)} {j : Nat} {v w : Nat} (hv : isL E' j v) (hw : isL E' j w) (h : Cn E' j v w) : v = w := by
  rcases Nat.lt_trichotomy v w with hl | hl | hl
  · exact absurd h (hw v (by omega) (by omega))
  · exact hl
  · exact absurd h.symm (hv w (by omega) (by omega))
theorem not_lead {E' : List (Int × Int)} {j : Nat} {v : Nat} (h : ¬ isL E' j v) : ∃ u : Int, 0 ≤ u ∧ u < v ∧ Cn E' j u v := by
  unfold isL at h
  apply Classical.byContradiction
  intro hn
  exact h fun u h0 h1 hc => hn ⟨u, h0, h1, hc⟩
/-- At most one component more. -/
theorem comp_del (he : e < E.length) (N : Nat) : cntL (E.eraseIdx e) N ≤ cntL E N + 1 := by
  unfold cntL
  refine cntP_one fun v w _ _ pv qv pw qw => ?_
  obtain ⟨u, u0, u1, hu⟩ := not_lead qv
  obtain ⟨u', u0', u1', hu'⟩ := not_lead qw
  rcases Cn.del he hu with h | ⟨h1, h2⟩ | ⟨h1, h2⟩
  · exact absurd h (pv u u0 u1)
  · rcases Cn.del he hu' with h | ⟨h3, h4⟩ | ⟨h3, h4⟩
    · exact absurd h (pw u' u0' u1')
    · exact lead_eq pv pw (h2.symm.trans h4)
    · exfalso
      have k1 : ¬ u < w := fun hl => pw u u0 hl (h1.trans h4)
      have k2 : ¬ u' < v := fun hl => pv u' u0' hl (h3.trans h2)
      omega
  · rcases Cn.del he hu' with h | ⟨h3, h4⟩ | ⟨h3, h4⟩
    · exact absurd h (pw u' u0' u1')
    · exfalso
      have k1 : ¬ u < w := fun hl => pw u u0 hl (h1.trans h4)
      have k2 : ¬ u' < v := fun hl => pv u' u0' hl (h3.trans h2)
      omega
    · exact lead_eq pv pw (h2.symm.trans h4)
/-- No component more, where the ends are still connected. -/
theorem comp_keep (he : e < E.length) (N : Nat) (h : Cn (E.eraseIdx e) (E.eraseIdx e).length (pr E e).2 (pr E e).1) : cntL (E.eraseIdx e) N ≤ cntL E N := by
  unfold cntL
  refine cntP_mono fun v _ pv u u0 u1 hu => ?_
  rcases Cn.del he hu with h0 | ⟨h1, h2⟩ | ⟨h1, h2⟩
  · exact pv u u0 u1 h0
  · exact pv u u0 u1 ((h1.trans h.symm).trans h2)
  · exact pv u u0 u1 ((h1.trans h).trans h2)
end

section
variable {N : Int} {E : List (Int × Int)} {A : List (List Int)} {e : Nat}
theorem oth_a (e : Int) : oth (2 * e) = 2 * e + 1 := by unfold oth; rw [if_pos (by omega)]
theorem oth_b (e : Int) : oth (2 * e + 1) = 2 * e := by unfold oth; rw [if_neg (by omega)]; omega
theorem tail_a (E : List (Int × Int)) (e : Nat) : tailE E (2 * e) = (pr E e).1 := by
  unfold tailE
  rw [if_pos (by omega), show (2 * (e : Int) / 2).toNat = e by omega]
theorem tail_b (E : List (Int × Int)) (e : Nat) : tailE E (2 * e + 1) = (pr E e).2 := by
  unfold tailE
  rw [if_neg (by omega), show ((2 * (e : Int) + 1) / 2).toNat = e by omega]
theorem nx_a (A : List (List Int)) (e : Int) : nxF A (2 * e) = sucF A (2 * e + 1) := by unfold nxF; rw [oth_a]
theorem nx_b (A : List (List Int)) (e : Int) : nxF A (2 * e + 1) = sucF A (2 * e) := by unfold nxF; rw [oth_b]

/-- Along a face that does not use the edge e, its vertices stay connected. -/
theorem face_cn (hV : vRot N E A) (he : e < E.length) : ∀ {t : List Int} {x z : Int}, (∀ y ∈ x :: t, 0 ≤ y ∧ y < 2 * E.length ∧ y / 2 ≠ e) → Ch (nxF A) x t z → Cn (E.eraseIdx e) (E.eraseIdx e).length (tailE E x) (tailE E z) := by
  have hlen : (E.eraseIdx e).length = E.length - 1 := by rw [List.length_eraseIdx, if_pos he]
  have one : ∀ y : Int, 0 ≤ y → y < 2 * E.length → y / 2 ≠ e → Cn (E.eraseIdx e) (E.eraseIdx e).length (tailE E y) (tailE E (nxF A y)) := fun y h0 h1 h2 => by
    have hs := sh_in he h0 h1 h2
    have hn := nbr_dart (E := E.eraseIdx e) hs.1 (by rw [hlen]; exact hs.2)
    have ho := oth_in (d := y) (M := E.length) h0 h1
    rw [oth_sh, tailE_sh he h0 h1 h2, tailE_sh he ho.1 ho.2 (by rw [oth_half]; exact h2)] at hn
    have : tailE E (nxF A y) = tailE E (oth y) := suc_tail hV ho.1 ho.2
    rw [this]
    exact (Cn.refl _).step hn
  intro t
  induction t with
  | nil =>
    intro x z hx hc
    have h := hx x (by simp)
    have hc' : nxF A x = z := hc
    rw [← hc']
    exact one x h.1 h.2.1 h.2.2
  | cons y t ih =>
    intro x z hx hc
    obtain ⟨h1, h2⟩ := hc
    have h := hx x (by simp)
    have := one x h.1 h.2.1 h.2.2
    rw [h1] at this
    exact this.trans (ih (fun y hy => hx y (List.mem_cons_of_mem _ hy)) h2)

noncomputable def isoN (A : List (List Int)) : Nat := cntP (fun u => (rowOf A u).length = 0) A.length
/-- The vertices without an edge. -/
theorem iso_del (hV : vRot N E A) (he : e < E.length) : isoN (A.map (delRow e)) = isoN A + ((if nxF A (2 * e) = 2 * e + 1 then 1 else 0) + (if nxF A (2 * e + 1) = 2 * e then 1 else 0)) := by
  obtain ⟨va, hva, ha, ta⟩ := row_of hV (d := 2 * (e : Int)) (by omega) (by omega)
  obtain ⟨vb, hvb, hb, tb⟩ := row_of hV (d := 2 * (e : Int) + 1) (by omega) (by omega)
  have hne : va ≠ vb := fun h => ends_ne hV he (by rw [ta, tb, h])
  unfold isoN
  rw [List.length_map]
  have key : ∀ u, u < A.length → ((rowOf (A.map (delRow e)) u).length = 0 ↔ (((rowOf A u).length = 0 ∨ (u = vb ∧ nxF A (2 * e) = 2 * e + 1)) ∨ (u = va ∧ nxF A (2 * e + 1) = 2 * e))) := by
    intro u hu
    rw [rowOf_map (delRow e) rfl, List.length_eq_zero_iff, List.length_eq_zero_iff]
    -- a row that holds the dart c alone
    have alone : ∀ c c' : Int, ∀ vc : Nat, c / 2 = e → c ∈ rowOf A vc → vc < A.length → c' ∉ rowOf A vc → (∀ d : Int, d / 2 = e → d = c ∨ d = c') → (delRow e (rowOf A vc) = [] ↔ sucF A c = c) := by
      intro c c' vc hce hc hvc hc' hcc
      have hcy := row_cyc hV hvc (List.ne_nil_of_mem hc)
      have hnd := row_nodup hV hvc
      constructor
      · intro h0
        have hs := hcy.img hc
        have : sucF A c / 2 = e := Classical.byContradiction fun hn => by
          have := mem_delRow.2 ⟨_, hs, hn, rfl⟩
          rw [h0] at this
          cases this
        rcases hcc _ this with h | h
        · exact h
        · rw [h] at hs; exact absurd hs hc'
      · intro hs
        obtain ⟨p, q, hl, hcyc⟩ := hcy.start hc
        have hpq : q ++ p = [] := by
          cases hqp : q ++ p with
          | nil => rfl
          | cons y t =>
            rw [hqp] at hcyc
            obtain ⟨e1, _⟩ : sucF A c = y ∧ Ch (sucF A) y t c := hcyc
            rw [hl, List.nodup_append, List.nodup_cons] at hnd
            have hy : y ∈ q ++ p := by rw [hqp]; simp
            rw [← e1, hs] at hy
            rcases List.mem_append.1 hy with h | h
            · exact absurd h hnd.2.1.1
            · exact absurd rfl (hnd.2.2 c h c (by simp))
        rw [List.append_eq_nil_iff] at hpq
        rw [hl, hpq.1, hpq.2, List.nil_append, delRow_cons, delOne_out hce]
        rfl
    have hab : ∀ d : Int, d / 2 = e → d = 2 * e ∨ d = 2 * e + 1 := fun d hd => by omega
    have hab' : ∀ d : Int, d / 2 = e → d = 2 * e + 1 ∨ d = 2 * e := fun d hd => by omega
    have hba : (2 * (e : Int) + 1) ∉ rowOf A va := fun h => by
      have := (mem_row hV hva h).2.2
      rw [tb] at this
      exact hne (by omega)
    have hab2 : (2 * (e : Int)) ∉ rowOf A vb := fun h => by
      have := (mem_row hV hvb h).2.2
      rw [ta] at this
      exact hne (by omega)
    have hA := alone (2 * e) (2 * e + 1) va (by omega) ha hva hba hab
    have hB := alone (2 * e + 1) (2 * e) vb (by omega) hb hvb hab2 hab'
    rw [nx_a, nx_b]
    by_cases hua : u = va
    · subst hua
      rw [hA]
      constructor
      · intro h; exact Or.inr ⟨rfl, h⟩
      · rintro ((h | ⟨h, _⟩) | ⟨_, h⟩)
        · rw [h] at ha; cases ha
        · exact absurd h hne
        · exact h
    · by_cases hub : u = vb
      · subst hub
        rw [hB]
        constructor
        · intro h; exact Or.inl (Or.inr ⟨rfl, h⟩)
        · rintro ((h | ⟨_, h⟩) | ⟨h, _⟩)
          · rw [h] at hb; cases hb
          · exact h
          · exact absurd h hua
      · constructor
        · intro h
          left; left
          cases hr : rowOf A u with
          | nil => rfl
          | cons x l =>
            exfalso
            have hx : x ∈ rowOf A u := by rw [hr]; simp
            have hxe : x / 2 = e := Classical.byContradiction fun hn => by
              have := mem_delRow.2 ⟨x, hx, hn, rfl⟩
              rw [h] at this
              cases this
            have ht := (mem_row hV hu hx).2.2
            rcases hab x hxe with rfl | rfl
            · rw [ta] at ht; exact hua (by omega)
            · rw [tb] at ht; exact hub (by omega)
        · rintro ((h | ⟨h, _⟩) | ⟨h, _⟩)
          · rw [h]; rfl
          · exact absurd h hub
          · exact absurd h hua
  have hpa : ¬ (rowOf A va).length = 0 := fun h => by rw [List.length_eq_zero_iff] at h; rw [h] at ha; cases ha
  have hpb : ¬ (rowOf A vb).length = 0 := fun h => by rw [List.length_eq_zero_iff] at h; rw [h] at hb; cases hb
  rw [cntP_congr (p := fun u => (rowOf (A.map (delRow e)) u).length = 0) key,
    cntP_add (p := fun u => (rowOf A u).length = 0 ∨ (u = vb ∧ nxF A (2 * e) = 2 * e + 1)) (x := va) (P := nxF A (2 * e + 1) = 2 * e) (fun h => h.elim hpa (fun h => hne h.1)) hva,
    cntP_add (p := fun u => (rowOf A u).length = 0) (x := vb) (P := nxF A (2 * e) = 2 * e + 1) hpb hvb, Nat.add_assoc]

/-- The new faces out of cycles that step over the darts of e. -/
theorem faces_new (hV : vRot N E A) (he : e < E.length) {L' : List (List Int)} (h : Dec (fun y => (0 ≤ y ∧ y < 2 * (E.length : Int)) ∧ y ≠ 2 * e ∧ y ≠ 2 * e + 1) (fun y => skF A (2 * e) (2 * e + 1) (nxF A y)) L') :
    (facesF (A.map (delRow e)) (2 * (E.eraseIdx e).length)).length = L'.length := by
  have hlen : (E.eraseIdx e).length = E.length - 1 := by rw [List.length_eraseIdx, if_pos he]
  have hV' := del_valid hV he
  have h1 := fac_dec hV'
  have h2 := h.map (D' := fun x => 0 ≤ x ∧ x < 2 * ((E.eraseIdx e).length : Int)) (h := nxF (A.map (delRow e))) (r := sh e) (fun y hy => by
      have ho := oth_in (d := y) (M := E.length) hy.1.1 hy.1.2
      show sucF _ (oth (sh e y)) = _
      rw [oth_sh]
      exact suc_del hV he ho.1 ho.2 (by rw [oth_half]; have := hy.2; omega))
    (fun x y hx hy hxy => sh_inj (by have := hx.2; omega) (by have := hy.2; omega) hxy)
    (fun x => by
      constructor
      · intro hx
        rw [hlen] at hx
        refine ⟨if x < 2 * e then x else x + 2, ?_, ?_⟩
        · split <;> omega
        · unfold sh
          by_cases hx2 : x < 2 * e
          · rw [if_pos hx2, if_pos hx2]
          · rw [if_neg hx2, if_neg (by omega)]; omega
      · rintro ⟨y, hy, rfl⟩
        have := sh_in he hy.1.1 hy.1.2 (by have := hy.2; omega)
        rw [hlen]
        exact this)
  rw [h1.len h2, List.length_map]

theorem del_step (hV : vRot N E A) (he : e < E.length) :
    ((facesF (A.map (delRow e)) (2 * (E.eraseIdx e).length)).length + 1 = (facesF A (2 * E.length)).length ∧ isoN (A.map (delRow e)) = isoN A ∧ cntL (E.eraseIdx e) A.length ≤ cntL E A.length) ∨
    ((facesF (A.map (delRow e)) (2 * (E.eraseIdx e).length)).length + isoN (A.map (delRow e)) = (facesF A (2 * E.length)).length + isoN A + 1 ∧ cntL (E.eraseIdx e) A.length ≤ cntL E A.length + 1) := by
  have hD := fac_dec hV
  have hsk : ∀ y : Int, y ≠ 2 * (e : Int) → y ≠ 2 * (e : Int) + 1 → skF A (2 * e) (2 * e + 1) y = y := fun y h1 h2 => by unfold skF; rw [if_neg h1, if_neg h2]
  have hka : skF A (2 * e) (2 * e + 1) (2 * e) = nxF A (2 * e + 1) := by unfold skF; rw [if_pos rfl, nx_b]
  have hkb : skF A (2 * e) (2 * e + 1) (2 * e + 1) = nxF A (2 * e) := by unfold skF; rw [if_neg (by omega), if_pos rfl, nx_a]
  have hiso := iso_del hV he
  obtain ⟨t, M, h1, hM⟩ := hD.at (x := 2 * (e : Int)) ⟨by omega, by omega⟩
  by_cases hb : (2 * (e : Int) + 1) ∈ t
  · right
    obtain ⟨L', h2, h3⟩ := h1.del_one (g := fun y => skF A (2 * e) (2 * e + 1) (nxF A y)) hb hsk hka hkb (fun _ _ _ _ => rfl)
    have h4 := faces_new hV he h2
    refine ⟨?_, comp_del he _⟩
    rw [h4, hiso]
    omega
  · left
    have hbt : (2 * (e : Int) + 1) ∉ (2 * (e : Int)) :: t := fun h => by
      rcases List.mem_cons.1 h with h | h
      · omega
      · exact hb h
    obtain ⟨u, M2, h2, hM2⟩ := h1.tail.at (x := 2 * (e : Int) + 1) ⟨⟨by omega, by omega⟩, hbt⟩
    have hn := h1.nd
    rw [List.flatten_cons, List.nodup_append] at hn
    have h3 : Dec (fun x => 0 ≤ x ∧ x < 2 * (E.length : Int)) (nxF A) (((2 * (e : Int)) :: t) :: ((2 * (e : Int) + 1) :: u) :: M2) := by
      refine (h2.cons (l := (2 * (e : Int)) :: t) (h1.cyc _ (by simp)) hn.1 (fun x hx h => h.2 hx)).congr fun x => ⟨fun h => ?_, fun h => ?_⟩
      · rcases h with h | h
        · exact h.1
        · exact (h1.mem x).1 (by rw [List.flatten_cons]; exact List.mem_append_left _ h)
      · by_cases hx : x ∈ (2 * (e : Int)) :: t
        · exact Or.inr hx
        · exact Or.inl ⟨h, hx⟩
    have hfa : nxF A (2 * e) ≠ 2 * e := fun h => by
      rw [nx_a] at h
      have := suc_tail hV (d := 2 * (e : Int) + 1) (by omega) (by omega)
      rw [h] at this
      exact ends_ne hV he this
    have hfb : nxF A (2 * e + 1) ≠ 2 * e + 1 := fun h => by
      rw [nx_b] at h
      have := suc_tail hV (d := 2 * (e : Int)) (by omega) (by omega)
      rw [h] at this
      exact ends_ne hV he this.symm
    obtain ⟨L', h4, h5⟩ := h3.del_two (g := fun y => skF A (2 * e) (2 * e + 1) (nxF A y)) hsk hka hkb hfa hfb (fun _ _ _ _ => rfl)
    have h6 := faces_new hV he h4
    have hcy : Cyc (nxF A) ((2 * (e : Int)) :: t) := h1.cyc _ (by simp)
    have hna : nxF A (2 * e) ≠ 2 * e + 1 := fun h => hbt (h ▸ hcy.img (by simp))
    have hnb : nxF A (2 * e + 1) ≠ 2 * e := fun h => by
      obtain ⟨q, hq, hqe⟩ := hcy.pre (z := 2 * (e : Int)) (by simp)
      have hqD := (h1.mem q).1 (by rw [List.flatten_cons]; exact List.mem_append_left _ hq)
      have := fac_inj hV q (2 * e + 1) hqD.1 (by push_cast; exact hqD.2) (by omega) (by push_cast; omega) (hqe.trans h.symm)
      exact hbt (this ▸ hq)
    refine ⟨by omega, by rw [hiso, if_neg hna, if_neg hnb]; omega, comp_keep he _ ?_⟩
    cases t with
    | nil => exact absurd hcy hfa
    | cons x t =>
      obtain ⟨c1, c2⟩ : nxF A (2 * e) = x ∧ Ch (nxF A) x t (2 * e) := hcy
      have hin : ∀ y ∈ x :: t, 0 ≤ y ∧ y < 2 * (E.length : Int) ∧ y / 2 ≠ e := fun y hy => by
        have hyD := (h1.mem y).1 (by rw [List.flatten_cons]; exact List.mem_append_left _ (List.mem_cons_of_mem _ hy))
        have hy1 : y ≠ 2 * e + 1 := fun h => hb (h ▸ hy)
        have hy2 : y ≠ 2 * e := fun h => by
          rw [List.nodup_cons] at hn
          exact hn.1.1 (h ▸ hy)
        omega
      have := face_cn hV he hin c2
      rw [tail_a] at this
      have ht : tailE E x = (pr E e).2 := by
        rw [← c1, nx_a, suc_tail hV (by omega) (by omega), tail_b]
      rw [ht] at this
      exact this
/-- What is halved in the genus. -/
noncomputable def genX (N : Int) (E : List (Int × Int)) (A : List (List Int)) : Int := N - E.length + (((facesF A (2 * E.length)).length : Int) + isoN A)
theorem genus_eq (hV : vRot N E A) : genusF N E A = (cntL E A.length : Int) - (genX N E A).tdiv 2 := by
  unfold genusF genX isoN facesO
  rw [if_pos (vRotB_iff.2 hV), if_pos (vRotB_iff.2 hV)]
theorem even_half {x : Int} (h : x % 2 = 0) : (x + 2).tdiv 2 = x.tdiv 2 + 1 := by
  obtain ⟨k, rfl⟩ : ∃ k, x = 2 * k := ⟨x / 2, by omega⟩
  rw [show 2 * k + 2 = 2 * (k + 1) by omega, Int.mul_tdiv_cancel_left _ (by decide), Int.mul_tdiv_cancel_left _ (by decide)]
theorem gen_step (hV : vRot N E A) (he : e < E.length) (hx : genX N (E.eraseIdx e) (A.map (delRow e)) % 2 = 0) :
    genX N E A % 2 = 0 ∧ genusF N (E.eraseIdx e) (A.map (delRow e)) ≤ genusF N E A := by
  have hlen : (E.eraseIdx e).length = E.length - 1 := by rw [List.length_eraseIdx, if_pos he]
  have hV' := del_valid hV he
  rw [genus_eq hV, genus_eq hV', List.length_map]
  have e1 : genX N E A = N - E.length + (((facesF A (2 * E.length)).length : Int) + isoN A) := rfl
  have e2 : genX N (E.eraseIdx e) (A.map (delRow e)) = N - (E.eraseIdx e).length + (((facesF (A.map (delRow e)) (2 * (E.eraseIdx e).length)).length : Int) + isoN (A.map (delRow e))) := rfl
  rcases del_step hV he with ⟨h1, h2, h3⟩ | ⟨h1, h2⟩
  · have : genX N (E.eraseIdx e) (A.map (delRow e)) = genX N E A := by rw [e1, e2]; omega
    rw [this] at hx ⊢
    exact ⟨hx, by omega⟩
  · have h : genX N (E.eraseIdx e) (A.map (delRow e)) = genX N E A + 2 := by rw [e1, e2]; omega
    have h4 : genX N E A % 2 = 0 := by rw [h] at hx; omega
    rw [h, even_half h4]
    exact ⟨h4, by omega⟩
theorem gen_main : ∀ (n : Nat) {N : Int} {E : List (Int × Int)} {A : List (List Int)}, E.length = n → vRot N E A → genX N E A % 2 = 0 ∧ 0 ≤ genusF N E A
  | 0, N, E, A, hl, hV => by
    have hE : E = [] := List.length_eq_zero_iff.1 hl
    subst hE
    have hrow : ∀ u, u < A.length → rowOf A u = [] := fun u hu => by
      cases hr : rowOf A u with
      | nil => rfl
      | cons x l =>
        have := mem_row hV hu (d := x) (by rw [hr]; simp)
        simp at this
        omega
    have hI : isoN A = A.length := cntP_all fun u hu => by rw [hrow u hu]; rfl
    have hC : cntL [] A.length = A.length := cntP_all fun v _ u h0 h1 hc => by
      have := Cn_zero hc
      omega
    have hF : facesF A (2 * ([] : List (Int × Int)).length) = [] := rfl
    have hN := hV.al
    have hX : genX N [] A = 2 * N := by unfold genX; rw [hF, hI]; simp; omega
    rw [genus_eq hV, hX, hC, Int.mul_tdiv_cancel_left _ (by decide)]
    omega
  | n + 1, N, E, A, hl, hV => by
    have he : 0 < E.length := by omega
    have ih := gen_main n (N := N) (E := E.eraseIdx 0) (A := A.map (delRow (0 : Nat))) (by rw [List.length_eraseIdx, if_pos he]; omega) (del_valid hV he)
    have h := gen_step hV he ih.1
    exact ⟨h.1, Int.le_trans ih.2 h.2⟩
end
end Go.Proofs.YtiihgpgpbgafiaaDoor

/- Faces of the program, with the blocks of what it returns. -/
namespace Go.Proofs.YtiihgpgpbgafiaaDoor
open Go.RowKit
attribute [local go_sem ↓] Go.wp_at_zero Go.wp_at_succ

/-- A matrix whose memory lies at lo or behind. -/
def MatF (w : World) (lo : Nat) (p : Option Addr) (m : List (List Int)) : Prop :=
  ∃ b o, ∃ rp : Nat → Option Addr, ∃ rc : Nat → Nat, (0 < m.length → p = some ⟨b, o, none⟩ ∧ b < w.heap.size ∧ lo ≤ b) ∧
    ∀ u, u < m.length → w.cell? ⟨b, o + u, none⟩ = some (.slice (rp u) (rowOf m u).length (rc u)) ∧ Ints w (rp u) (rowOf m u) ∧ ∀ a, rp u = some a → lo ≤ a.block
theorem MatF.nil (w : World) (lo : Nat) (p : Option Addr) : MatF w lo p [] := ⟨0, 0, fun _ => none, fun _ => 0, fun h => by simp at h, fun u hu => by simp at hu⟩
theorem MatF.mono {w : World} {lo lo' : Nat} {p : Option Addr} {m : List (List Int)} (h : MatF w lo p m) (hl : lo' ≤ lo) : MatF w lo' p m := by
  obtain ⟨b, o, rp, rc, h1, h2⟩ := h
  exact ⟨b, o, rp, rc, fun h0 => ⟨(h1 h0).1, (h1 h0).2.1, Nat.le_trans hl (h1 h0).2.2⟩, fun u hu => ⟨(h2 u hu).1, (h2 u hu).2.1, fun a ha => Nat.le_trans hl ((h2 u hu).2.2 a ha)⟩⟩
end Go.Proofs.YtiihgpgpbgafiaaDoor

/- Rows of ints, naturals and Bools in memory of the call's own. -/
namespace Go.Proofs.YtiihgpgpbgafiaaDoor
open Go.RowKit

def gn (xs : List Nat) (i : Nat) : Nat := xs.getD i 0
theorem gn_eq (xs : List Nat) {i : Nat} (h : i < xs.length) : gn xs i = xs[i] := by simp [gn, h]
theorem ge_set (xs : List Int) {i : Nat} (h : i < xs.length) (x : Int) (j : Nat) : ge (xs.set i x) j = if j = i then x else ge xs j := by
  unfold ge
  rw [List.getD_eq_getElem?_getD, List.getD_eq_getElem?_getD, List.getElem?_set]
  by_cases e : i = j
  · subst e
    simp [h]
  · rw [if_neg e, if_neg (Ne.symm e)]
theorem gn_set (xs : List Nat) {i : Nat} (h : i < xs.length) (x : Nat) (j : Nat) : gn (xs.set i x) j = if j = i then x else gn xs j := by
  unfold gn
  rw [List.getD_eq_getElem?_getD, List.getD_eq_getElem?_getD, List.getElem?_set]
  by_cases e : i = j
  · subst e
    simp [h]
  · rw [if_neg e, if_neg (Ne.symm e)]


def natVs (xs : List Nat) : List Value := xs.map fun x : Nat => Value.int .i64 (x : Int)
theorem natVs_get (xs : List Nat) {i : Nat} (h : i < xs.length) : (natVs xs)[i]? = some (.int .i64 (gn xs i : Int)) := by
  unfold natVs
  rw [List.getElem?_map, List.getElem?_eq_getElem h, gn_eq xs h]
  rfl
abbrev rI (g n : Nat) (xs : List Int) : Row := ⟨.slice (some ⟨g, 0, none⟩) n n, 3, 1, n, intVs xs⟩
abbrev rN (g n : Nat) (xs : List Nat) : Row := ⟨.slice (some ⟨g, 0, none⟩) n n, 3, 1, n, natVs xs⟩
theorem own_blk {w : World} {B : Nat} {rs : List Row} (h : Owns w B rs) {j g n c : Nat} {e : TypeId} {vs : List Value} (hk : rs[j]? = some ⟨.slice (some ⟨g, 0, none⟩) n c, e, 1, n, vs⟩) :
    vs.length = n ∧ B ≤ g ∧ g < w.heap.size ∧ (∀ i, w.frozen? ⟨g, i, none⟩ = false) ∧ ∀ i u, vs[i]? = some u → w.cell? ⟨g, i, none⟩ = some u := by
  obtain ⟨h1, h2⟩ := h.get hk
  rcases h2 with ⟨h2, _⟩ | ⟨g', cap, hv, h3, h4, _, _, h5, h6⟩
  · cases h2
  · have hg : g' = g := by
      simp only [Value.slice.injEq, Option.some.injEq, Addr.mk.injEq] at hv
      exact hv.1.1.symm
    subst hg
    exact ⟨by rw [h1]; simp, h3, h4, h5, h6⟩
theorem own_lt {w : World} {B : Nat} {rs : List Row} (h : Owns w B rs) {j g n c : Nat} {e : TypeId} {vs : List Value} (hk : rs[j]? = some ⟨.slice (some ⟨g, 0, none⟩) n c, e, 1, n, vs⟩) : g < w.heap.size := (own_blk h hk).2.2.1
theorem own_fr {w : World} {B : Nat} {rs : List Row} (h : Owns w B rs) {j g n c : Nat} {e : TypeId} {vs : List Value} (hk : rs[j]? = some ⟨.slice (some ⟨g, 0, none⟩) n c, e, 1, n, vs⟩) (i : Nat) : w.frozen? ⟨g, i, none⟩ = false := (own_blk h hk).2.2.2.1 i
theorem own_atI {w : World} {B : Nat} {rs : List Row} (h : Owns w B rs) {j g n : Nat} {xs : List Int} (hk : rs[j]? = some (rI g n xs)) {i : Nat} (hi : i < n) : w.cell? ⟨g, i, none⟩ = some (.int .i64 (ge xs i)) := by
  obtain ⟨h1, _, _, _, h2⟩ := own_blk h hk
  rw [intVs_length] at h1
  exact h2 i _ (intVs_get xs (by omega))
theorem own_atN {w : World} {B : Nat} {rs : List Row} (h : Owns w B rs) {j g n : Nat} {xs : List Nat} (hk : rs[j]? = some (rN g n xs)) {i : Nat} (hi : i < n) : w.cell? ⟨g, i, none⟩ = some (.int .i64 (gn xs i : Int)) := by
  obtain ⟨h1, _, _, _, h2⟩ := own_blk h hk
  have : (natVs xs).length = xs.length := by simp [natVs]
  exact h2 i _ (natVs_get xs (by omega))
theorem own_setI {w : World} {B : Nat} {rs : List Row} (h : Owns w B rs) {j g n : Nat} {xs : List Int} (hk : rs[j]? = some (rI g n xs)) (i : Nat) (x : Int) : Owns (w.setCell ⟨g, i, none⟩ (.int .i64 x)) B (rs.set j (rI g n (xs.set i x))) := by
  have := h.set hk i (.int .i64 x)
  have e : (intVs xs).set i (.int .i64 x) = intVs (xs.set i x) := by unfold intVs; rw [List.map_set]
  rwa [e] at this
theorem own_setN {w : World} {B : Nat} {rs : List Row} (h : Owns w B rs) {j g n : Nat} {xs : List Nat} (hk : rs[j]? = some (rN g n xs)) (i : Nat) (x : Nat) : Owns (w.setCell ⟨g, i, none⟩ (.int .i64 (x : Int))) B (rs.set j (rN g n (xs.set i x))) := by
  have := h.set hk i (.int .i64 (x : Int))
  have e : (natVs xs).set i (.int .i64 (x : Int)) = natVs (xs.set i x) := by unfold natVs; rw [List.map_set]
  rwa [e] at this
theorem ones_rep (z : Value) (n : Nat) : madeCells #[z] n = Array.replicate n z := by
  rw [← Array.toArray_toList (xs := madeCells #[z] n), toList_madeCells_one]
  simp
theorem mk_ints (n : Nat) (hn : n ≤ 100000) (W : World) : (Instr.makeSlice 28 (.int .i64 n) (.int .i64 n)).run Tryd.prog W = .ok (.slice (some ⟨W.heap.size, 0, none⟩) n n) (W.alloc (.cells (Array.replicate n (.int .i64 0)) 3)) := by
  obtain ⟨i0, hi, hz0, hz1, hz2⟩ := info_parts Tryd.infoInt
  have h := run_make (P := Tryd.prog) W 28 3 i0 (.int .i64 0) Tryd.underlying28 hi hz0 .i64 .i64 (n : Int) (n : Int) (by omega) (by omega) (by rw [hz2]; omega) (by omega)
  rw [hz1, show (Value.int .i64 0).cells = #[.int .i64 0] from rfl, Int.toNat_natCast, Nat.mul_one, ones_rep] at h
  exact h
/-- A new row of zeros. -/
theorem own_newI {w : World} {B : Nat} {rs : List Row} (h : Owns w B rs) (hB : B ≤ w.heap.size) (n g : Nat) (hn : n ≤ 100000) (hg : g = w.heap.size) :
    Owns (w.alloc (.cells (Array.replicate n (.int .i64 0)) 3)) B (rI g n (List.replicate n 0) :: rs) := by
  have h1 := h.made hB (Array.replicate n (.int .i64 0)) 3 1 n g (by simp) (by simp only [maxLen]; omega) hg
  rw [Array.toList_replicate] at h1
  have e : intVs (List.replicate n 0) = List.replicate n (.int .i64 0) := by simp [intVs]
  unfold rI
  rw [e]
  exact h1
theorem nat_zeros (n : Nat) : natVs (List.replicate n 0) = intVs (List.replicate n 0) := by simp [natVs, intVs]
theorem rN_zeros (g n m : Nat) : rI g n (List.replicate m 0) = rN g n (List.replicate m 0) := by
  unfold rI rN
  rw [nat_zeros]
/-- The first rows: made in either order. -/
theorem own_two {w : World} {B : Nat} (hB : B ≤ w.heap.size) (a c : Nat) (ha : a ≤ 100000) (hc : c ≤ 100000) :
    Owns ((w.alloc (.cells (Array.replicate a (.int .i64 0)) 3)).alloc (.cells (Array.replicate c (.int .i64 0)) 3)) B [rI w.heap.size a (List.replicate a 0), rI (w.heap.size + 1) c (List.replicate c 0)] ∧
    Owns ((w.alloc (.cells (Array.replicate c (.int .i64 0)) 3)).alloc (.cells (Array.replicate a (.int .i64 0)) 3)) B [rI (w.heap.size + 1) a (List.replicate a 0), rI w.heap.size c (List.replicate c 0)] := by
  refine ⟨?_, own_newI (own_newI (Owns.nil w B) hB c _ hc rfl) (by simp; omega) a _ ha (by simp)⟩
  exact (own_newI (own_newI (Owns.nil w B) hB a _ ha rfl) (by simp; omega) c _ hc (by simp)).perm (List.Perm.swap _ _ _)
theorem own_join {w w' : World} {B : Nat} {r : Row} {rs : List Row} (h : Owns w B rs) (hg : Grew w w') (hr : Owns w' w.heap.size [r]) (hB : B ≤ w.heap.size) : Owns w' B (r :: rs) := by
  refine (h.grew hg).cons (ownsRow_base hr.head hB) (fun k x hk g h1 h2 => ?_)
  have e1 := (hr.head.lt g h1).1
  have e2 := ((h.1 k x hk).lt g h2).2
  omega

theorem Ints.newsO {w : World} {q : Option Addr} {xs : List Int} (h : Ints w q xs) : ∀ b, q = some b → ∀ j u, (intVs xs)[j]? = some u → w.cell? (b.add j) = some u := by
  cases q with
  | none => intro b h; cases h
  | some ad => exact h.news
abbrev rC (g n c : Nat) (xs : List Int) : Row := ⟨.slice (some ⟨g, 0, none⟩) n c, 3, 1, n, intVs xs⟩
theorem own_atC {w : World} {B : Nat} {rs : List Row} (h : Owns w B rs) {j g n c : Nat} {xs : List Int} (hk : rs[j]? = some (rC g n c xs)) {i : Nat} (hi : i < xs.length) : w.cell? ⟨g, i, none⟩ = some (.int .i64 (ge xs i)) :=
  (own_blk h hk).2.2.2.2 i _ (intVs_get xs hi)
theorem own_setC {w : World} {B : Nat} {rs : List Row} (h : Owns w B rs) {j g n c : Nat} {xs : List Int} (hk : rs[j]? = some (rC g n c xs)) (i : Nat) (x : Int) : Owns (w.setCell ⟨g, i, none⟩ (.int .i64 x)) B (rs.set j (rC g n c (xs.set i x))) := by
  have := h.set hk i (.int .i64 x)
  have e : (intVs xs).set i (.int .i64 x) = intVs (xs.set i x) := by unfold intVs; rw [List.map_set]
  rwa [e] at this
/-- A row that came in as a value: nil, or in a block of its own. -/
abbrev lR (v : Value) (n : Nat) (xs : List Int) : Row := ⟨v, 3, 1, n, intVs xs⟩
theorem ints_mem {xs : List Int} {n : Nat} {lo hi : Int} (hl : xs.length = n) (h : ∀ v, v < n → lo ≤ ge xs v ∧ ge xs v ≤ hi) (h1 : -9223372036854775808 ≤ lo) (h2 : hi ≤ 9223372036854775807) : ∀ x ∈ xs, -9223372036854775808 ≤ x ∧ x ≤ 9223372036854775807 := by
  intro x hx
  obtain ⟨i, hi', rfl⟩ := List.mem_iff_getElem.1 hx
  have := h i (by omega)
  rw [ge_eq xs hi'] at this
  omega
theorem own_intsG {w : World} {B : Nat} {rs : List Row} {k n c : Nat} {pl : Option Addr} {xs : List Int} (h : Owns w B rs) (hk : rs[k]? = some (lR (.slice pl n c) n xs)) (hl : xs.length = n)
    (hm : n ≤ 100000) (hw : ∀ x ∈ xs, -9223372036854775808 ≤ x ∧ x ≤ 9223372036854775807) : Ints w pl xs := by
  rcases (h.get hk).2 with ⟨g1, g2⟩ | ⟨g, cap, g1, g2, g3, g4, g5, g6, g7⟩
  · have : xs = [] := List.eq_nil_of_length_eq_zero (by omega)
    subst this
    exact Ints.nil _ _
  · simp only [Value.slice.injEq, true_and] at g1
    obtain ⟨rfl, _⟩ := g1
    refine ⟨by omega, hw, g, 0, fun _ => ⟨rfl, g3⟩, fun i hi => ?_⟩
    rw [Nat.zero_add]
    exact g7 i _ (intVs_get xs hi)
theorem own_some {w : World} {B : Nat} {rs : List Row} {k n c : Nat} {pl : Option Addr} {xs : List Int} (h : Owns w B rs) (hk : rs[k]? = some (lR (.slice pl n c) n xs)) (h0 : 0 < n) : ∃ g, pl = some ⟨g, 0, none⟩ ∧ B ≤ g ∧ g < w.heap.size := by
  obtain ⟨g, c', h1, h2, h3, _⟩ := h.some hk h0
  simp only [Value.slice.injEq] at h1
  exact ⟨g, h1.1, h2, h3⟩

theorem own_form {w : World} {B : Nat} {rs : List Row} {k sz n : Nat} {v : Value} {e : TypeId} {vs : List Value} (h : Owns w B rs) (hk : rs[k]? = some ⟨v, e, sz, n, vs⟩) : ∃ p c, v = .slice p n c := by
  rcases (h.get hk).2 with ⟨g1, g2⟩ | ⟨g, cap, g1, _⟩
  · exact ⟨none, 0, by rw [g1, g2]⟩
  · exact ⟨_, _, g1⟩
theorem own_nil {w : World} {B : Nat} {rs : List Row} {k n c sz : Nat} {e : TypeId} {vs : List Value} {pl : Option Addr} (h : Owns w B rs) (hk : rs[k]? = some ⟨.slice pl n c, e, sz, n, vs⟩) : pl = none → n = 0 ∧ c = 0 := by
  intro hp
  subst hp
  rcases (h.get hk).2 with ⟨g1, g2⟩ | ⟨g, cap, g1, _⟩
  · simp only [Value.slice.injEq, true_and] at g1
    exact ⟨g2, g1.2⟩
  · simp only [Value.slice.injEq] at g1
    cases g1.1
theorem cell_lt {w : World} {b i : Nat} {v : Value} (h : w.cell? ⟨b, i, none⟩ = some v) : b < w.heap.size := by
  rcases Nat.lt_or_ge b w.heap.size with h' | h'
  · exact h'
  · exfalso
    simp only [World.cell?] at h
    rw [Array.getElem?_eq_none h'] at h
    cases h
end Go.Proofs.YtiihgpgpbgafiaaDoor

/- Slices of integers, and slices of them, as they are read. Contracts of the library's searches. -/
set_option linter.unusedSimpArgs false
set_option linter.unusedVariables false
namespace Go.Proofs.YtiihgpgpbgafiaaDoor.Fl
open Go.RowKit

/-- The number at place i of a list (a name that simp does not open). -/
def ge (xs : List Int) (i : Nat) : Int := xs.getD i 0
theorem ge_cons_succ (x : Int) (l : List Int) (i : Nat) : ge (x :: l) (i + 1) = ge l i := by simp [ge]
theorem ge_cons_zero (x : Int) (l : List Int) : ge (x :: l) 0 = x := by simp [ge]
theorem ge_eq (xs : List Int) {i : Nat} (h : i < xs.length) : ge xs i = xs[i] := by simp [ge, h]
theorem ge_mem {xs : List Int} {i : Nat} (h : i < xs.length) : ge xs i ∈ xs := by rw [ge_eq xs h]; exact List.getElem_mem h
theorem ret_bool {a b : Bool} (h : a = b) : Ending.returned (.bool a) = .returned (.bool b) := by rw [h]
theorem ret_int {k : IntKind} {a b : Int} (h : a = b) : Ending.returned (.int k a) = .returned (.int k b) := by rw [h]

/-- A slice that starts at p reads as xs. -/
def Ints (w : World) (p : Option Addr) (xs : List Int) : Prop :=
  xs.length ≤ 9223372036854775807 ∧ (∀ x ∈ xs, -9223372036854775808 ≤ x ∧ x ≤ 9223372036854775807) ∧
  ∃ b o, (0 < xs.length → p = some ⟨b, o, none⟩ ∧ b < w.heap.size) ∧ ∀ i, i < xs.length → w.cell? ⟨b, o + i, none⟩ = some (.int .i64 (ge xs i))

theorem Ints.grew {w w' : World} {p : Option Addr} {xs : List Int} (h : Ints w p xs) (hg : Grew w w') : Ints w' p xs := by
  obtain ⟨h1, h2, b, o, h3, h4⟩ := h
  refine ⟨h1, h2, b, o, fun hp => ⟨(h3 hp).1, Nat.lt_of_lt_of_le (h3 hp).2 hg.below.size⟩, fun i hi => ?_⟩
  rw [hg.below.cell (p := ⟨b, o + i, none⟩) (h3 (by omega)).2]
  exact h4 i hi

theorem Ints.nil (w : World) (p : Option Addr) : Ints w p [] := ⟨by simp, by simp, 0, 0, by simp, by simp⟩

/-- The first index of v, -1 if there is none. -/
def idx (v : Int) : List Int → Int
  | [] => -1
  | x :: l => if v = x then 0 else if idx v l = -1 then -1 else idx v l + 1
theorem idx_take_none {v : Int} {xs : List Int} : (∀ i, i < xs.length → v ≠ ge xs i) → idx v xs = -1 := by
  induction xs with
  | nil => intro _; rfl
  | cons x l ih =>
    intro h
    have h0 := h 0 (by simp)
    rw [ge_cons_zero] at h0
    rw [idx, if_neg h0, ih (fun i hi => by have := h (i + 1) (by simpa using hi); rwa [ge_cons_succ] at this)]
    rfl
theorem idx_first {v : Int} {xs : List Int} : ∀ (k : Nat), k < xs.length → (∀ i, i < k → v ≠ ge xs i) → v = ge xs k → idx v xs = k := by
  induction xs with
  | nil => intro k hk; simp at hk
  | cons x l ih =>
    intro k hk h he
    cases k with
    | zero => rw [ge_cons_zero] at he; rw [idx, if_pos he]; rfl
    | succ k =>
      have h0 := h 0 (by omega)
      rw [ge_cons_zero] at h0
      have := ih k (by simpa using hk) (fun i hi => by have := h (i + 1) (by omega); rwa [ge_cons_succ] at this) (by rwa [ge_cons_succ] at he)
      rw [idx, if_neg h0, this, if_neg (by omega)]
      omega
theorem idx_mem {v : Int} {xs : List Int} : 0 ≤ idx v xs ↔ v ∈ xs := by
  induction xs with
  | nil => simp [idx]
  | cons x l ih =>
    rw [idx]
    by_cases h : v = x
    · simp [h]
    · rw [if_neg h]
      have hlo : -1 ≤ idx v l := by
        clear ih
        induction l with
        | nil => simp [idx]
        | cons y l ih => rw [idx]; repeat' split
                         all_goals omega
      simp only [List.mem_cons, h, false_or, ← ih]
      split <;> omega

/-- Row u of a matrix (a name that simp does not open). -/
def rowOf (m : List (List Int)) (u : Nat) : List Int := m.getD u []
theorem rowOf_eq (m : List (List Int)) {u : Nat} (h : u < m.length) : rowOf m u = m[u] := by simp [rowOf, h]

/-- A slice of slices that starts at p reads as m. -/
def Mat (w : World) (p : Option Addr) (m : List (List Int)) : Prop :=
  m.length ≤ 9223372036854775807 ∧ ∃ b o, ∃ rp : Nat → Option Addr, ∃ rc : Nat → Nat, (0 < m.length → p = some ⟨b, o, none⟩ ∧ b < w.heap.size) ∧
    ∀ u, u < m.length → w.cell? ⟨b, o + u, none⟩ = some (.slice (rp u) (rowOf m u).length (rc u)) ∧ Ints w (rp u) (rowOf m u)

theorem Mat.grew {w w' : World} {p : Option Addr} {m : List (List Int)} (h : Mat w p m) (hg : Grew w w') : Mat w' p m := by
  obtain ⟨h1, b, o, rp, rc, h3, h4⟩ := h
  refine ⟨h1, b, o, rp, rc, fun hp => ⟨(h3 hp).1, Nat.lt_of_lt_of_le (h3 hp).2 hg.below.size⟩, fun u hu => ?_⟩
  rw [hg.below.cell (p := ⟨b, o + u, none⟩) (h3 (by omega)).2]
  exact ⟨(h4 u hu).1, (h4 u hu).2.grew hg⟩

/-- What a walk wants of a row. -/
theorem Ints.open {w : World} {p : Option Addr} {xs : List Int} (h : Ints w p xs) : ∃ b o, (0 < xs.length → p = some ⟨b, o, none⟩ ∧ b < w.heap.size) ∧ ∀ i, i < xs.length → w.cell? ⟨b, o + i, none⟩ = some (.int .i64 (ge xs i)) := h.2.2

def gn (xs : List Nat) (i : Nat) : Nat := xs.getD i 0
theorem gn_eq (xs : List Nat) {i : Nat} (h : i < xs.length) : gn xs i = xs[i] := by simp [gn, h]
theorem ge_set (xs : List Int) {i : Nat} (h : i < xs.length) (x : Int) (j : Nat) : ge (xs.set i x) j = if j = i then x else ge xs j := by
  unfold ge
  rw [List.getD_eq_getElem?_getD, List.getD_eq_getElem?_getD, List.getElem?_set]
  by_cases e : i = j
  · subst e
    simp [h]
  · rw [if_neg e, if_neg (Ne.symm e)]
theorem gn_set (xs : List Nat) {i : Nat} (h : i < xs.length) (x : Nat) (j : Nat) : gn (xs.set i x) j = if j = i then x else gn xs j := by
  unfold gn
  rw [List.getD_eq_getElem?_getD, List.getD_eq_getElem?_getD, List.getElem?_set]
  by_cases e : i = j
  · subst e
    simp [h]
  · rw [if_neg e, if_neg (Ne.symm e)]


/-- Numbers that are all different and lie below n are at most n. -/
theorem nodup_len : ∀ (n : Nat) {l : List Nat}, l.Nodup → (∀ u ∈ l, u < n) → l.length ≤ n
  | 0, l, _, hl => by
    cases l with
    | nil => simp
    | cons a l => exact absurd (hl a (by simp)) (by omega)
  | n + 1, l, h, hl => by
    have h1 : (l.erase n).Nodup := h.erase n
    have h2 := nodup_len n h1 (fun u hu => by
      have hne : u ≠ n := fun e => by subst e; exact (List.Nodup.mem_erase_iff h).1 hu |>.1 rfl
      have := hl u (List.mem_of_mem_erase hu)
      omega)
    have := List.length_erase (a := n) (l := l)
    split at this <;> omega

/-! ### Sums -/
def sumN (f : Nat → Int) : Nat → Int
  | 0 => 0
  | n + 1 => sumN f n + f n
theorem sumN_congr {f g : Nat → Int} : ∀ {n : Nat}, (∀ i, i < n → f i = g i) → sumN f n = sumN g n
  | 0, _ => rfl
  | n + 1, h => by rw [sumN, sumN, sumN_congr (fun i hi => h i (by omega)), h n (by omega)]
theorem sumN_le {f g : Nat → Int} : ∀ {n : Nat}, (∀ i, i < n → f i ≤ g i) → sumN f n ≤ sumN g n
  | 0, _ => Int.le_refl _
  | n + 1, h => by
    have := sumN_le (n := n) (fun i hi => h i (by omega))
    have := h n (by omega)
    rw [sumN, sumN]
    omega
theorem sumN_add (f g : Nat → Int) : ∀ n, sumN (fun i => f i + g i) n = sumN f n + sumN g n
  | 0 => rfl
  | n + 1 => by rw [sumN, sumN, sumN, sumN_add f g n]; omega
theorem sumN_zero {f : Nat → Int} : ∀ {n : Nat}, (∀ i, i < n → f i = 0) → sumN f n = 0
  | 0, _ => rfl
  | n + 1, h => by rw [sumN, sumN_zero (fun i hi => h i (by omega)), h n (by omega)]; rfl
theorem sumN_swap (F : Nat → Nat → Int) (k : Nat) : ∀ n, sumN (fun r => sumN (fun c => F r c) k) n = sumN (fun c => sumN (fun r => F r c) n) k
  | 0 => (sumN_zero fun _ _ => rfl).symm
  | n + 1 => by
    rw [sumN, sumN_swap F k n, ← sumN_add]
    exact sumN_congr fun i _ => by rw [sumN]
/-- One term only. -/
theorem sumN_one {f : Nat → Int} : ∀ {n : Nat} {i : Nat}, i < n → (∀ j, j < n → j ≠ i → f j = 0) → sumN f n = f i
  | 0, i, h, _ => by omega
  | n + 1, i, h, h2 => by
    rw [sumN]
    by_cases e : i = n
    · subst e
      rw [sumN_zero (fun j hj => h2 j (by omega) (by omega))]
      omega
    · rw [sumN_one (i := i) (by omega) (fun j hj hne => h2 j (by omega) hne), h2 n (by omega) (by omega)]
      omega
theorem sumN_nonneg {f : Nat → Int} {n : Nat} (h : ∀ i, i < n → 0 ≤ f i) : 0 ≤ sumN f n := by
  have := sumN_le (f := fun _ => 0) (g := f) h
  rw [sumN_zero (fun _ _ => rfl)] at this
  exact this
theorem sumN_ge {f : Nat → Int} {n i : Nat} (hi : i < n) (h : ∀ j, j < n → 0 ≤ f j) : f i ≤ sumN f n := by
  have h1 := sumN_le (f := fun j => if j = i then f i else 0) (g := f) (n := n) (fun j hj => by
    split
    · rename_i e; subst e; exact Int.le_refl _
    · exact h j hj)
  rw [sumN_one hi (fun j _ hne => if_neg hne), if_pos rfl] at h1
  exact h1


end Go.Proofs.YtiihgpgpbgafiaaDoor.Fl
