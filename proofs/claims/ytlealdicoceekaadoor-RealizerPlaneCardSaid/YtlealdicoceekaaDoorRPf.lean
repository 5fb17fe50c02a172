/- Joined by a program from the texts FacF ReaE CanG RefA RefB RefC TlF SchB SchC SchD SchE ReaF. -/
import Derived.Test.YtlealdicoceekaaDoorRPe
/- Faces of the program, with the blocks of what it returns. -/
set_option linter.unusedSimpArgs false
set_option linter.unusedVariables false
namespace Go.Proofs.YtlealdicoceekaaDoor
open Go.RowKit
attribute [local go_sem ↓] Go.wp_at_zero Go.wp_at_succ

/-- A matrix whose memory lies at lo or behind. -/
def MatF (w : World) (lo : Nat) (p : Option Addr) (m : List (List Int)) : Prop :=
  ∃ b o, ∃ rp : Nat → Option Addr, ∃ rc : Nat → Nat, (0 < m.length → p = some ⟨b, o, none⟩ ∧ b < w.heap.size ∧ lo ≤ b) ∧
    ∀ u, u < m.length → w.cell? ⟨b, o + u, none⟩ = some (.slice (rp u) (rowOf m u).length (rc u)) ∧ Ints w (rp u) (rowOf m u) ∧ ∀ a, rp u = some a → lo ≤ a.block
theorem MatF.nil (w : World) (lo : Nat) (p : Option Addr) : MatF w lo p [] := ⟨0, 0, fun _ => none, fun _ => 0, fun h => by simp at h, fun u hu => by simp at hu⟩
theorem MatF.mono {w : World} {lo lo' : Nat} {p : Option Addr} {m : List (List Int)} (h : MatF w lo p m) (hl : lo' ≤ lo) : MatF w lo' p m := by
  obtain ⟨b, o, rp, rc, h1, h2⟩ := h
  exact ⟨b, o, rp, rc, fun h0 => ⟨(h1 h0).1, (h1 h0).2.1, Nat.le_trans hl (h1 h0).2.2⟩, fun u hu => ⟨(h2 u hu).1, (h2 u hu).2.1, fun a ha => Nat.le_trans hl ((h2 u hu).2.2 a ha)⟩⟩
theorem mat_of_ownsF {w : World} {B : Nat} {v : Value} {vals : List Value} {m : List (List Int)} {rs : List Row} (hl : vals.length = m.length) (hb : ∀ l ∈ m, ∀ x ∈ l, -9223372036854775808 ≤ x ∧ x ≤ 9223372036854775807)
    (hO : Owns w B (⟨v, 26, 1, m.length, vals⟩ :: (matRows vals m ++ rs))) : ∃ q cap, v = .slice q m.length cap ∧ Mat w q m ∧ MatF w B q m := by
  obtain ⟨q, cap, e, hM⟩ := mat_of_owns hl hb hO
  refine ⟨q, cap, e, hM, ?_⟩
  rcases (hO.get (k := 0) rfl).2 with ⟨_, h0⟩ | ⟨g, cap', e', hB, hg, hle, hmx, _, hc⟩
  · have : m = [] := List.length_eq_zero_iff.1 h0
    subst this
    exact MatF.nil _ _ _
  · have hq : q = some ⟨g, 0, none⟩ := by
      rw [e'] at e
      simp only [Value.slice.injEq] at e
      exact e.1.symm
    have key : ∀ u, ∃ pc : Option Addr × Nat, u < m.length → w.cell? ⟨g, 0 + u, none⟩ = some (.slice pc.1 (rowOf m u).length pc.2) ∧ Ints w pc.1 (rowOf m u) ∧ ∀ a, pc.1 = some a → B ≤ a.block := by
      intro u
      by_cases hu : u < m.length
      · have hr : (⟨v, 26, 1, m.length, vals⟩ :: (matRows vals m ++ rs) : List Row)[u + 1]? = some ⟨vals[u]'(by omega), 3, 1, (rowOf m u).length, intVs (rowOf m u)⟩ := by
          rw [List.getElem?_cons_succ, List.getElem?_append_left (by unfold matRows; rw [List.length_zipWith]; omega), matRows_get hl hu]
          rfl
        obtain ⟨p', c', e2, h2, _⟩ := hO.ints hr rfl (fun x hx => hb (rowOf m u) (by rw [rowOf_eq m hu]; exact List.getElem_mem hu) x hx)
        refine ⟨(p', c'), fun _ => ⟨?_, h2, fun a ha => ?_⟩⟩
        · have := hc u (vals[u]'(by omega)) (List.getElem?_eq_getElem (by omega))
          rw [Nat.zero_add, this, e2]
        · rcases (hO.get hr).2 with ⟨e3, _⟩ | ⟨g3, c3, e3, hB3, _⟩
          · rw [e3] at e2
            simp only [Value.slice.injEq] at e2
            rw [← e2.1] at ha; cases ha
          · rw [e3] at e2
            simp only [Value.slice.injEq] at e2
            rw [← e2.1] at ha; cases ha
            exact hB3
      · exact ⟨(none, 0), fun h => absurd h hu⟩
    exact ⟨g, 0, fun u => (Classical.choose (key u)).1, fun u => (Classical.choose (key u)).2, fun _ => ⟨hq, hg, hB⟩, fun u hu => Classical.choose_spec (key u) hu⟩
/-- What Faces returns, with its blocks. -/
def FacesPostF (fs : List (List Int)) (w : World) (e : Ending) (w' : World) : Prop := Grew w w' ∧ ∃ q cap, e = .returned (.slice q fs.length cap) ∧ Mat w' q fs ∧ MatF w' w.heap.size q fs
set_option maxRecDepth 8000 in
set_option maxHeartbeats 16000000 in
theorem faces_pF (N : Int) (pE pA : Option Addr) (nE nA cE cA : Nat) (E : List (Int × Int)) (A : List (List Int)) (w : World) (hR : RotAt w pE pA E A) (hL : Lim w) (hnE : E.length = nE) (hnA : A.length = nA) :
    Calls Tryd.prog 54 #[.agg #[.int .i64 N, .slice pE nE cE, .slice pA nA cA]] w (FacesPostF (facesO N E A) w) := by
  subst hnE hnA
  have he1 := hR.e1
  have HR := Lib.hid hR
  have HL := Lib.hid hL
  cases hv : vRotB N E A
  case false =>
    have Hf : Hid (facesO N E A = []) := Lib.hid (by unfold facesO; simp [hv])
    have Hv := Lib.hid hv
    clear hv hR hL
    go_enter Tryd.func54, Tryd.ntmps54
    go_wp2_with (go_at_call 76; apply Calls.mono; (with_reducible exact valid_pe Hv.out (HR.out.grew (by (repeat (first | exact gR _ | refine gO ?_ _ | refine gA ?_ _ | refine gD ?_ | refine gN ?_ _)))) (HL.out.grew (by (repeat (first | exact gR _ | refine gO ?_ _ | refine gA ?_ _ | refine gD ?_ | refine gN ?_ _)))) rfl rfl); rintro e w' ⟨rfl, x, rfl⟩)
    go_ret
    rw [Hf.out]
    exact ⟨by (repeat (first | exact gR _ | refine gO ?_ _ | refine gA ?_ _ | refine gD ?_ | refine gN ?_ _)), none, 0, rfl, Mat.nil _ _, MatF.nil _ _ _⟩
  case true =>
  have Hv := Lib.hid hv
  have hV := vRotB_iff.1 hv
  have HV := Lib.hid hV
  have Hf : Hid (facesO N E A = facesF A (2 * E.length)) := Lib.hid (by unfold facesO; rw [if_pos hv])
  have HFl := Lib.hid (fun W1 (hg1 : Grew w W1) => follow_p N pE pA E.length A.length cE cA E A W1 (hR.grew hg1) hV rfl rfl)
  obtain ⟨M, hM⟩ : ∃ M, 2 * E.length = M := ⟨_, rfl⟩
  have hM2 : M ≤ 200 := by omega
  have Hnx := Lib.hid (fun x (h0 : 0 ≤ x) (h1 : x < (M : Int)) => nxF_in hV (e := x) h0 (by omega))
  rw [hM] at HFl Hf
  have Hnx2 : Hid (∀ x : Int, 0 ≤ x → x < M → 0 ≤ nxF A x ∧ nxF A x < M) := Lib.hid (fun x h0 h1 => by have := Hnx.out x h0 h1; omega)
  clear hv hV hR hL hM Hnx
  go_enter Tryd.func54, Tryd.ntmps54
  go_wp2_with (first
    | (go_at_call 76; apply Calls.mono; (with_reducible exact valid_pe Hv.out (HR.out.grew (by (repeat (first | exact gR _ | refine gO ?_ _ | refine gA ?_ _ | refine gD ?_ | refine gN ?_ _)))) (HL.out.grew (by (repeat (first | exact gR _ | refine gO ?_ _ | refine gA ?_ _ | refine gD ?_ | refine gN ?_ _)))) rfl rfl); rintro e w' ⟨rfl, x, rfl⟩)
    | (go_at_call 77; apply Calls.mono; (with_reducible exact HFl.out _ (by (repeat (first | exact gR _ | refine gO ?_ _ | refine gA ?_ _ | refine gD ?_ | refine gN ?_ _)))); rintro e w3 ⟨hg3, pT, cT, rfl, hT⟩; have HT := Lib.hid hT; have Hg3 : Hid (Grew w w3) := Lib.hid (Grew.trans (by (repeat (first | exact gR _ | refine gO ?_ _ | refine gA ?_ _ | refine gD ?_ | refine gN ?_ _))) hg3); clear hT hg3)
    | (refine wp_make_owns rfl _ _ 75 rfl 4 1 (.bool false) Tryd.underlying75 Tryd.infoBool rfl .i64 .i64 _ _ M rfl rfl rfl rfl (by omega) (by simp only [maxLen]; omega) w3.heap.size [] (Owns.nil _ _) (Nat.le_refl _) ?_; intro w4 hO hg4 hs4; have HO4 := Lib.hid hO; have Hg4 := Lib.hid hg4; clear hO hg4))
  obtain ⟨B, hB⟩ : ∃ B, w3.heap.size = B := ⟨_, rfl⟩
  have HB := Lib.hid hB
  rw [hB] at HO4 hs4 ⊢
  clear hB
  go_loopw [5, 19] (fun vO i wq => ∃ d : Nat, d ≤ M ∧ i = .int .i64 d ∧ Grew w3 wq ∧ B < wq.heap.size ∧ ∃ vals : List Value, vals.length = (facesN (nxF A) M d).2.length ∧
    Owns wq B (faRows B M (facesN (nxF A) M d).1 vO vals (facesN (nxF A) M d).2 (matRows vals (facesN (nxF A) M d).2))) (fun _ i _ => M - (intOf i).toNat)
  case atStart =>
    refine ⟨0, Nat.zero_le _, rfl, Hg4.out, hs4, [], rfl, ?_⟩
    have h := HO4.out
    rw [← bls_nil] at h
    exact (h.none 26 1).perm (List.Perm.swap _ _ _)
  case round =>
    obtain ⟨d, hd, rfl, hgq, hsq, vals, hvl, hOq⟩ := hrel
    have hfl := facesN_len (M := M) (f := nxF A) d
    have hmet := facesN_met Hnx2.out d hd
    obtain ⟨pO, cO, rfl, _, _, _, _, _⟩ := hOq.form (k := 1) rfl
    by_cases hld : d < M
    · obtain ⟨S, hS⟩ : ∃ S, (facesN (nxF A) M d).1 = S := ⟨_, rfl⟩
      obtain ⟨fs, hfs⟩ : ∃ fs, (facesN (nxF A) M d).2 = fs := ⟨_, rfl⟩
      rw [hS, hfs] at hOq
      rw [hfs] at hvl hfl
      rw [hS] at hmet
      have Hgq := Lib.hid hgq
      have HOq := Lib.hid hOq
      have Hvl := Lib.hid hvl
      have Hmet := Lib.hid hmet
      have HS := Lib.hid hS
      have Hfs := Lib.hid hfs
      clear hgq hOq hvl hmet hS hfs
      rw [Hfs.out]
      go_wp2
      go_loopw [7, 8] (fun v7 v8 wk => ∃ (n : Nat) (x : Int) (fc : List Int), v8 = .int .i64 x ∧ (0 ≤ x ∧ x < M) ∧ n + fc.length = M ∧ faceN (nxF A) M S d = fc ++ faceN (nxF A) n (S ++ fc) x ∧ Met M (S ++ fc) ∧ Grew w3 wk ∧ wr.heap.size ≤ wk.heap.size ∧ lenOf v7 = fc.length ∧
        Owns wk B (faRows B M (S ++ fc) (.slice pO fs.length cO) vals fs (⟨v7, 3, 1, fc.length, intVs fc⟩ :: matRows vals fs))) (fun v7 _ _ => M - lenOf v7)
      case atStart =>
        refine ⟨M, d, [], rfl, ⟨by omega, by omega⟩, by simp, by simp, by rw [List.append_nil]; exact Hmet.out, Hgq.out, Nat.le_refl _, rfl, ?_⟩
        rw [List.append_nil]
        exact (HOq.out.none 3 1).perm ((List.Perm.swap _ _ _).trans (List.Perm.cons _ (List.Perm.swap _ _ _)))
      case round =>
        obtain ⟨n, x, fc, rfl, ⟨hx0, hx1⟩, hn, hface, hmt, hgk, hsk, hlen, hOk⟩ := hrel
        obtain ⟨p7, c7, rfl, _, _, _, _, _⟩ := hOk.form (k := 2) rfl
        obtain ⟨m, rfl⟩ := Int.eq_ofNat_of_zero_le hx0
        have hm : m < M := by omega
        obtain ⟨gM, cM, eM, _, kM, _, _, nM, mM⟩ := hOk.some (k := 0) rfl (by omega)
        cases eM
        have x1 := mM m _ (bls_get _ hm)
        have x2 := nM m
        have Hface := Lib.hid hface
        have Hmt := Lib.hid hmt
        have Hgk := Lib.hid hgk
        have HOk := Lib.hid hOk
        have hfcl : fc.length ≤ 200 := by omega
        clear hface hmt hgk hOk nM mM hlen
        by_cases hin : (m : Int) ∈ S ++ fc
        · rw [decide_eq_true hin] at x1
          have Hfc : Hid (faceN (nxF A) M S d = fc) := Lib.hid (by
            rw [Hface.out]
            cases n with
            | zero => simp [faceN]
            | succ n => rw [faceN, if_pos hin, List.append_nil])
          clear hin
          by_cases h0 : fc = []
          · subst h0
            have Hst : Hid (facesN (nxF A) M (d + 1) = (S, fs)) := Lib.hid (by simp only [facesN]; rw [HS.out, Hfs.out, Hfc.out, if_pos rfl, List.append_nil])
            go_wp2
            go_roundw
            case rel =>
              refine ⟨d + 1, by omega, by go_num, Hgk.out, by omega, vals, by rw [Hst.out]; exact Hvl.out, ?_⟩
              rw [Hst.out]
              have h := HOk.out
              rw [List.append_nil] at h
              have h2 := h.perm ((List.Perm.cons _ (List.Perm.swap _ _ _)).trans (List.Perm.swap _ _ _))
              exact h2.tail
            case measure => simp [intOf]; omega
          · have h1 : 0 < fc.length := List.length_pos_iff.2 h0
            have Hst : Hid (facesN (nxF A) M (d + 1) = (S ++ fc, fs ++ [fc])) := Lib.hid (by simp only [facesN]; rw [HS.out, Hfs.out, Hfc.out, if_neg h0])
            clear h0
            go_wp2_with (at_builtin; refine wp_append_owns rfl _ _ 23 rfl 26 1 24 (.slice none 0 0) Tryd.underlying23 Tryd.infoInts rfl (by decide) B _ 1 _ _ _ (HOk.out.grew (by (repeat (first | exact gR _ | refine gO ?_ _ | refine gA ?_ _ | refine gD ?_ | refine gN ?_ _)))) rfl rfl _ 1 1 rfl [.slice p7 fc.length c7] rfl (fun h => by cases h) (one_news _ (by (simp [go_sem, ↓IntWalk.iteOmega]))) (by simp [Value.oneCell']) (by simp only [maxLen]; omega) (by omega) (by first | rfl | omega | (simp <;> omega)) ?_; intro v1 w1 hO1 hg1 hb1 _; have Hg1 := Lib.hid (Grew.grownBy (w0 := w3) (Hgk.out.trans (by (repeat (first | exact gR _ | refine gO ?_ _ | refine gA ?_ _ | refine gD ?_ | refine gN ?_ _)))) hg1 (fun g h => by have := hb1 g h; have := HB.out; omega)); have HO1 := Lib.hid hO1; have hs1 := hg1.size; simp at hs1; clear hO1 hg1 hb1)
            go_roundw
            case rel =>
              refine ⟨d + 1, by omega, by go_num, Hg1.out, by omega, vals ++ [.slice p7 fc.length c7], by rw [Hst.out, List.length_append, List.length_append, Hvl.out]; rfl, ?_⟩
              rw [Hst.out]
              have h := HO1.out
              simp only [faRows, List.set_cons_succ, List.set_cons_zero] at h
              unfold faRows
              rw [List.length_append, matRows_snoc Hvl.out]
              refine h.perm ?_
              exact List.Perm.cons _ (List.Perm.cons _ (List.perm_append_singleton _ _).symm)
            case measure => simp [intOf]; omega
        · have hmt2 := Hmt.out.snoc (x := (m : Int)) (by omega) (by omega) hin
          have hlen2 := hmt2.len
          simp only [List.length_append, List.length_cons, List.length_nil] at hlen2
          obtain ⟨n', rfl⟩ : ∃ n', n = n' + 1 := ⟨n - 1, by omega⟩
          have Hface2 : Hid (faceN (nxF A) M S d = (fc ++ [(m : Int)]) ++ faceN (nxF A) n' (S ++ (fc ++ [(m : Int)])) (nxF A m)) := Lib.hid (by
            rw [Hface.out, faceN, if_neg hin, List.append_assoc, List.append_assoc]
            rfl)
          rw [decide_eq_false hin] at x1
          have Hmt2 := Lib.hid hmt2
          have hxn := Hnx2.out m (by omega) (by omega)
          obtain ⟨bT, oT, rfl, lT, cT'⟩ := HT.out.cells (by rw [nxL, tab_length]; omega)
          have CT : Hid (∀ W1 : World, Grew w3 W1 → W1.cell? ⟨bT, oT + m, none⟩ = some (.int .i64 (nxF A m))) := Lib.hid (fun W1 hg => by
            have := cT' W1 hg m (by rw [nxL, tab_length]; exact hm)
            rw [nxL, ge_tab _ hm] at this
            exact this)
          have HOs := Lib.hid (HOk.out.set (k := 0) rfl m (.bool true))
          have Hgs := Lib.hid (Hgk.out.setCell (show w3.heap.size ≤ (⟨B, m, none⟩ : Addr).block by have := HB.out; dsimp only; omega) (.bool true))
          clear hmt2 hin cT'
          go_wp2_with (at_builtin; refine wp_append_owns rfl _ _ 26 rfl 3 1 8 (.int .i64 0) Tryd.underlying26 Tryd.infoInt rfl (by decide) B _ 2 _ _ _ (HOs.out.grew (by (repeat (first | exact gR _ | refine gO ?_ _ | refine gA ?_ _ | refine gD ?_ | refine gN ?_ _)))) rfl rfl _ 1 1 rfl [.int .i64 (m : Int)] rfl (fun h => by cases h) (one_news _ (by (simp [go_sem, ↓IntWalk.iteOmega]))) (by simp [Value.oneCell']) (by simp only [maxLen]; omega) (by omega) (by first | rfl | omega | (simp <;> omega)) ?_; intro v1 w1 hO1 hg1 hb1 _; obtain ⟨p1, c1, rfl, _, _, _, _, _⟩ := hO1.form (k := 2) rfl; have Hg1 := Lib.hid (Grew.grownBy (w0 := w3) (Hgs.out.trans (by (repeat (first | exact gR _ | refine gO ?_ _ | refine gA ?_ _ | refine gD ?_ | refine gN ?_ _)))) hg1 (fun g h => by have := hb1 g h; have := HB.out; omega)); have e1 := CT.out w1 Hg1.out; have HO1 := Lib.hid hO1; have hs1 := hg1.size; simp at hs1; clear hO1 hg1 hb1)
          go_roundw
          case rel =>
            refine ⟨n', nxF A m, fc ++ [(m : Int)], rfl, hxn, by rw [List.length_append]; simp; omega, Hface2.out, by rw [← List.append_assoc]; exact Hmt2.out, Hg1.out, by omega, by rw [List.length_append]; rfl, ?_⟩
            have h := HO1.out
            rw [bls_set _ hm, List.append_assoc] at h
            simp only [faRows, List.set_cons_succ, List.set_cons_zero] at h
            unfold faRows
            rw [List.length_append, intVs_app']
            exact h
          case measure => simp [lenOf]; omega
    · have hde : d = M := by omega
      subst hde
      have Hb : Hid (∀ l ∈ (facesN (nxF A) d d).2, ∀ x ∈ l, -9223372036854775808 ≤ x ∧ x ≤ 9223372036854775807) := Lib.hid (fun l hl x hx => by
        have := hmet.2 x (facesN_in d l hl x hx)
        omega)
      have HOq := Lib.hid hOq
      have Hvl := Lib.hid hvl
      have Hgq := Lib.hid hgq
      clear hOq hvl hmet hgq
      go_wp2
      go_ret
      rw [Hf.out]
      obtain ⟨q, cap, e, h, hF⟩ := mat_of_ownsF (rs := [⟨.slice (some ⟨B, 0, none⟩) d d, 4, 1, d, bls d (facesN (nxF A) d d).1⟩]) Hvl.out Hb.out (HOq.out.perm (List.perm_append_singleton _ (_ :: _)).symm)
      cases e
      exact ⟨Hg3.out.trans Hgq.out, _, _, rfl, h, hF.mono (by have := HB.out; have := Hg3.out.below.size; omega)⟩

end Go.Proofs.YtlealdicoceekaaDoor

/- open of the program: the plan. -/
namespace Go.Proofs.YtlealdicoceekaaDoor
open Go.RowKit
attribute [local go_sem ↓] Go.wp_at_zero Go.wp_at_succ

section
variable {P : Program} {Q : Exit → Act → World → Prop} {md : Region.Mode} {S : World → Prop} {s : Nat}
/-- An operation is taken first; S holds behind each operation. -/
theorem wpAnyT_takeV {l : List Oper} {i : Nat} {oi : Oper} {v : Value} {fuel : Nat} {listed : Array Bool} {a : Act} {w : World} (hi : l[i]? = some oi)
    (hn : Region.noSelect l.toArray = true) (hf : Region.free md l.toArray listed i = true) (hr : (Region.ready md l.toArray listed).contains i = true) (hs : l.length ≤ s)
    (hQ : ∀ c a w, Q (.panic c) (a.put oi.dst v) w → Q (.panic c) a w) (hy : YieldsIf P l.toArray S oi v a) (hS : S w)
    (h : wpAnyT P md l.toArray Q S s fuel (listed.setIfInBounds i true) (a.put oi.dst v) w) : wpAnyT P md l.toArray Q S s (fuel + 1) listed a w :=
  wpAnyT_first (by simpa using hi) (Region.noSelect_spec hn) hQ (fun listed h => by
    obtain ⟨_, os, hos, _⟩ := mem_ready.1 h
    rw [Array.getElem?_eq_none (by simpa using hs)] at hos
    cases hos) fuel listed a w (Region.free_spec (by simpa using hi) hf) (by simpa using hr) hy hS h
end

/-- A plan in the making. -/
structure PlB (w : World) (b gf : Nat) (N : Int) (pE pA : Option Addr) (nE nA cE cA : Nat) (sd rt X : List Int) : Prop where
  c0 : w.cell? ⟨b, 0, none⟩ = some (.int .i64 N)
  c1 : w.cell? ⟨b, 1, none⟩ = some (.slice pE nE cE)
  c2 : w.cell? ⟨b, 2, none⟩ = some (.slice pA nA cA)
  c3 : w.cell? ⟨b, 3, none⟩ = some (.slice (some ⟨gf, 0, none⟩) (2 * nE) (2 * nE))
  s : ∀ i, i < 3 → w.cell? ⟨b, 4 + i, none⟩ = some (.int .i64 (ge sd i)) ∧ w.frozen? ⟨b, 4 + i, none⟩ = false
  r : ∀ i, i < 3 → w.cell? ⟨b, 7 + i, none⟩ = some (.int .i64 (ge rt i)) ∧ w.frozen? ⟨b, 7 + i, none⟩ = false
  f : ∀ i, i < 2 * nE → w.cell? ⟨gf, i, none⟩ = some (.int .i64 (ge X i)) ∧ w.frozen? ⟨gf, i, none⟩ = false
  lf : gf < w.heap.size
  ne : b ≠ gf
section
variable {w w' : World} {b gf : Nat} {N : Int} {pE pA : Option Addr} {nE nA cE cA : Nat} {sd rt X : List Int}
theorem PlB.lt (h : PlB w b gf N pE pA nE nA cE cA sd rt X) : b < w.heap.size := World.block_lt_of_cell? w _ h.c0
theorem PlB.grew (h : PlB w b gf N pE pA nE nA cE cA sd rt X) (hg : Grew w w') : PlB w' b gf N pE pA nE nA cE cA sd rt X :=
  ⟨hg.cellEq h.c0, hg.cellEq h.c1, hg.cellEq h.c2, hg.cellEq h.c3, fun i hi => ⟨hg.cellEq (h.s i hi).1, hg.frozenEq h.lt (h.s i hi).2⟩, fun i hi => ⟨hg.cellEq (h.r i hi).1, hg.frozenEq h.lt (h.r i hi).2⟩,
    fun i hi => ⟨hg.cellEq (h.f i hi).1, hg.frozenEq h.lf (h.f i hi).2⟩, Nat.lt_of_lt_of_le h.lf hg.below.size, h.ne⟩
theorem PlB.setF (h : PlB w b gf N pE pA nE nA cE cA sd rt X) {d : Nat} (hd : d < 2 * nE) (x : Int) (hX : X.length = 2 * nE) : PlB (w.setCell ⟨gf, d, none⟩ (.int .i64 x)) b gf N pE pA nE nA cE cA sd rt (X.set d x) := by
  have hne := h.ne
  refine ⟨?_, ?_, ?_, ?_, fun i hi => ?_, fun i hi => ?_, fun i hi => ?_, ?_, h.ne⟩
  · simp [go_sem, h.c0, hne]
  · simp [go_sem, h.c1, hne]
  · simp [go_sem, h.c2, hne]
  · simp [go_sem, h.c3, hne]
  · have := h.s i hi
    exact ⟨by simp [go_sem, this.1, hne], by simp [go_sem, this.2, hne]⟩
  · have := h.r i hi
    exact ⟨by simp [go_sem, this.1, hne], by simp [go_sem, this.2, hne]⟩
  · obtain ⟨h1, h2⟩ := h.f i hi
    by_cases e : i = d
    · subst e
      rw [ge_set_same X (by omega)]
      exact ⟨by simp [go_sem, h1], by simp [go_sem, h2]⟩
    · rw [ge_set_other X (Ne.symm e)]
      exact ⟨by simp [go_sem, h1, e], by simp [go_sem, h2, e]⟩
  · rw [World.size_setCell]; exact h.lf
theorem PlB.setR (h : PlB w b gf N pE pA nE nA cE cA sd rt X) {k : Nat} (hk : k < 3) (x : Int) (hX : rt.length = 3) : PlB (w.setCell ⟨b, 7 + k, none⟩ (.int .i64 x)) b gf N pE pA nE nA cE cA sd (rt.set k x) X := by
  have hne := h.ne
  refine ⟨?_, ?_, ?_, ?_, fun i hi => ?_, fun i hi => ?_, fun i hi => ?_, ?_, h.ne⟩
  · have e : ¬ (0 = 7 + k) := by omega
    simp [go_sem, h.c0, e]
  · have e : ¬ (1 = 7 + k) := by omega
    simp [go_sem, h.c1, e]
  · have e : ¬ (2 = 7 + k) := by omega
    simp [go_sem, h.c2, e]
  · have e : ¬ (3 = 7 + k) := by omega
    simp [go_sem, h.c3, e]
  · have := h.s i hi
    have e : ¬ (4 + i = 7 + k) := by omega
    exact ⟨by simp [go_sem, this.1, e], by simp [go_sem, this.2, e]⟩
  · obtain ⟨h1, h2⟩ := h.r i hi
    by_cases e : i = k
    · subst e
      rw [ge_set_same rt (by omega)]
      exact ⟨by simp [go_sem, h1], by simp [go_sem, h2]⟩
    · rw [ge_set_other rt (Ne.symm e)]
      have e' : ¬ (7 + i = 7 + k) := by omega
      exact ⟨by simp [go_sem, h1, e'], by simp [go_sem, h2, e']⟩
  · have := h.f i hi
    exact ⟨by simp [go_sem, this.1, Ne.symm hne], by simp [go_sem, this.2, Ne.symm hne]⟩
  · rw [World.size_setCell]; exact h.lf
theorem PlB.setS (h : PlB w b gf N pE pA nE nA cE cA sd rt X) {k : Nat} (hk : k < 3) (x : Int) (hX : sd.length = 3) : PlB (w.setCell ⟨b, 4 + k, none⟩ (.int .i64 x)) b gf N pE pA nE nA cE cA (sd.set k x) rt X := by
  have hne := h.ne
  refine ⟨?_, ?_, ?_, ?_, fun i hi => ?_, fun i hi => ?_, fun i hi => ?_, ?_, h.ne⟩
  · have e : ¬ (0 = 4 + k) := by omega
    simp [go_sem, h.c0, e]
  · have e : ¬ (1 = 4 + k) := by omega
    simp [go_sem, h.c1, e]
  · have e : ¬ (2 = 4 + k) := by omega
    simp [go_sem, h.c2, e]
  · have e : ¬ (3 = 4 + k) := by omega
    simp [go_sem, h.c3, e]
  · obtain ⟨h1, h2⟩ := h.s i hi
    by_cases e : i = k
    · subst e
      rw [ge_set_same sd (by omega)]
      exact ⟨by simp [go_sem, h1], by simp [go_sem, h2]⟩
    · rw [ge_set_other sd (Ne.symm e)]
      have e' : ¬ (4 + i = 4 + k) := by omega
      exact ⟨by simp [go_sem, h1, e'], by simp [go_sem, h2, e']⟩
  · have := h.r i hi
    have e : ¬ (7 + i = 4 + k) := by omega
    exact ⟨by simp [go_sem, this.1, e], by simp [go_sem, this.2, e]⟩
  · have := h.f i hi
    exact ⟨by simp [go_sem, this.1, Ne.symm hne], by simp [go_sem, this.2, Ne.symm hne]⟩
  · rw [World.size_setCell]; exact h.lf
end
theorem zeros_cells (w : World) (n : Nat) (tp : TypeId) : ∀ i, i < n → (w.alloc (.cells (Array.replicate n (.int .i64 0)) tp)).cell? ⟨w.heap.size, i, none⟩ = some (.int .i64 0) ∧ (w.alloc (.cells (Array.replicate n (.int .i64 0)) tp)).frozen? ⟨w.heap.size, i, none⟩ = false := fun i hi => by
  constructor
  · simp [go_sem, hi]
  · simp [go_sem]
theorem plb_mk {W : World} {gf : Nat} {N : Int} {pE pA : Option Addr} {nE nA cE cA : Nat} {tp : TypeId} (hf : ∀ i, i < 2 * nE → W.cell? ⟨gf, i, none⟩ = some (.int .i64 0) ∧ W.frozen? ⟨gf, i, none⟩ = false) (lf : gf < W.heap.size) :
    PlB (W.alloc (.cells #[.int .i64 N, .slice pE nE cE, .slice pA nA cA, .slice (some ⟨gf, 0, none⟩) (2 * nE) (2 * nE), .int .i64 0, .int .i64 0, .int .i64 0, .int .i64 0, .int .i64 0, .int .i64 0] tp)) W.heap.size gf N pE pA nE nA cE cA [0, 0, 0] [0, 0, 0] (List.replicate (2 * nE) 0) := by
  have hne : ¬ gf = W.heap.size := by omega
  have z3 : ∀ i, i < 3 → ge [0, 0, 0] i = 0 := fun i hi => by
    match i, hi with
    | 0, _ => rfl
    | 1, _ => rfl
    | 2, _ => rfl
  refine ⟨by simp [go_sem], by simp [go_sem], by simp [go_sem], by simp [go_sem], fun i hi => ?_, fun i hi => ?_, fun i hi => ?_, by simp; omega, Ne.symm hne⟩
  · rw [z3 i hi]
    match i, hi with
    | 0, _ => exact ⟨by simp [go_sem], by simp [go_sem]⟩
    | 1, _ => exact ⟨by simp [go_sem], by simp [go_sem]⟩
    | 2, _ => exact ⟨by simp [go_sem], by simp [go_sem]⟩
  · rw [z3 i hi]
    match i, hi with
    | 0, _ => exact ⟨by simp [go_sem], by simp [go_sem]⟩
    | 1, _ => exact ⟨by simp [go_sem], by simp [go_sem]⟩
    | 2, _ => exact ⟨by simp [go_sem], by simp [go_sem]⟩
  · have e : ge (List.replicate (2 * nE) 0) i = 0 := by unfold ge; simp [hi]
    rw [e]
    have hg : Grew W (W.alloc (.cells #[.int .i64 N, .slice pE nE cE, .slice pA nA cA, .slice (some ⟨gf, 0, none⟩) (2 * nE) (2 * nE), .int .i64 0, .int .i64 0, .int .i64 0, .int .i64 0, .int .i64 0, .int .i64 0] tp)) := (Grew.refl W).alloc _
    exact ⟨hg.cellEq (hf i hi).1, hg.frozenEq lf (hf i hi).2⟩
/-- The faces as lists. -/
structure FcsOK (M : Nat) (F : List (List Int)) : Prop where
  inn : ∀ i, i < F.length → ∀ d ∈ rowOf F i, 0 ≤ d ∧ d < (M : Int)
  dis : ∀ i j, i < F.length → j < F.length → ∀ d, d ∈ rowOf F i → d ∈ rowOf F j → i = j
  cov : ∀ d : Int, 0 ≤ d → d < M → ∃ i, i < F.length ∧ d ∈ rowOf F i
  len : F.length ≤ M
  row : ∀ i, i < F.length → (rowOf F i).length ≤ M
theorem facs_ok {N : Int} {E : List (Int × Int)} {A : List (List Int)} (hV : vRot N E A) : FcsOK (2 * E.length) (facesO N E A) := by
  have hD := fac_dec hV
  have hF : facesO N E A = facesF A (2 * E.length) := by unfold facesO; rw [if_pos (vRotB_iff.2 hV)]
  rw [hF]
  obtain ⟨F, hFe⟩ : ∃ F, facesF A (2 * E.length) = F := ⟨_, rfl⟩
  rw [hFe] at hD ⊢
  have hmem : ∀ i, i < F.length → rowOf F i ∈ F := fun i hi => by rw [rowOf_eq F hi]; exact List.getElem_mem hi
  have hinn : ∀ i, i < F.length → ∀ d ∈ rowOf F i, 0 ≤ d ∧ d < ((2 * E.length : Nat) : Int) := fun i hi d hd => by
    have := (hD.mem d).1 (List.mem_flatten.2 ⟨_, hmem i hi, hd⟩)
    omega
  have hnd := hD.nd
  unfold List.Nodup at hnd
  rw [List.pairwise_flatten] at hnd
  have hdis : ∀ i j, i < j → j < F.length → ∀ d, d ∈ rowOf F i → d ∈ rowOf F j → False := fun i j hij hj d h1 h2 => by
    have := (List.pairwise_iff_getElem.1 hnd.2) i j (by omega) hj hij
    rw [rowOf_eq F (by omega)] at h1
    rw [rowOf_eq F hj] at h2
    exact this d h1 d h2 rfl
  have hrow : ∀ i, i < F.length → (rowOf F i).length ≤ 2 * E.length := fun i hi => int_nodup_len (hnd.1 _ (hmem i hi)) (hinn i hi)
  refine ⟨hinn, fun i j hi hj d h1 h2 => ?_, fun d d0 d1 => ?_, ?_, hrow⟩
  · rcases Nat.lt_trichotomy i j with h | h | h
    · exact (hdis i j h hj d h1 h2).elim
    · exact h
    · exact (hdis j i h hi d h2 h1).elim
  · obtain ⟨l, hl, hd⟩ := List.mem_flatten.1 ((hD.mem d).2 ⟨d0, by omega⟩)
    obtain ⟨i, hi, rfl⟩ := List.getElem_of_mem hl
    exact ⟨i, hi, by rw [rowOf_eq F hi]; exact hd⟩
  · have h1 : F.length ≤ F.flatten.length := by
      have hne : ∀ l ∈ F, l ≠ [] := fun l hl => (hD.cyc l hl).ne
      clear hD hmem hinn hnd hdis hrow hFe
      induction F with
      | nil => simp
      | cons l F ih =>
        have := List.length_pos_iff.2 (hne l (by simp))
        have := ih (fun l hl => hne l (List.mem_cons_of_mem _ hl))
        rw [List.flatten_cons, List.length_append, List.length_cons]
        omega
    have h2 := int_nodup_len (M := 2 * E.length) hD.nd (fun x hx => by have := (hD.mem x).1 hx; omega)
    omega
theorem faceL_of {N : Int} {E : List (Int × Int)} {A : List (List Int)} (hV : vRot N E A) {X : List Int} (hX : X.length = 2 * E.length) (h : ∀ j, j < (facesO N E A).length → ∀ d : Nat, (d : Int) ∈ rowOf (facesO N E A) j → ge X d = j) : X = faceL N E A := by
  have hO := facs_ok hV
  unfold faceL
  obtain ⟨F, hFe⟩ : ∃ F, facesO N E A = F := ⟨_, rfl⟩
  rw [hFe] at hO h ⊢
  refine tab_of hX fun d hd => ?_
  obtain ⟨i, hi, hd2⟩ := hO.cov d (by omega) (by omega)
  rw [h i hi d hd2]
  have : fcI F d = i := by
    unfold fcI
    refine (List.findIdx_eq hi).2 ⟨by rw [← rowOf_eq F hi]; exact decide_eq_true hd2, fun j hj => ?_⟩
    rw [← rowOf_eq F (by omega)]
    exact decide_eq_false (fun k => by have := hO.dis i j hi (by omega) _ hd2 k; omega)
  rw [this]
theorem Grew.gr {X : Nat → Prop} {a b c : World} (h : Grew a b) (hg : Gr X b c) (hX : ∀ k, X k → a.heap.size ≤ k) : Grew a c := by
  refine Gr.grew ?_
  refine ⟨hg.os.trans h.below.os, hg.tape.trans h.below.tape, hg.output.trans h.below.output, Nat.le_trans h.below.size hg.size, fun k hk _ => ?_⟩
  rw [hg.block k (Nat.lt_of_lt_of_le hk h.below.size) (fun e => by have := hX k e; omega)]
  exact h.below.block k hk
theorem arr3_0 (a b c : Int) (W : World) : (Instr.index 63 (.agg #[.int .i64 a, .int .i64 b, .int .i64 c]) (.int .i64 0)).run Tryd.prog W = .ok (.int .i64 a) W := by kernel_rfl
theorem arr3_1 (a b c : Int) (W : World) : (Instr.index 63 (.agg #[.int .i64 a, .int .i64 b, .int .i64 c]) (.int .i64 1)).run Tryd.prog W = .ok (.int .i64 b) W := by kernel_rfl
theorem arr3_2 (a b c : Int) (W : World) : (Instr.index 63 (.agg #[.int .i64 a, .int .i64 b, .int .i64 c]) (.int .i64 2)).run Tryd.prog W = .ok (.int .i64 c) W := by kernel_rfl
set_option maxHeartbeats 1000000 in
theorem open_no (N : Int) (pE pA : Option Addr) (nE nA cE cA : Nat) (E : List (Int × Int)) (A : List (List Int)) (w : World) (hR : RotIn w pE pA cE E A) (hL : Lim w) (hT : trgB N E A = false) (hnE : E.length = nE) (hnA : A.length = nA) :
    Calls Tryd.prog 28 #[.agg #[.int .i64 N, .slice pE nE cE, .slice pA nA cA]] w fun e w' => e = .returned (.pointer none) ∧ Grew w w' := by
  have HR := Lib.hid hR
  have HL := Lib.hid hL
  have Htr : Hid (∀ W1, Grew w W1 → Calls Tryd.prog 53 #[.agg #[.int .i64 N, .slice pE nE cE, .slice pA nA cA]] W1 fun e w' => e = .returned (.bool false) ∧ Grew W1 w') := Lib.hid (fun W1 h => by rw [← hT]; exact trg_p _ _ _ _ _ _ _ _ _ _ (HR.out.grew h) (HL.out.grew h) hnE hnA)
  clear hR hL hT
  go_enter Tryd.func28, Tryd.ntmps28
  go_wp2_with ((go_at_call 53; apply Calls.mono; (with_reducible exact Htr.out _ (by (repeat (first | exact gR _ | refine gO ?_ _ | refine gA ?_ _ | refine gD ?_ | refine gN ?_ _)))); rintro e w' ⟨rfl, x, rfl⟩))
  go_ret
  exact ⟨rfl, by (repeat (first | exact gR _ | refine gO ?_ _ | refine gA ?_ _ | refine gD ?_ | refine gN ?_ _))⟩
set_option maxRecDepth 8000 in
set_option maxHeartbeats 16000000 in
theorem open_yes (N : Int) (pE pA : Option Addr) (nE nA cE cA : Nat) (E : List (Int × Int)) (A : List (List Int)) (w : World) (hR : RotIn w pE pA cE E A) (hL : Lim w) (hT : trgB N E A = true) (hnE : E.length = nE) (hnA : A.length = nA) :
    Calls Tryd.prog 28 #[.agg #[.int .i64 N, .slice pE nE cE, .slice pA nA cA]] w fun e w' => Grew w w' ∧ ∃ b gf, e = .returned (.pointer (some ⟨b, 0, none⟩)) ∧ w.heap.size ≤ b ∧ Plan w' b gf N pE pA nE nA cE cA E A := by
  subst hnE hnA
  have HR := Lib.hid hR
  have HL := Lib.hid hL
  have ha1 := hR.a1
  have he1 := hR.e1
  have hE0 := trg_pos hT
  have hV := trg_valid hT
  have hN : N = A.length := hV.al.symm
  subst hN
  have HV := Lib.hid hV
  have HRt := Lib.hid (HR.out.at HR.out.e5 (vRotB_iff.2 hV))
  have Htr : Hid (∀ W1, Grew w W1 → Calls Tryd.prog 53 #[.agg #[.int .i64 A.length, .slice pE E.length cE, .slice pA A.length cA]] W1 fun e w' => e = .returned (.bool true) ∧ Grew W1 w') := Lib.hid (fun W1 h => by rw [← hT]; exact trg_p _ _ _ _ _ _ _ _ _ _ (HR.out.grew h) (HL.out.grew h) rfl rfl)
  have Hfc : Hid (∀ W1, Grew w W1 → Calls Tryd.prog 54 #[.agg #[.int .i64 A.length, .slice pE E.length cE, .slice pA A.length cA]] W1 (FacesPostF (facesO A.length E A) W1)) := Lib.hid (fun W1 h => faces_pF _ _ _ _ _ _ _ _ _ _ (HRt.out.grew h) (HL.out.grew h) rfl rfl)
  have hmk : ∀ W, (Instr.makeSlice 26 (.int .i64 (2 * (E.length : Int))) (.int .i64 (2 * (E.length : Int)))).run Tryd.prog W = .ok (.slice (some ⟨W.heap.size, 0, none⟩) (2 * E.length) (2 * E.length)) (W.alloc (.cells (Array.replicate (2 * E.length) (.int .i64 0)) 3)) := fun W => by
    have := mk_ints (2 * E.length) (by omega) W
    push_cast at this
    exact this
  have hwr : IntKind.i64.wrap (2 * (E.length : Int)) = 2 * (E.length : Int) := IntWalk.i64_in _ ⟨by omega, by omega⟩
  have HFO := Lib.hid (facs_ok hV)
  have Hnx : Hid (∀ (d : Nat) W1, Grew w W1 → d < 2 * E.length → Calls Tryd.prog 55 #[.agg #[.int .i64 A.length, .slice pE E.length cE, .slice pA A.length cA], .int .i64 d] W1 fun e w' => e = .returned (.int .i64 (nxF A d)) ∧ Grew W1 w') := Lib.hid (fun d W1 h hd => by
    have e : nextF A.length E A d = nxF A d := by unfold nextF; rw [if_pos ⟨vRotB_iff.2 HV.out, by omega, by omega⟩]; rfl
    rw [← e]
    exact nextp_l _ _ _ _ _ _ _ _ _ _ _ (HRt.out.grew h) (HL.out.grew h) rfl rfl)
  obtain ⟨s1, s2, hs1, hs2, hs1l, hs2l⟩ := sdL_nat hV hE0
  have Hs1 := Lib.hid hs1
  have Hs2 := Lib.hid hs2
  clear hR hL hV hT hs1 hs2
  go_enter Tryd.func28, Tryd.ntmps28
  go_wp2_with ((go_at_call 53; apply Calls.mono; (with_reducible exact Htr.out _ (by (repeat (first | exact gR _ | refine gO ?_ _ | refine gA ?_ _ | refine gD ?_ | refine gN ?_ _)))); rintro e w' ⟨rfl, x, rfl⟩))
  have HwB0 : Hid (Grew w (over (w.alloc (.cells #[.int .i64 A.length, .slice pE E.length cE, .slice pA A.length cA] 25)) x)) := Lib.hid (by (repeat (first | exact gR _ | refine gO ?_ _ | refine gA ?_ _ | refine gD ?_ | refine gN ?_ _)))
  have b0 : (over (w.alloc (.cells #[.int .i64 A.length, .slice pE E.length cE, .slice pA A.length cA] 25)) x).cell? ⟨w.heap.size, 0, none⟩ = some (.int .i64 A.length) := by simp [go_sem]
  have b1 : (over (w.alloc (.cells #[.int .i64 A.length, .slice pE E.length cE, .slice pA A.length cA] 25)) x).cell? ⟨w.heap.size, 1, none⟩ = some (.slice pE E.length cE) := by simp [go_sem]
  have b2 : (over (w.alloc (.cells #[.int .i64 A.length, .slice pE E.length cE, .slice pA A.length cA] 25)) x).cell? ⟨w.heap.size, 2, none⟩ = some (.slice pA A.length cA) := by simp [go_sem]
  obtain ⟨wB, hwB⟩ : ∃ wB, over (w.alloc (.cells #[.int .i64 A.length, .slice pE E.length cE, .slice pA A.length cA] 25)) x = wB := ⟨_, rfl⟩
  rw [hwB] at HwB0 b0 b1 b2 ⊢
  clear hwB x
  have hszB := HwB0.out.below.size
  have B0 := Lib.hid b0
  have B1 := Lib.hid b1
  have B2 := Lib.hid b2
  have hblt := World.block_lt_of_cell? wB _ b0
  dsimp only at hblt
  go_cut [3] (fun v3 wx => ∃ g gf, v3 = .pointer (some ⟨g, 0, none⟩) ∧ Grew wB wx ∧ wB.heap.size ≤ g ∧ wB.heap.size ≤ gf ∧ PlB wx g gf A.length pE pA E.length A.length cE cA [0, 0, 0] [0, 0, 0] (List.replicate (2 * E.length) 0))
  case first =>
    refine wp_region_T (s := 9) (S := fun w' => w'.cell? ⟨w.heap.size, 0, none⟩ = some (.int .i64 A.length) ∧ w'.cell? ⟨w.heap.size, 1, none⟩ = some (.slice pE E.length cE) ∧ w'.cell? ⟨w.heap.size, 2, none⟩ = some (.slice pA A.length cA)) (by kernel_rfl) ⟨by simpa using b0, by simpa using b1, by simpa using b2⟩ (fun hH => ?_)
    refine wpAnyT_takeV (i := 0) (v := ?_) rfl (by kernel_rfl) (by kernel_rfl) (by kernel_rfl) (by decide) (fun _ _ _ h => h) (Or.inl ⟨by rfl, ?_⟩) (by assumption) ?_
    rotate_left
    · (intro w hSw; (try dsimp only at hSw); go_simp; (try with_reducible rfl))
    (try simp only [Act.put, List.setIfInBounds_toArray, List.set_cons_zero, List.set_cons_succ])
    refine wpAnyT_takeV (i := 1) (v := ?_) rfl (by kernel_rfl) (by kernel_rfl) (by kernel_rfl) (by decide) (fun _ _ _ h => h) (Or.inl ⟨by rfl, ?_⟩) (by assumption) ?_
    rotate_left
    · (intro w hSw; (try dsimp only at hSw); go_simp; (try with_reducible rfl))
    (try simp only [Act.put, List.setIfInBounds_toArray, List.set_cons_zero, List.set_cons_succ])
    refine wpAnyT_takeV (i := 2) (v := ?_) rfl (by kernel_rfl) (by kernel_rfl) (by kernel_rfl) (by decide) (fun _ _ _ h => h) (Or.inl ⟨by rfl, ?_⟩) (by assumption) ?_
    rotate_left
    · (intro w hSw; (try dsimp only at hSw); go_simp; (try with_reducible rfl))
    (try simp only [Act.put, List.setIfInBounds_toArray, List.set_cons_zero, List.set_cons_succ])
    refine wpAnyT_takeV (i := 3) (v := ?_) rfl (by kernel_rfl) (by kernel_rfl) (by kernel_rfl) (by decide) (fun _ _ _ h => h) (Or.inl ⟨by rfl, ?_⟩) (by assumption) ?_
    rotate_left
    · (intro w hSw; (try dsimp only at hSw); go_simp; (try with_reducible rfl))
    (try simp only [Act.put, List.setIfInBounds_toArray, List.set_cons_zero, List.set_cons_succ])
    refine wpAnyT_takeV (i := 4) (v := ?_) rfl (by kernel_rfl) (by kernel_rfl) (by kernel_rfl) (by decide) (fun _ _ _ h => h) (Or.inl ⟨by rfl, ?_⟩) (by assumption) ?_
    rotate_left
    · (intro w hSw; (try dsimp only at hSw); go_simp; (try with_reducible rfl))
    (try simp only [Act.put, List.setIfInBounds_toArray, List.set_cons_zero, List.set_cons_succ])
    obtain ⟨wk, hwk⟩ : ∃ wk, wB.drew = wk := ⟨_, rfl⟩
    have Hcur : Hid (Grew wB wk) := Lib.hid (by rw [← hwk]; exact (Grew.refl wB).drew)
    rw [hwk] at hH ⊢
    replace b0 := hH.1
    replace b1 := hH.2.1
    replace b2 := hH.2.2
    have hszk := Hcur.out.below.size
    have Hgf := Lib.hid hszk
    clear hwk
    refine wpAnyT_all (rs := [5]) (by kernel_rfl) (by simp) (AllT.consL (i := 5) rfl (fun K hK => ?_) AllT.nil)
    go_simp
    have HSt := Lib.hid (zeros_cells wk (2 * E.length) 3)
    have hgk2 : Grew wk (wk.alloc (.cells (Array.replicate (2 * E.length) (.int .i64 0)) 3)) := (Grew.refl wk).alloc _
    have hs1 : wk.heap.size < (wk.alloc (.cells (Array.replicate (2 * E.length) (.int .i64 0)) 3)).heap.size := by simp
    obtain ⟨w1, hwm⟩ : ∃ wm, wk.alloc (.cells (Array.replicate (2 * E.length) (.int .i64 0)) 3) = wm := ⟨_, rfl⟩
    rw [hwm] at hgk2 HSt hs1 ⊢
    have Hcur := Lib.hid (Hcur.out.trans hgk2)
    have b0 := hgk2.cellEq b0
    have b1 := hgk2.cellEq b1
    have b2 := hgk2.cellEq b2
    clear hwm hgk2
    refine hK.out _ _ ?_ (fun hH => ?_)
    · (first | (simp [go_sem, ↓IntWalk.iteOmega, *]; done) | go_keep)
    clear hK K
    (try simp only [Act.put, List.setIfInBounds_toArray, List.set_cons_zero, List.set_cons_succ])
    refine wpAnyT_all (rs := [6]) (by kernel_rfl) (by simp) (AllT.consL (i := 6) rfl (fun K hK => ?_) AllT.nil)
    go_simp
    refine hK.out _ _ ?_ (fun hH => ?_)
    · (first | (simp [go_sem, ↓IntWalk.iteOmega, *]; done) | go_keep)
    clear hK K
    (try simp only [Act.put, List.setIfInBounds_toArray, List.set_cons_zero, List.set_cons_succ])
    refine wpAnyT_all (rs := [7]) (by kernel_rfl) (by simp) (AllT.consL (i := 7) rfl (fun K hK => ?_) AllT.nil)
    go_simp
    refine hK.out _ _ ?_ (fun hH => ?_)
    · (first | (simp [go_sem, ↓IntWalk.iteOmega, *]; done) | go_keep)
    clear hK K
    (try simp only [Act.put, List.setIfInBounds_toArray, List.set_cons_zero, List.set_cons_succ])
    refine wpAnyT_all (rs := [8]) (by kernel_rfl) (by simp) (AllT.consL (i := 8) rfl (fun K hK => ?_) AllT.nil)
    go_simp
    refine hK.out _ _ ?_ (fun hH => ?_)
    · (first | (simp [go_sem, ↓IntWalk.iteOmega, *]; done) | go_keep)
    clear hK K
    (try simp only [Act.put, List.setIfInBounds_toArray, List.set_cons_zero, List.set_cons_succ])
    refine wpAnyT_done (by kernel_rfl) ?_ _
    go_wp2_with fail
    go_meet
    exact ⟨_, _, rfl, Hcur.out.trans (by (repeat (first | exact gR _ | refine gO ?_ _ | refine gA ?_ _ | refine gD ?_ | refine gN ?_ _))), by omega, Hgf.out, (plb_mk HSt.out (by omega)).grew (by (repeat (first | exact gR _ | refine gO ?_ _ | refine gA ?_ _ | refine gD ?_ | refine gN ?_ _)))⟩
  case rest =>
    obtain ⟨g, gf, rfl, hgc, hgB, hgfB, hP⟩ := hcut
    have HP := Lib.hid hP
    have Hgc := Lib.hid hgc
    have hszc := hgc.below.size
    have b0 := hgc.cellEq B0.out
    have b1 := hgc.cellEq B1.out
    have b2 := hgc.cellEq B2.out
    have hgne := hP.ne
    have hgfne : ¬ gf = g := fun e => hgne e.symm
    obtain ⟨F, hF⟩ : ∃ F, facesO A.length E A = F := ⟨_, rfl⟩
    have HFe := Lib.hid hF
    rw [hF] at Hfc HFO
    have hlf := hP.lf
    have hFl := HFO.out.len
    clear hgc hP hF
    go_wp2_with (go_at_call 54; apply Calls.mono; (with_reducible exact Hfc.out _ (HwB0.out.trans (Hgc.out.trans (by (repeat (first | exact gR _ | refine gO ?_ _ | refine gA ?_ _ | refine gD ?_ | refine gN ?_ _)))))); rintro e w6 ⟨hg6, q, cq, rfl, _, hMF⟩; have HMF := Lib.hid (hMF.mono (HP.out.grew (by (repeat (first | exact gR _ | refine gO ?_ _ | refine gA ?_ _ | refine gD ?_ | refine gN ?_ _)))).lf); have HP6 := Lib.hid (HP.out.grew (Grew.trans (by (repeat (first | exact gR _ | refine gO ?_ _ | refine gA ?_ _ | refine gD ?_ | refine gN ?_ _))) hg6)); have Hg6 := Lib.hid (Hgc.out.trans (Grew.trans (by (repeat (first | exact gR _ | refine gO ?_ _ | refine gA ?_ _ | refine gD ?_ | refine gN ?_ _))) hg6)); clear hMF hg6)
    have hg6s := Hg6.out.below.size
    have hlf6 := HP6.out.lf
    go_loopw [25] (fun iv wr => ∃ i : Nat, i ≤ F.length ∧ iv = .int .i64 i ∧ Gr (fun k => k = gf) w6 wr ∧ ∃ X : List Int, X.length = 2 * E.length ∧ PlB wr g gf A.length pE pA E.length A.length cE cA [0, 0, 0] [0, 0, 0] X ∧ ∀ j, j < i → ∀ d : Nat, (d : Int) ∈ rowOf F j → ge X d = j) (fun iv _ => F.length - (intOf iv).toNat)
    case atStart => exact ⟨0, Nat.zero_le _, rfl, Gr.refl _ _, _, by simp, HP6.out, fun j hj => by omega⟩
    case round =>
      obtain ⟨i, hi, rfl, hgr, X, hXl, hPr, hall⟩ := hrel
      have HPr := Lib.hid hPr
      have Hgr := Lib.hid hgr
      have Hall := Lib.hid hall
      have HXl := Lib.hid hXl
      have hszr := hgr.size
      clear hgr hPr hall hXl
      by_cases hlt : i < F.length
      · obtain ⟨bF, oF, rp, rc, hq, hrows⟩ := HMF.out
        obtain ⟨rfl, hbF1, hbF2⟩ := hq (by omega)
        obtain ⟨f1, f2, f3⟩ := hrows i hlt
        have hbne : ¬ bF = gf := by omega
        have f1r := Hgr.out.cellEq hbne f1
        obtain ⟨xs, hxs⟩ : ∃ xs, rowOf F i = xs := ⟨_, rfl⟩
        rw [hxs] at f1r f2
        have hxl : xs.length ≤ 2 * E.length := by rw [← hxs]; exact HFO.out.row i hlt
        have Hxi : Hid (∀ d ∈ xs, 0 ≤ d ∧ d < ((2 * E.length : Nat) : Int)) := Lib.hid (fun d hd => HFO.out.inn i hlt d (by rw [hxs]; exact hd))
        have Hxd : Hid (∀ j, j < i → ∀ d : Int, d ∈ xs → d ∉ rowOf F j) := Lib.hid (fun j hj d hd hd2 => by
          have := HFO.out.dis i j hlt (by omega) d (by rw [hxs]; exact hd) hd2
          omega)
        have Hxs := Lib.hid hxs
        obtain ⟨pr, hpr⟩ : ∃ pr, rp i = pr := ⟨_, rfl⟩
        obtain ⟨cr, hcr⟩ : ∃ cr, rc i = cr := ⟨_, rfl⟩
        rw [hpr] at f1r f2 f3
        rw [hcr] at f1r
        have HI := Lib.hid f2
        have Hf3 := Lib.hid f3
        clear f1 f2 f3 hrows hq hpr hcr hxs
        go_wp2
        go_loopw [32] (fun kv wx => ∃ k : Nat, k ≤ xs.length ∧ kv = .int .i64 k ∧ Gr (fun k => k = gf) w6 wx ∧ ∃ X : List Int, X.length = 2 * E.length ∧ PlB wx g gf A.length pE pA E.length A.length cE cA [0, 0, 0] [0, 0, 0] X ∧ (∀ j, j < i → ∀ d : Nat, (d : Int) ∈ rowOf F j → ge X d = j) ∧ ∀ d : Nat, (d : Int) ∈ xs.take k → ge X d = i) (fun kv _ => xs.length - (intOf kv).toNat)
        case atStart => exact ⟨0, Nat.zero_le _, rfl, Hgr.out.over (by (repeat (first | exact gR _ | refine gO ?_ _ | refine gA ?_ _ | refine gD ?_ | refine gN ?_ _))), X, HXl.out, HPr.out.grew (by (repeat (first | exact gR _ | refine gO ?_ _ | refine gA ?_ _ | refine gD ?_ | refine gN ?_ _))), Hall.out, fun d hd => by simp at hd⟩
        case round =>
          obtain ⟨k, hk, rfl, hgr2, Y, hYl, hPr2, hall1, hall2⟩ := hrel
          have HPr2 := Lib.hid hPr2
          have Hgr2 := Lib.hid hgr2
          have Hall1 := Lib.hid hall1
          have Hall2 := Lib.hid hall2
          have HYl := Lib.hid hYl
          have hszr2 := hgr2.size
          clear hgr2 hPr2 hall1 hall2 hYl f1r
          by_cases hlk : k < xs.length
          · obtain ⟨bR, oR, rfl, lR, cR⟩ := HI.out.cells (by omega)
            have hbR := Hf3.out _ rfl
            dsimp only at hbR
            have hbRne : ¬ bR = gf := by omega
            have e1 := Hgr2.out.cellEq hbRne (cR _ (Grew.refl _) k hlk)
            have hdr := Hxi.out _ (ge_mem hlk)
            obtain ⟨d, hd⟩ : ∃ d : Nat, ge xs k = (d : Int) := ⟨(ge xs k).toNat, by omega⟩
            rw [hd] at e1 hdr
            have hd2 : d < 2 * E.length := by omega
            have hdi : (d : Int) < ((2 * E.length : Nat) : Int) := by omega
            have hdi2 : (d : Int) < 2 * (E.length : Int) := by omega
            have c3 := HPr2.out.c3
            obtain ⟨x1, x2⟩ := HPr2.out.f d hd2
            have Hset := Lib.hid (HPr2.out.setF hd2 (i : Int) HYl.out)
            have Hd := Lib.hid hd
            clear hdr hd cR
            go_wp2
            go_roundw
            case rel => exact ⟨k + 1, by omega, by go_num, (Hgr2.out.setCell rfl _).over (by (repeat (first | exact gR _ | refine gO ?_ _ | refine gA ?_ _ | refine gD ?_ | refine gN ?_ _))), Y.set d i, by rw [List.length_set]; exact HYl.out, Hset.out.grew (by (repeat (first | exact gR _ | refine gO ?_ _ | refine gA ?_ _ | refine gD ?_ | refine gN ?_ _))), fun j hj d' hd' => by
                rw [ge_set_other Y (fun e => by
                  rw [← e] at hd'
                  exact Hxd.out j hj d (by rw [← Hd.out]; exact ge_mem hlk) hd')]
                exact Hall1.out j hj d' hd', fun d' hd' => by
                by_cases e : d = d'
                · rw [← e, ge_set_same Y (by rw [HYl.out]; exact hd2)]
                · rw [ge_set_other Y e]
                  rw [List.take_succ_eq_append_getElem hlk, ← ge_eq xs hlk, Hd.out, List.mem_append, List.mem_singleton] at hd'
                  rcases hd' with h | h
                  · exact Hall2.out d' h
                  · omega⟩
            case measure => (simp [intOf] <;> omega)
          · obtain rfl : k = xs.length := by omega
            rw [List.take_length] at Hall2
            go_wp2
            go_roundw
            case rel => exact ⟨i + 1, by omega, by go_num, Hgr2.out.over (by (repeat (first | exact gR _ | refine gO ?_ _ | refine gA ?_ _ | refine gD ?_ | refine gN ?_ _))), Y, HYl.out, HPr2.out.grew (by (repeat (first | exact gR _ | refine gO ?_ _ | refine gA ?_ _ | refine gD ?_ | refine gN ?_ _))), fun j hj d hd => by
              by_cases e : j = i
              · rw [e] at hd ⊢
                exact Hall2.out d (by rw [← Hxs.out]; exact hd)
              · exact Hall1.out j (by omega) d hd⟩
            case measure => (simp [intOf] <;> omega)
      · obtain rfl : i = F.length := by omega
        have HX : Hid (X = faceL A.length E A) := Lib.hid (faceL_of HV.out HXl.out (by rw [HFe.out]; exact Hall.out))
        have HgB : Hid (Grew wB wr) := Lib.hid (Hg6.out.gr Hgr.out (fun k hk => by rw [hk]; exact hgfB))
        have r0 := HgB.out.cellEq B0.out
        have r1 := HgB.out.cellEq B1.out
        have r2 := HgB.out.cellEq B2.out
        have Hgw : Hid (Grew w wr) := Lib.hid (HwB0.out.trans HgB.out)
        have N0 := Lib.hid (fun W1 h => Hnx.out 0 W1 h (by omega))
        have N1 := Lib.hid (fun W1 h => Hnx.out s1 W1 h hs1l)
        rw [← Hs1.out, Hs2.out] at N1
        rw [show ((0 : Nat) : Int) = 0 from rfl, Hs1.out] at N0
        rw [Hs1.out] at N1
        clear b0 b1 b2
        go_upto_region 14 with (go_at_call 55; apply Calls.mono; (with_reducible exact N0.out _ (Hgw.out.trans (by (repeat (first | exact gR _ | refine gO ?_ _ | refine gA ?_ _ | refine gD ?_ | refine gN ?_ _))))); rintro e w9 ⟨rfl, hg9⟩; have HP9 := Lib.hid (HPr.out.grew (Grew.trans (by (repeat (first | exact gR _ | refine gO ?_ _ | refine gA ?_ _ | refine gD ?_ | refine gN ?_ _))) hg9)); have Hg9 := Lib.hid (HgB.out.trans (Grew.trans (by (repeat (first | exact gR _ | refine gO ?_ _ | refine gA ?_ _ | refine gD ?_ | refine gN ?_ _))) hg9)); clear hg9)
        have z0 := Hg9.out.cellEq B0.out
        have z1 := Hg9.out.cellEq B1.out
        have z2 := Hg9.out.cellEq B2.out
        go_wp2_with (go_at_call 55; apply Calls.mono; (with_reducible exact N1.out _ (HwB0.out.trans (Hg9.out.trans (by (repeat (first | exact gR _ | refine gO ?_ _ | refine gA ?_ _ | refine gD ?_ | refine gN ?_ _)))))); rintro e w10 ⟨rfl, hg10⟩; have HP10 := Lib.hid (HP9.out.grew (Grew.trans (by (repeat (first | exact gR _ | refine gO ?_ _ | refine gA ?_ _ | refine gD ?_ | refine gN ?_ _))) hg10)); have Hg10 := Lib.hid (Hg9.out.trans (Grew.trans (by (repeat (first | exact gR _ | refine gO ?_ _ | refine gA ?_ _ | refine gD ?_ | refine gN ?_ _))) hg10)); have hf10 := (HP10.out.s 0 (by omega)).2; have hf11 := (HP10.out.s 1 (by omega)).2; have hf12 := (HP10.out.s 2 (by omega)).2; have hc10 := (HP10.out.s 0 (by omega)).1; have hc11 := (HP10.out.s 1 (by omega)).1; have hc12 := (HP10.out.s 2 (by omega)).1; clear hg10)
        rw [HX.out] at HP10
        have HP13 := Lib.hid (((HP10.out.setS (k := 0) (by omega) 0 rfl).setS (k := 1) (by omega) (s1 : Int) rfl).setS (k := 2) (by omega) (s2 : Int) rfl)
        have Hg13 : Hid (Gr (fun k => k = g) w10 (((w10.setCell ⟨g, 4, none⟩ (.int .i64 0)).setCell ⟨g, 5, none⟩ (.int .i64 (s1 : Int))).setCell ⟨g, 6, none⟩ (.int .i64 (s2 : Int)))) := Lib.hid ((((Gr.refl (fun k => k = g) w10).setCell (b := g) rfl _).setCell (b := g) rfl _).setCell (b := g) rfl _)
        obtain ⟨w13, hw13⟩ : ∃ w13, ((w10.setCell ⟨g, 4, none⟩ (.int .i64 0)).setCell ⟨g, 5, none⟩ (.int .i64 (s1 : Int))).setCell ⟨g, 6, none⟩ (.int .i64 (s2 : Int)) = w13 := ⟨_, rfl⟩
        rw [show (4 + 0 : Nat) = 4 from rfl, show (4 + 1 : Nat) = 5 from rfl, show (4 + 2 : Nat) = 6 from rfl, hw13] at HP13
        rw [hw13] at Hg13
        rw [hw13]
        replace HP13 : Hid (PlB w13 g gf A.length pE pA E.length A.length cE cA [0, (s1 : Int), (s2 : Int)] [0, 0, 0] (faceL A.length E A)) := HP13
        have Hgw13 : Hid (Grew wB w13) := Lib.hid (Hg10.out.gr Hg13.out (fun k hk => by rw [hk]; exact hgB))
        clear hf10 hf11 hf12 hc10 hc11 hc12 z0 z1 z2 r0 r1 r2 hw13
        go_loopw [59] (fun kv wx => ∃ k : Nat, k ≤ 3 ∧ kv = .int .i64 k ∧ Gr (fun k => k = g) w13 wx ∧ ∃ rt : List Int, rt.length = 3 ∧ PlB wx g gf A.length pE pA E.length A.length cE cA [0, (s1 : Int), (s2 : Int)] rt (faceL A.length E A) ∧ ∀ j, j < k → ge rt j = tailE E (ge [0, (s1 : Int), (s2 : Int)] j)) (fun kv _ => 3 - (intOf kv).toNat)
        case atStart => exact ⟨0, by omega, rfl, Gr.refl _ _, _, rfl, HP13.out, fun j hj => by omega⟩
        case round =>
          obtain ⟨k, hk, rfl, hgr2, rt, hrl, hPr2, hall⟩ := hrel
          have HPr2 := Lib.hid hPr2
          have Hall := Lib.hid hall
          have Hgr2 : Hid (Grew wB wr) := Lib.hid (Hgw13.out.gr hgr2 (fun k hk => by rw [hk]; exact hgB))
          have Hgr3 := Lib.hid hgr2
          have Htl : Hid (∀ (d : Nat) W1, Grew wB W1 → W1.cell? ⟨g, 1, none⟩ = some (.slice pE E.length cE) → d < 2 * E.length → Calls Tryd.prog 31 #[.pointer (some ⟨g, 0, none⟩), .int .i64 d] W1 fun e w' => e = .returned (.int .i64 (tailE E d)) ∧ W1 = w') := Lib.hid (fun d W1 h hc hd => tail38_c g pE E.length cE E W1 hc (HR.out.hE.grew (HwB0.out.trans h)) rfl HR.out.e1 d hd)
          have T0 : Hid (∀ W1, Grew wB W1 → W1.cell? ⟨g, 1, none⟩ = some (.slice pE E.length cE) → Calls Tryd.prog 31 #[.pointer (some ⟨g, 0, none⟩), .int .i64 0] W1 fun e w' => e = .returned (.int .i64 (tailE E 0)) ∧ W1 = w') := Lib.hid (fun W1 h hc => Htl.out 0 W1 h hc (by omega))
          have T1 : Hid (∀ W1, Grew wB W1 → W1.cell? ⟨g, 1, none⟩ = some (.slice pE E.length cE) → Calls Tryd.prog 31 #[.pointer (some ⟨g, 0, none⟩), .int .i64 (s1 : Int)] W1 fun e w' => e = .returned (.int .i64 (tailE E s1)) ∧ W1 = w') := Lib.hid (fun W1 h hc => Htl.out s1 W1 h hc hs1l)
          have T2 : Hid (∀ W1, Grew wB W1 → W1.cell? ⟨g, 1, none⟩ = some (.slice pE E.length cE) → Calls Tryd.prog 31 #[.pointer (some ⟨g, 0, none⟩), .int .i64 (s2 : Int)] W1 fun e w' => e = .returned (.int .i64 (tailE E s2)) ∧ W1 = w') := Lib.hid (fun W1 h hc => Htl.out s2 W1 h hc hs2l)
          clear hgr2 hPr2 hall
          have a0 : ∀ W, (Instr.index 63 (.agg #[.int .i64 0, .int .i64 (s1 : Int), .int .i64 (s2 : Int)]) (.int .i64 0)).run Tryd.prog W = .ok (.int .i64 0) W := fun W => arr3_0 _ _ _ W
          have a1 : ∀ W, (Instr.index 63 (.agg #[.int .i64 0, .int .i64 (s1 : Int), .int .i64 (s2 : Int)]) (.int .i64 1)).run Tryd.prog W = .ok (.int .i64 (s1 : Int)) W := fun W => arr3_1 _ _ _ W
          have a2 : ∀ W, (Instr.index 63 (.agg #[.int .i64 0, .int .i64 (s1 : Int), .int .i64 (s2 : Int)]) (.int .i64 2)).run Tryd.prog W = .ok (.int .i64 (s2 : Int)) W := fun W => arr3_2 _ _ _ W
          rcases (by omega : k = 0 ∨ k = 1 ∨ k = 2 ∨ k = 3) with rfl | rfl | rfl | rfl
          · -- root 0
            have k1 := HPr2.out.c1
            go_upto_region 18 with fail
            refine wp_region_T (s := 9) (S := fun w' => w'.cell? ⟨g, 1, none⟩ = some (.slice pE E.length cE)) (by kernel_rfl) (by simpa using k1) (fun hH => ?_)
            refine wpAnyT_takeV (i := 0) (v := ?_) rfl (by kernel_rfl) (by kernel_rfl) (by kernel_rfl) (by decide) (fun _ _ _ h => h) (Or.inl ⟨by rfl, ?_⟩) (by assumption) ?_
            rotate_left
            · (intro w hSw; (try dsimp only at hSw); go_simp; (try with_reducible rfl))
            (try simp only [Act.put, List.setIfInBounds_toArray, List.set_cons_zero, List.set_cons_succ])
            refine wpAnyT_takeV (i := 1) (v := ?_) rfl (by kernel_rfl) (by kernel_rfl) (by kernel_rfl) (by decide) (fun _ _ _ h => h) (Or.inl ⟨by rfl, ?_⟩) (by assumption) ?_
            rotate_left
            · (intro w hSw; (try dsimp only at hSw); go_simp; (try with_reducible rfl))
            (try simp only [Act.put, List.setIfInBounds_toArray, List.set_cons_zero, List.set_cons_succ])
            refine wpAnyT_takeV (i := 2) (v := ?_) rfl (by kernel_rfl) (by kernel_rfl) (by kernel_rfl) (by decide) (fun _ _ _ h => h) (Or.inl ⟨by rfl, ?_⟩) (by assumption) ?_
            rotate_left
            · (intro w hSw; (try dsimp only at hSw); go_simp; (try with_reducible rfl))
            (try simp only [Act.put, List.setIfInBounds_toArray, List.set_cons_zero, List.set_cons_succ])
            refine wpAnyT_takeV (i := 3) (v := ?_) rfl (by kernel_rfl) (by kernel_rfl) (by kernel_rfl) (by decide) (fun _ _ _ h => h) (Or.inl ⟨by rfl, ?_⟩) (by assumption) ?_
            rotate_left
            · (intro w hSw; (try dsimp only at hSw); go_simp; (try with_reducible rfl))
            (try simp only [Act.put, List.setIfInBounds_toArray, List.set_cons_zero, List.set_cons_succ])
            refine wpAnyT_takeV (i := 5) (v := ?_) rfl (by kernel_rfl) (by kernel_rfl) (by kernel_rfl) (by decide) (fun _ _ _ h => h) (Or.inl ⟨by rfl, ?_⟩) (by assumption) ?_
            rotate_left
            · (intro w hSw; (try dsimp only at hSw); go_simp; (try with_reducible rfl))
            (try simp only [Act.put, List.setIfInBounds_toArray, List.set_cons_zero, List.set_cons_succ])
            refine wpAnyT_takeV (i := 6) (v := ?_) rfl (by kernel_rfl) (by kernel_rfl) (by kernel_rfl) (by decide) (fun _ _ _ h => h) (Or.inl ⟨by rfl, ?_⟩) (by assumption) ?_
            rotate_left
            · (intro w hSw; (try dsimp only at hSw); go_simp; (try with_reducible rfl))
            (try simp only [Act.put, List.setIfInBounds_toArray, List.set_cons_zero, List.set_cons_succ])
            obtain ⟨wk, hwk⟩ : ∃ wk, wr.drew = wk := ⟨_, rfl⟩
            have HPk : Hid (PlB wk g gf A.length pE pA E.length A.length cE cA [0, (s1 : Int), (s2 : Int)] rt (faceL A.length E A)) := Lib.hid (by rw [← hwk]; exact HPr2.out.grew ((Grew.refl wr).drew))
            have Hgk : Hid (Grew wB wk) := Lib.hid (by rw [← hwk]; exact Hgr2.out.trans ((Grew.refl wr).drew))
            have Hgk3 : Hid (Gr (fun k => k = g) w13 wk) := Lib.hid (by rw [← hwk]; exact Hgr3.out.drew)
            have k1 := HPk.out.c1
            have hfr := (HPk.out.r 0 (by omega)).2
            have hcl := (HPk.out.r 0 (by omega)).1
            have Hset := Lib.hid (HPk.out.setR (k := 0) (by omega) (tailE E 0) hrl)
            rw [hwk] at hH ⊢
            clear hwk
            refine wpAnyT_all (rs := [4]) (by kernel_rfl) (by simp) (AllT.consL (i := 4) rfl (fun K hK => ?_) AllT.nil)
            go_simp; go_wp2_with ((go_at_call 31; apply Calls.mono; (with_reducible exact T0.out _ (Hgk.out.trans (by (repeat (first | exact gR _ | refine gO ?_ _ | refine gA ?_ _ | refine gD ?_ | refine gN ?_ _)))) (by first | (go_simp; done) | (simp [go_sem, ↓IntWalk.iteOmega, *]; done))); rintro e w' ⟨rfl, rfl⟩))
            refine hK.out _ _ ?_ (fun hH => ?_)
            · (first | (simp [go_sem, ↓IntWalk.iteOmega, *]; done) | go_keep)
            clear hK K
            (try simp only [Act.put, List.setIfInBounds_toArray, List.set_cons_zero, List.set_cons_succ])
            refine wpAnyT_takeV (i := 7) (v := ?_) rfl (by kernel_rfl) (by kernel_rfl) (by kernel_rfl) (by decide) (fun _ _ _ h => h) (Or.inl ⟨by rfl, ?_⟩) (by assumption) ?_
            rotate_left
            · (intro w hSw; (try dsimp only at hSw); go_simp; (try with_reducible rfl))
            (try simp only [Act.put, List.setIfInBounds_toArray, List.set_cons_zero, List.set_cons_succ])
            refine wpAnyT_all (rs := [8]) (by kernel_rfl) (by simp) (AllT.consL (i := 8) rfl (fun K hK => ?_) AllT.nil)
            go_simp
            refine hK.out _ _ ?_ (fun hH => ?_)
            · (first | (simp [go_sem, ↓IntWalk.iteOmega, *]; done) | go_keep)
            clear hK K
            (try simp only [Act.put, List.setIfInBounds_toArray, List.set_cons_zero, List.set_cons_succ])
            refine wpAnyT_done (by kernel_rfl) ?_ _
            go_wp2_with fail
            go_roundw
            case rel => exact ⟨1, by omega, by go_num, (Hgk3.out.setCell rfl _).over (by (repeat (first | exact gR _ | refine gO ?_ _ | refine gA ?_ _ | refine gD ?_ | refine gN ?_ _))), rt.set 0 (tailE E 0), by rw [List.length_set]; exact hrl, Hset.out.grew (by (repeat (first | exact gR _ | refine gO ?_ _ | refine gA ?_ _ | refine gD ?_ | refine gN ?_ _))), fun j hj => by
              by_cases e : j = 0
              · rw [e, ge_set_same rt (by omega)]; rfl
              · rw [ge_set_other rt (Ne.symm e)]; exact Hall.out j (by omega)⟩
            case measure => (simp [intOf] <;> omega)
          · -- root 1
            have k1 := HPr2.out.c1
            go_upto_region 18 with fail
            refine wp_region_T (s := 9) (S := fun w' => w'.cell? ⟨g, 1, none⟩ = some (.slice pE E.length cE)) (by kernel_rfl) (by simpa using k1) (fun hH => ?_)
            refine wpAnyT_takeV (i := 0) (v := ?_) rfl (by kernel_rfl) (by kernel_rfl) (by kernel_rfl) (by decide) (fun _ _ _ h => h) (Or.inl ⟨by rfl, ?_⟩) (by assumption) ?_
            rotate_left
            · (intro w hSw; (try dsimp only at hSw); go_simp; (try with_reducible rfl))
            (try simp only [Act.put, List.setIfInBounds_toArray, List.set_cons_zero, List.set_cons_succ])
            refine wpAnyT_takeV (i := 1) (v := ?_) rfl (by kernel_rfl) (by kernel_rfl) (by kernel_rfl) (by decide) (fun _ _ _ h => h) (Or.inl ⟨by rfl, ?_⟩) (by assumption) ?_
            rotate_left
            · (intro w hSw; (try dsimp only at hSw); go_simp; (try with_reducible rfl))
            (try simp only [Act.put, List.setIfInBounds_toArray, List.set_cons_zero, List.set_cons_succ])
            refine wpAnyT_takeV (i := 2) (v := ?_) rfl (by kernel_rfl) (by kernel_rfl) (by kernel_rfl) (by decide) (fun _ _ _ h => h) (Or.inl ⟨by rfl, ?_⟩) (by assumption) ?_
            rotate_left
            · (intro w hSw; (try dsimp only at hSw); go_simp; (try with_reducible rfl))
            (try simp only [Act.put, List.setIfInBounds_toArray, List.set_cons_zero, List.set_cons_succ])
            refine wpAnyT_takeV (i := 3) (v := ?_) rfl (by kernel_rfl) (by kernel_rfl) (by kernel_rfl) (by decide) (fun _ _ _ h => h) (Or.inl ⟨by rfl, ?_⟩) (by assumption) ?_
            rotate_left
            · (intro w hSw; (try dsimp only at hSw); go_simp; (try with_reducible rfl))
            (try simp only [Act.put, List.setIfInBounds_toArray, List.set_cons_zero, List.set_cons_succ])
            refine wpAnyT_takeV (i := 5) (v := ?_) rfl (by kernel_rfl) (by kernel_rfl) (by kernel_rfl) (by decide) (fun _ _ _ h => h) (Or.inl ⟨by rfl, ?_⟩) (by assumption) ?_
            rotate_left
            · (intro w hSw; (try dsimp only at hSw); go_simp; (try with_reducible rfl))
            (try simp only [Act.put, List.setIfInBounds_toArray, List.set_cons_zero, List.set_cons_succ])
            refine wpAnyT_takeV (i := 6) (v := ?_) rfl (by kernel_rfl) (by kernel_rfl) (by kernel_rfl) (by decide) (fun _ _ _ h => h) (Or.inl ⟨by rfl, ?_⟩) (by assumption) ?_
            rotate_left
            · (intro w hSw; (try dsimp only at hSw); go_simp; (try with_reducible rfl))
            (try simp only [Act.put, List.setIfInBounds_toArray, List.set_cons_zero, List.set_cons_succ])
            obtain ⟨wk, hwk⟩ : ∃ wk, wr.drew = wk := ⟨_, rfl⟩
            have HPk : Hid (PlB wk g gf A.length pE pA E.length A.length cE cA [0, (s1 : Int), (s2 : Int)] rt (faceL A.length E A)) := Lib.hid (by rw [← hwk]; exact HPr2.out.grew ((Grew.refl wr).drew))
            have Hgk : Hid (Grew wB wk) := Lib.hid (by rw [← hwk]; exact Hgr2.out.trans ((Grew.refl wr).drew))
            have Hgk3 : Hid (Gr (fun k => k = g) w13 wk) := Lib.hid (by rw [← hwk]; exact Hgr3.out.drew)
            have k1 := HPk.out.c1
            have hfr := (HPk.out.r 1 (by omega)).2
            have hcl := (HPk.out.r 1 (by omega)).1
            have Hset := Lib.hid (HPk.out.setR (k := 1) (by omega) (tailE E s1) hrl)
            rw [hwk] at hH ⊢
            clear hwk
            refine wpAnyT_all (rs := [4]) (by kernel_rfl) (by simp) (AllT.consL (i := 4) rfl (fun K hK => ?_) AllT.nil)
            go_simp; go_wp2_with ((go_at_call 31; apply Calls.mono; (with_reducible exact T1.out _ (Hgk.out.trans (by (repeat (first | exact gR _ | refine gO ?_ _ | refine gA ?_ _ | refine gD ?_ | refine gN ?_ _)))) (by first | (go_simp; done) | (simp [go_sem, ↓IntWalk.iteOmega, *]; done))); rintro e w' ⟨rfl, rfl⟩))
            refine hK.out _ _ ?_ (fun hH => ?_)
            · (first | (simp [go_sem, ↓IntWalk.iteOmega, *]; done) | go_keep)
            clear hK K
            (try simp only [Act.put, List.setIfInBounds_toArray, List.set_cons_zero, List.set_cons_succ])
            refine wpAnyT_takeV (i := 7) (v := ?_) rfl (by kernel_rfl) (by kernel_rfl) (by kernel_rfl) (by decide) (fun _ _ _ h => h) (Or.inl ⟨by rfl, ?_⟩) (by assumption) ?_
            rotate_left
            · (intro w hSw; (try dsimp only at hSw); go_simp; (try with_reducible rfl))
            (try simp only [Act.put, List.setIfInBounds_toArray, List.set_cons_zero, List.set_cons_succ])
            refine wpAnyT_all (rs := [8]) (by kernel_rfl) (by simp) (AllT.consL (i := 8) rfl (fun K hK => ?_) AllT.nil)
            go_simp
            refine hK.out _ _ ?_ (fun hH => ?_)
            · (first | (simp [go_sem, ↓IntWalk.iteOmega, *]; done) | go_keep)
            clear hK K
            (try simp only [Act.put, List.setIfInBounds_toArray, List.set_cons_zero, List.set_cons_succ])
            refine wpAnyT_done (by kernel_rfl) ?_ _
            go_wp2_with fail
            go_roundw
            case rel => exact ⟨2, by omega, by go_num, (Hgk3.out.setCell rfl _).over (by (repeat (first | exact gR _ | refine gO ?_ _ | refine gA ?_ _ | refine gD ?_ | refine gN ?_ _))), rt.set 1 (tailE E s1), by rw [List.length_set]; exact hrl, Hset.out.grew (by (repeat (first | exact gR _ | refine gO ?_ _ | refine gA ?_ _ | refine gD ?_ | refine gN ?_ _))), fun j hj => by
              by_cases e : j = 1
              · rw [e, ge_set_same rt (by omega)]; rfl
              · rw [ge_set_other rt (Ne.symm e)]; exact Hall.out j (by omega)⟩
            case measure => (simp [intOf] <;> omega)
          · -- root 2
            have k1 := HPr2.out.c1
            go_upto_region 18 with fail
            refine wp_region_T (s := 9) (S := fun w' => w'.cell? ⟨g, 1, none⟩ = some (.slice pE E.length cE)) (by kernel_rfl) (by simpa using k1) (fun hH => ?_)
            refine wpAnyT_takeV (i := 0) (v := ?_) rfl (by kernel_rfl) (by kernel_rfl) (by kernel_rfl) (by decide) (fun _ _ _ h => h) (Or.inl ⟨by rfl, ?_⟩) (by assumption) ?_
            rotate_left
            · (intro w hSw; (try dsimp only at hSw); go_simp; (try with_reducible rfl))
            (try simp only [Act.put, List.setIfInBounds_toArray, List.set_cons_zero, List.set_cons_succ])
            refine wpAnyT_takeV (i := 1) (v := ?_) rfl (by kernel_rfl) (by kernel_rfl) (by kernel_rfl) (by decide) (fun _ _ _ h => h) (Or.inl ⟨by rfl, ?_⟩) (by assumption) ?_
            rotate_left
            · (intro w hSw; (try dsimp only at hSw); go_simp; (try with_reducible rfl))
            (try simp only [Act.put, List.setIfInBounds_toArray, List.set_cons_zero, List.set_cons_succ])
            refine wpAnyT_takeV (i := 2) (v := ?_) rfl (by kernel_rfl) (by kernel_rfl) (by kernel_rfl) (by decide) (fun _ _ _ h => h) (Or.inl ⟨by rfl, ?_⟩) (by assumption) ?_
            rotate_left
            · (intro w hSw; (try dsimp only at hSw); go_simp; (try with_reducible rfl))
            (try simp only [Act.put, List.setIfInBounds_toArray, List.set_cons_zero, List.set_cons_succ])
            refine wpAnyT_takeV (i := 3) (v := ?_) rfl (by kernel_rfl) (by kernel_rfl) (by kernel_rfl) (by decide) (fun _ _ _ h => h) (Or.inl ⟨by rfl, ?_⟩) (by assumption) ?_
            rotate_left
            · (intro w hSw; (try dsimp only at hSw); go_simp; (try with_reducible rfl))
            (try simp only [Act.put, List.setIfInBounds_toArray, List.set_cons_zero, List.set_cons_succ])
            refine wpAnyT_takeV (i := 5) (v := ?_) rfl (by kernel_rfl) (by kernel_rfl) (by kernel_rfl) (by decide) (fun _ _ _ h => h) (Or.inl ⟨by rfl, ?_⟩) (by assumption) ?_
            rotate_left
            · (intro w hSw; (try dsimp only at hSw); go_simp; (try with_reducible rfl))
            (try simp only [Act.put, List.setIfInBounds_toArray, List.set_cons_zero, List.set_cons_succ])
            refine wpAnyT_takeV (i := 6) (v := ?_) rfl (by kernel_rfl) (by kernel_rfl) (by kernel_rfl) (by decide) (fun _ _ _ h => h) (Or.inl ⟨by rfl, ?_⟩) (by assumption) ?_
            rotate_left
            · (intro w hSw; (try dsimp only at hSw); go_simp; (try with_reducible rfl))
            (try simp only [Act.put, List.setIfInBounds_toArray, List.set_cons_zero, List.set_cons_succ])
            obtain ⟨wk, hwk⟩ : ∃ wk, wr.drew = wk := ⟨_, rfl⟩
            have HPk : Hid (PlB wk g gf A.length pE pA E.length A.length cE cA [0, (s1 : Int), (s2 : Int)] rt (faceL A.length E A)) := Lib.hid (by rw [← hwk]; exact HPr2.out.grew ((Grew.refl wr).drew))
            have Hgk : Hid (Grew wB wk) := Lib.hid (by rw [← hwk]; exact Hgr2.out.trans ((Grew.refl wr).drew))
            have Hgk3 : Hid (Gr (fun k => k = g) w13 wk) := Lib.hid (by rw [← hwk]; exact Hgr3.out.drew)
            have k1 := HPk.out.c1
            have hfr := (HPk.out.r 2 (by omega)).2
            have hcl := (HPk.out.r 2 (by omega)).1
            have Hset := Lib.hid (HPk.out.setR (k := 2) (by omega) (tailE E s2) hrl)
            rw [hwk] at hH ⊢
            clear hwk
            refine wpAnyT_all (rs := [4]) (by kernel_rfl) (by simp) (AllT.consL (i := 4) rfl (fun K hK => ?_) AllT.nil)
            go_simp; go_wp2_with ((go_at_call 31; apply Calls.mono; (with_reducible exact T2.out _ (Hgk.out.trans (by (repeat (first | exact gR _ | refine gO ?_ _ | refine gA ?_ _ | refine gD ?_ | refine gN ?_ _)))) (by first | (go_simp; done) | (simp [go_sem, ↓IntWalk.iteOmega, *]; done))); rintro e w' ⟨rfl, rfl⟩))
            refine hK.out _ _ ?_ (fun hH => ?_)
            · (first | (simp [go_sem, ↓IntWalk.iteOmega, *]; done) | go_keep)
            clear hK K
            (try simp only [Act.put, List.setIfInBounds_toArray, List.set_cons_zero, List.set_cons_succ])
            refine wpAnyT_takeV (i := 7) (v := ?_) rfl (by kernel_rfl) (by kernel_rfl) (by kernel_rfl) (by decide) (fun _ _ _ h => h) (Or.inl ⟨by rfl, ?_⟩) (by assumption) ?_
            rotate_left
            · (intro w hSw; (try dsimp only at hSw); go_simp; (try with_reducible rfl))
            (try simp only [Act.put, List.setIfInBounds_toArray, List.set_cons_zero, List.set_cons_succ])
            refine wpAnyT_all (rs := [8]) (by kernel_rfl) (by simp) (AllT.consL (i := 8) rfl (fun K hK => ?_) AllT.nil)
            go_simp
            refine hK.out _ _ ?_ (fun hH => ?_)
            · (first | (simp [go_sem, ↓IntWalk.iteOmega, *]; done) | go_keep)
            clear hK K
            (try simp only [Act.put, List.setIfInBounds_toArray, List.set_cons_zero, List.set_cons_succ])
            refine wpAnyT_done (by kernel_rfl) ?_ _
            go_wp2_with fail
            go_roundw
            case rel => exact ⟨3, by omega, by go_num, (Hgk3.out.setCell rfl _).over (by (repeat (first | exact gR _ | refine gO ?_ _ | refine gA ?_ _ | refine gD ?_ | refine gN ?_ _))), rt.set 2 (tailE E s2), by rw [List.length_set]; exact hrl, Hset.out.grew (by (repeat (first | exact gR _ | refine gO ?_ _ | refine gA ?_ _ | refine gD ?_ | refine gN ?_ _))), fun j hj => by
              by_cases e : j = 2
              · rw [e, ge_set_same rt (by omega)]; rfl
              · rw [ge_set_other rt (Ne.symm e)]; exact Hall.out j (by omega)⟩
            case measure => (simp [intOf] <;> omega)
          · have Hrt : Hid (ge rt 0 = tailE E 0 ∧ ge rt 1 = tailE E s1 ∧ ge rt 2 = tailE E s2) := Lib.hid ⟨Hall.out 0 (by omega), Hall.out 1 (by omega), Hall.out 2 (by omega)⟩
            go_wp2
            go_ret
            refine ⟨HwB0.out.trans (Hgr2.out.trans (by (repeat (first | exact gR _ | refine gO ?_ _ | refine gA ?_ _ | refine gD ?_ | refine gN ?_ _)))), g, gf, rfl, by omega, ?_⟩
            have hPf := HPr2.out.grew (show Grew wr _ by (repeat (first | exact gR _ | refine gO ?_ _ | refine gA ?_ _ | refine gD ?_ | refine gN ?_ _)))
            refine ⟨hPf.c0, hPf.c1, hPf.c2, hPf.c3, (hPf.s 0 (by omega)).1, ?_, ?_, ?_, ?_, ?_, ?_⟩
            · rw [Hs1.out]; exact (hPf.s 1 (by omega)).1
            · rw [Hs2.out]; exact (hPf.s 2 (by omega)).1
            · have := (hPf.r 0 (by omega)).1
              rw [Hrt.out.1] at this
              exact this
            · have := (hPf.r 1 (by omega)).1
              rw [Hrt.out.2.1] at this
              have e : tailE E s1 = tailE E 1 := by
                rw [← Hs1.out]
                show tailE E (sucF A (oth 0)) = _
                rw [show oth 0 = 1 by decide]
                exact suc_tail HV.out (by omega) (by omega)
              rw [← e]; exact this
            · have := (hPf.r 2 (by omega)).1
              rw [Hrt.out.2.2] at this
              rw [Hs2.out]
              exact this
            · have hfl : (faceL A.length E A).length = 2 * E.length := tab_length _ _
              refine ⟨by omega, fun x hx => ?_, gf, 0, fun _ => ⟨rfl, hPf.lf⟩, fun i hi => ?_⟩
              · obtain ⟨d, hd, rfl⟩ := mem_ge.1 hx
                rw [hfl] at hd
                unfold faceL
                rw [ge_tab _ hd]
                have h2 : fcI (facesO A.length E A) d ≤ (facesO A.length E A).length := List.findIdx_le_length
                rw [HFe.out] at h2 ⊢
                omega
              · rw [Nat.zero_add]
                exact (hPf.f i (by rw [hfl] at hi; exact hi)).1
end Go.Proofs.YtlealdicoceekaaDoor

/- Ends, Check and Contour of the reference. -/
namespace Go.Proofs.YtlealdicoceekaaDoor
open Go.RowKit
attribute [local go_sem ↓] Go.wp_at_zero Go.wp_at_succ

set_option maxHeartbeats 4000000 in
theorem ends_r (N : Int) (pE pA : Option Addr) (nE nA cE cA : Nat) (E : List (Int × Int)) (A : List (List Int)) (w : World) (hR : RotAt w pE pA E A) (hT : trgB N E A = true) (hnE : E.length = nE) (hnA : A.length = nA) :
    Calls Tryd.prog 48 #[.agg #[.int .i64 N, .slice pE nE cE, .slice pA nA cA]] w fun e w' => e = .returned (.tuple #[.int .i64 (tailF N E A 0), .int .i64 (tailF N E A 1), .int .i64 (thirdR N E A)]) ∧ Grew w w' := by
  subst hnE hnA
  have HR := Lib.hid hR
  have he1 := hR.e1
  have hV := trg_valid hT
  have hE := trg_pos hT
  obtain ⟨d, hd⟩ : ∃ d, nextF N E A 0 = d := ⟨_, rfl⟩
  have hdr : 0 ≤ d ∧ d < 2 * E.length := by
    rw [← hd]; unfold nextF; rw [if_pos ⟨vRotB_iff.2 hV, by omega, by omega⟩]
    exact nxF_in hV (e := 0) (by omega) (by omega)
  obtain ⟨d, rfl⟩ := Int.eq_ofNat_of_zero_le hdr.1
  obtain ⟨o0, o1⟩ := oth_in (d := (d : Int)) (M := E.length) (by omega) (by omega)
  obtain ⟨o, ho⟩ : ∃ o : Nat, oth d = (o : Int) := ⟨(oth d).toNat, by omega⟩
  have hx2 : bits BinOp.xor IntKind.i64 (d : Int) 1 = (o : Int) := by rw [← ho]; exact xor_small d (by omega)
  obtain ⟨a, ha⟩ : ∃ a, tailF N E A 0 = a := ⟨_, rfl⟩
  obtain ⟨b, hb⟩ : ∃ b, tailF N E A 1 = b := ⟨_, rfl⟩
  obtain ⟨c, hc⟩ : ∃ c, tailF N E A o = c := ⟨_, rfl⟩
  have Hc : Hid (thirdR N E A = c) := Lib.hid (by unfold thirdR; rw [hd, ho, hc])
  have H0 : Hid (∀ W1, Grew w W1 → Calls Tryd.prog 51 #[.agg #[.int .i64 N, .slice pE E.length cE, .slice pA A.length cA], .int .i64 0] W1 fun e w' => e = .returned (.int .i64 (d : Int)) ∧ Grew W1 w') := Lib.hid (fun W1 h => by rw [← hd]; exact nextr_l _ _ _ _ _ _ _ _ _ _ _ (HR.out.grew h) rfl rfl)
  have H1 : Hid (∀ W1, Grew w W1 → Calls Tryd.prog 73 #[.agg #[.int .i64 N, .slice pE E.length cE, .slice pA A.length cA], .int .i64 0] W1 fun e w' => e = .returned (.int .i64 a) ∧ Grew W1 w') := Lib.hid (fun W1 h => by rw [← ha]; exact tailr_l _ _ _ _ _ _ _ _ _ _ _ (HR.out.grew h) rfl rfl)
  have H2 : Hid (∀ W1, Grew w W1 → Calls Tryd.prog 73 #[.agg #[.int .i64 N, .slice pE E.length cE, .slice pA A.length cA], .int .i64 1] W1 fun e w' => e = .returned (.int .i64 b) ∧ Grew W1 w') := Lib.hid (fun W1 h => by rw [← hb]; exact tailr_l _ _ _ _ _ _ _ _ _ _ _ (HR.out.grew h) rfl rfl)
  have H3 : Hid (∀ W1, Grew w W1 → Calls Tryd.prog 73 #[.agg #[.int .i64 N, .slice pE E.length cE, .slice pA A.length cA], .int .i64 (o : Int)] W1 fun e w' => e = .returned (.int .i64 c) ∧ Grew W1 w') := Lib.hid (fun W1 h => by rw [← hc]; exact tailr_l _ _ _ _ _ _ _ _ _ _ _ (HR.out.grew h) rfl rfl)
  rw [ha, hb, Hc.out]
  clear hR hV hE hd hdr o0 o1 ho ha hb hc
  go_enter Tryd.func48, Tryd.ntmps48
  go_wp2_with ((go_at_call 51; apply Calls.mono; (with_reducible exact H0.out _ (by (repeat (first | exact gR _ | refine gO ?_ _ | refine gA ?_ _ | refine gD ?_ | refine gN ?_ _)))); rintro e w' ⟨rfl, x, rfl⟩))
  refine wp_region_over (by kernel_rfl) (by kernel_rfl) ?_; (repeat (go_big_quiet_step ((first | (go_at_call 73; apply over_call; with_reducible exact H1.out _ (by (repeat (first | exact gR _ | refine gO ?_ _ | refine gA ?_ _ | refine gD ?_ | refine gN ?_ _)))) | (go_at_call 73; apply over_call; with_reducible exact H2.out _ (by (repeat (first | exact gR _ | refine gO ?_ _ | refine gA ?_ _ | refine gD ?_ | refine gN ?_ _)))) | (go_at_call 73; apply over_call; with_reducible exact H3.out _ (by (repeat (first | exact gR _ | refine gO ?_ _ | refine gA ?_ _ | refine gD ?_ | refine gN ?_ _)))))))); refine wpQuiet_nil ?_; rintro _ ⟨x, rfl⟩
  go_wp2
  go_ret3
  exact ⟨rfl, by (repeat (first | exact gR _ | refine gO ?_ _ | refine gA ?_ _ | refine gD ?_ | refine gN ?_ _))⟩

end Go.Proofs.YtlealdicoceekaaDoor

/- The reference: Roots, place, dart. -/
namespace Go.Proofs.YtlealdicoceekaaDoor
open Go.RowKit
attribute [local go_sem ↓] Go.wp_at_zero Go.wp_at_succ

/-- The first dart from a to b, or -1. -/
def dartF : List (Int × Int) → Int → Int → Int
  | [], _, _ => -1
  | e :: E, a, b => if e.1 = a ∧ e.2 = b then 0 else if e.1 = b ∧ e.2 = a then 1 else if dartF E a b = -1 then -1 else dartF E a b + 2
theorem dartF_none {a b : Int} : ∀ {E : List (Int × Int)}, (∀ i, i < E.length → ¬ ((pr E i).1 = a ∧ (pr E i).2 = b) ∧ ¬ ((pr E i).1 = b ∧ (pr E i).2 = a)) → dartF E a b = -1
  | [], _ => rfl
  | e :: E, h => by
    have h0 := h 0 (by simp)
    have e0 : pr (e :: E) 0 = e := rfl
    rw [e0] at h0
    unfold dartF
    rw [if_neg h0.1, if_neg h0.2, if_pos (dartF_none (fun i hi => by have := h (i + 1) (by simpa using hi); exact this))]
theorem dartF_at {a b : Int} : ∀ {E : List (Int × Int)} (k : Nat), k < E.length → (∀ i, i < k → ¬ ((pr E i).1 = a ∧ (pr E i).2 = b) ∧ ¬ ((pr E i).1 = b ∧ (pr E i).2 = a)) →
    ((pr E k).1 = a ∧ (pr E k).2 = b → dartF E a b = 2 * (k : Int)) ∧ (¬ ((pr E k).1 = a ∧ (pr E k).2 = b) → (pr E k).1 = b ∧ (pr E k).2 = a → dartF E a b = 2 * (k : Int) + 1)
  | [], k, h, _ => by simp at h
  | e :: E, 0, _, _ => by
    have e0 : pr (e :: E) 0 = e := rfl
    rw [e0]
    refine ⟨fun h => ?_, fun h1 h2 => ?_⟩
    · unfold dartF; rw [if_pos h]; rfl
    · unfold dartF; rw [if_neg h1, if_pos h2]; rfl
  | e :: E, k + 1, hk, h => by
    have e0 : pr (e :: E) 0 = e := rfl
    have h0 := h 0 (by omega)
    rw [e0] at h0
    obtain ⟨i1, i2⟩ := dartF_at (a := a) (b := b) (E := E) k (by simpa using hk) (fun i hi => by have := h (i + 1) (by omega); exact this)
    have e1 : pr (e :: E) (k + 1) = pr E k := rfl
    rw [e1]
    refine ⟨fun h1 => ?_, fun h1 h2 => ?_⟩
    · unfold dartF; rw [if_neg h0.1, if_neg h0.2, i1 h1, if_neg (by omega)]; push_cast; omega
    · unfold dartF; rw [if_neg h0.1, if_neg h0.2, i2 h1 h2, if_neg (by omega)]; push_cast; omega
end Go.Proofs.YtlealdicoceekaaDoor

/- The reference: vertex. -/
namespace Go.Proofs.YtlealdicoceekaaDoor
open Go.RowKit
attribute [local go_sem ↓] Go.wp_at_zero Go.wp_at_succ

end Go.Proofs.YtlealdicoceekaaDoor

/- The reference: Check. -/
namespace Go.Proofs.YtlealdicoceekaaDoor
open Go.RowKit
attribute [local go_sem ↓] Go.wp_at_zero Go.wp_at_succ

end Go.Proofs.YtlealdicoceekaaDoor

/- Tails of the reference, whose answer lies in a fresh block (printed by gen38.py from RotC). -/
namespace Go.Proofs.YtlealdicoceekaaDoor
open Go.RowKit
attribute [local go_sem ↓] Go.wp_at_zero Go.wp_at_succ
end Go.Proofs.YtlealdicoceekaaDoor

/- Schnyder labelings, plain: taking vertices off the outside. -/
namespace Go.Proofs.YtlealdicoceekaaDoor

theorem split_uniq {b : Int} : ∀ {X X' G G' : List Int}, X ++ b :: G = X' ++ b :: G' → b ∉ X → b ∉ X' → X = X' ∧ G = G'
  | [], [], _, _, h, _, _ => by simpa using h
  | [], x :: X', _, _, h, _, h2 => by
    exfalso
    rw [List.nil_append, List.cons_append] at h
    exact h2 (by rw [(List.cons.inj h).1]; simp)
  | x :: X, [], _, _, h, h1, _ => by
    exfalso
    rw [List.nil_append, List.cons_append] at h
    exact h1 (by rw [← (List.cons.inj h).1]; simp)
  | x :: X, x' :: X', G, G', h, h1, h2 => by
    rw [List.cons_append, List.cons_append] at h
    obtain ⟨e1, e2⟩ := List.cons.inj h
    obtain ⟨i1, i2⟩ := split_uniq e2 (fun k => h1 (List.mem_cons_of_mem _ k)) (fun k => h2 (List.mem_cons_of_mem _ k))
    exact ⟨by rw [e1, i1], i2⟩
/-- Somewhere an edge to the left is followed by an edge to the right. -/
theorem peak_ex {L : List Int} : ∀ (l : List Int) (x : Int), (∀ d ∈ x :: l, lab L d = 1 ∨ lab L (oth d) = 0) → lab L (oth x) = 0 → (∀ z, (x :: l).getLast? = some z → lab L z = 1 ∧ lab L (oth z) ≠ 0) → ∃ P a b Q, x :: l = P ++ a :: b :: Q ∧ lab L (oth a) = 0 ∧ lab L b = 1
  | [], x, h, h0, hl => by
    have := hl x rfl
    omega
  | y :: l, x, h, h0, hl => by
    by_cases hy : lab L y = 1
    · exact ⟨[], x, y, l, rfl, h0, hy⟩
    · have hy0 : lab L (oth y) = 0 := (h y (by simp)).resolve_left hy
      obtain ⟨P, a, b, Q, e, h1, h2⟩ := peak_ex l y (fun d hd => h d (List.mem_cons_of_mem _ hd)) hy0 (fun z hz => hl z (by rw [← hz]; rfl))
      exact ⟨x :: P, a, b, Q, by rw [e]; rfl, h1, h2⟩
section
variable {N : Int} {E : List (Int × Int)} {A : List (List Int)} {L : List Int}
theorem rts_eq : rts E A = [tailE E 0, tailE E 1, tailE E (nxF A (nxF A 0))] := rfl
/-- The labels on the contour: every edge leads to the left with 0 or to the right with 1; the parent in the tree 2 is gone. -/
structure Lev (E : List (Int × Int)) (A : List (List Int)) (L : List Int) (go : Int → Prop) (D : List Int) : Prop where
  p1 : ∀ d ∈ D, d ≠ 1 → lab L d = 1 ∨ lab L (oth d) = 0
  p2 : ∀ d ∈ D, tailE E d ∉ rts E A → ∃ g, isD E g ∧ tailE E g = tailE E d ∧ lab L g = 2 ∧ go (tailE E (oth g))
  vn : go (tailE E (nxF A (nxF A 0)))
/-- The row of a vertex whose left edge has the label 0 and whose right one has 1. -/
theorem lab_row (hT : trgB N E A = true) (hS : Sch E A L) {a b : Int} {X G p q : List Int} (hb : isD E b) (hi : tailE E b ∉ rts E A) (hr : rowOf A (tailE E b).toNat = p ++ q) (hl : q ++ p = oth a :: (X ++ b :: G)) (h0 : lab L (oth a) = 0) (h1 : lab L b = 1) :
    (∀ d ∈ X, lab L d = -1 ∧ lab L (oth d) = 2) ∧ ∃ I0 o2 I1, G = I0 ++ o2 :: I1 ∧ lab L o2 = 2 ∧ (∀ d ∈ I0, lab L d = -1 ∧ lab L (oth d) = 0) ∧ ∀ d ∈ I1, lab L d = -1 ∧ lab L (oth d) = 1 := by
  have hV := trg_valid hT
  obtain ⟨hc, hn, hm⟩ := rot_row hV hb hr hl (by simp)
  obtain ⟨o0, I2, o1, I0, o2, I1, he, l0, l1, l2, hI2, hI0, hI1⟩ := trn_at hT hS hb hi hr hl h0
  obtain ⟨e0, e1⟩ := List.cons.inj he
  have ho1 := (hm o1).1 (by rw [he]; simp)
  have hbo : b = o1 := trn_uniq hT hS hb ho1.1 hi ho1.2 (by omega) (by rw [l1, h1])
  subst hbo
  have hn2 := hn
  rw [List.nodup_cons, List.nodup_append] at hn
  have hn3 := hn2
  rw [he, List.nodup_cons, List.nodup_append] at hn3
  obtain ⟨s1, s2⟩ := split_uniq e1 (fun k => hn.2.2.2 b k b (by simp) rfl) (fun k => hn3.2.2.2 b k b (by simp) rfl)
  exact ⟨by rw [s1]; exact hI2, I0, o2, I1, s2, l2, hI0, hI1⟩
theorem lev_inner {go : Int → Prop} {L1 M : List Int} {a b f : Int} (hP : Pee E A go (L1 ++ a :: b :: f :: M)) (hL : Lev E A L go (L1 ++ a :: b :: f :: M)) : tailE E b ∉ rts E A := by
  obtain ⟨_, _, h0, h1, _, _⟩ := ends_in hP
  rw [rts_eq]
  simp only [List.mem_cons, List.not_mem_nil, or_false]
  rintro (k | k | k)
  · exact h0 k.symm
  · exact h1 k.symm
  · exact hP.ng b (by simp) (k ▸ hL.vn)
/-- An inner vertex that is not on the contour. -/
theorem new_inner {go : Int → Prop} {L1 M : List Int} {a b f u : Int} (hP : Pee E A go (L1 ++ a :: b :: f :: M)) (hvn : go (tailE E (nxF A (nxF A 0))) ∨ tailE E (nxF A (nxF A 0)) ∈ (L1 ++ a :: b :: f :: M).map (tailE E)) (h1 : ¬ go u) (h2 : u ∉ (L1 ++ a :: b :: f :: M).map (tailE E)) : u ∉ rts E A := by
  obtain ⟨m0, m1, _⟩ := ends_in hP
  rw [rts_eq]
  simp only [List.mem_cons, List.not_mem_nil, or_false]
  rintro (k | k | k)
  · exact h2 (k ▸ m0)
  · exact h2 (k ▸ m1)
  · rcases hvn with h | h
    · exact h1 (k ▸ h)
    · exact h2 (k ▸ h)
theorem lev_free (hT : trgB N E A = true) (hS : Sch E A L) {go : Int → Prop} {L1 M : List Int} {a b f : Int} (hP : Pee E A go (L1 ++ a :: b :: f :: M)) (hL : Lev E A L go (L1 ++ a :: b :: f :: M)) (h0 : lab L (oth a) = 0) (h1 : lab L b = 1) :
    ∀ d, isD E d → tailE E d = tailE E b → ∀ x, x ∈ L1 ∨ x ∈ M → tailE E (oth d) ≠ tailE E x := by
  intro d hd ht x hx he
  have hV := trg_valid hT
  have hi := lev_inner hP hL
  have hF := (Fans.app.1 hP.fans).2
  obtain ⟨hab, hbf, _⟩ := hF
  obtain ⟨ha, hb, hta, X, G, p, q, hr, hl, hX, hG⟩ := hab
  have htf := hbf.2.2.1
  obtain ⟨hc, hn, hm⟩ := rot_row hV hb hr hl (by simp)
  obtain ⟨hX2, _⟩ := lab_row hT hS hb hi hr hl h0 h1
  have hnd := hP.nd
  simp only [List.map_append, List.map_cons, List.nodup_append, List.nodup_cons, List.mem_cons, not_or] at hnd
  obtain ⟨n1, ⟨⟨n2, n3, n4⟩, ⟨n5, n6⟩, n7, n8⟩, n9⟩ := hnd
  have hxD : x ∈ L1 ++ a :: b :: f :: M := by rcases hx with k | k <;> simp [k]
  have hxa : tailE E x ≠ tailE E a := fun k => by
    rcases hx with h | h
    · exact n9 _ (mem_tails h) _ (Or.inl rfl) k
    · exact n4 (k ▸ mem_tails h)
  have hxf : tailE E x ≠ tailE E f := fun k => by
    rcases hx with h | h
    · exact n9 _ (mem_tails h) _ (Or.inr (Or.inr (Or.inl rfl))) k
    · exact n7 (k ▸ mem_tails h)
  have hdm : d = oth a ∨ d ∈ X ∨ d = b ∨ d ∈ G := by simpa using (hm d).2 ⟨hd, ht⟩
  rcases hdm with k | k | k | k
  · rw [k, oth_oth] at he; exact hxa he.symm
  · have hl2 := (hX2 d k).2
    by_cases hxr : tailE E x ∈ rts E A
    · have := hS.rt (oth d) hd.oth (by rw [he]; exact hxr)
      omega
    · obtain ⟨g, g1, g2, g3, g4⟩ := hL.p2 x hxD hxr
      have : g = oth d := trn_uniq hT hS g1 hd.oth (by rw [g2]; exact hxr) (by rw [he, g2]) (by omega) (by omega)
      rw [this, oth_oth, ht] at g4
      exact hP.ng b (by simp) g4
  · rw [k, htf] at he; exact hxf he.symm
  · exact hP.ng x hxD (he ▸ hG d k)
theorem lev_pick (hT : trgB N E A = true) (hS : Sch E A L) {go : Int → Prop} {D : List Int} (hP : Pee E A go D) (hL : Lev E A L go D) (hm : 3 ≤ D.length) : ∃ L1 a b f M, D = L1 ++ a :: b :: f :: M ∧ lab L (oth a) = 0 ∧ lab L b = 1 := by
  obtain ⟨D0, hD⟩ := hP.last
  have hn1 : ∀ d ∈ D0, d ≠ 1 := fun d hd k => by
    have := hP.nd
    rw [hD, List.map_append, List.nodup_append] at this
    exact this.2.2 _ (mem_tails hd) (tailE E 1) (by simp) (by rw [k])
  cases hD0 : D0 with
  | nil => rw [hD, hD0] at hm; simp at hm
  | cons x l =>
    rw [hD0] at hD hn1
    have h1 : ∀ d ∈ x :: l, lab L d = 1 ∨ lab L (oth d) = 0 := fun d hd => hL.p1 d (by rw [hD]; exact List.mem_append_left _ hd) (hn1 d hd)
    have hF := hP.fans
    rw [hD] at hF
    have hF1 : Fan E A go 1 x := hF.1
    have hx0 : tailE E x = tailE E 0 := by have := hF1.2.2.1; rw [oth_1] at this; exact this.symm
    have hxl : lab L x = -1 := hS.rt x hF1.2.1 (by rw [hx0, rts_eq]; simp)
    have hxo : lab L (oth x) = 0 := (h1 x (by simp)).resolve_left (by omega)
    obtain ⟨P, a, b, Q, he, g0, g1⟩ := peak_ex l x h1 hxo (fun z hz => by
      obtain ⟨W, z', hW⟩ := snoc_ex x l
      have hzz : z' = z := by rw [hW] at hz; simpa using hz
      subst hzz
      have hzm : z' ∈ x :: l := by rw [hW]; simp
      have hfz : Fan E A go z' 1 := by
        have h2 : Fans (Fan E A go) 1 ((x :: l) ++ [1]) := hF
        have h3 : (1 : Int) :: (x :: l) = (1 :: W) ++ [z'] := by rw [hW]; rfl
        exact ((Fans.snoc h3).1 h2).2
      have ho : lab L (oth z') = -1 := hS.rt (oth z') hfz.1.oth (by rw [hfz.2.2.1, rts_eq]; simp)
      exact ⟨(h1 z' hzm).resolve_right (by omega), by omega⟩)
    rw [he] at hD
    have hD' : D = P ++ a :: b :: (Q ++ [1]) := by rw [hD]; simp
    obtain ⟨f, M, hfM⟩ : ∃ f M, Q ++ [1] = f :: M := by
      cases Q with
      | nil => exact ⟨1, [], rfl⟩
      | cons f Q => exact ⟨f, Q ++ [1], rfl⟩
    rw [hfM] at hD'
    exact ⟨P, a, b, f, M, hD', g0, g1⟩
/-- The new contour's labels: at a new vertex. -/
theorem lev_y (hT : trgB N E A = true) (hS : Sch E A L) {d : Int} (hd : isD E d) (h2 : lab L (oth d) = 2) (hi : tailE E (oth d) ∉ rts E A) : lab L (thd A d) = 1 ∨ lab L (oth (thd A d)) = 0 := by
  obtain ⟨y1, y2, _⟩ := thd_ok hT hd
  exact trn_pred hT hS hd.oth hi y1 y2 (Or.inl h2)
theorem lev_take (hT : trgB N E A = true) (hS : Sch E A L) {go go' : Int → Prop} {L1 M : List Int} {a b f : Int} (hP : Pee E A go (L1 ++ a :: b :: f :: M)) (hL : Lev E A L go (L1 ++ a :: b :: f :: M)) (h0 : lab L (oth a) = 0) (h1 : lab L b = 1)
    {X G p q : List Int} (hSp : Spot E A go L1 a b f M X G p q) (hgo : ∀ x, go' x ↔ go x ∨ x = tailE E b) (hne : L1 ≠ [] ∨ M ≠ [] ∨ X ≠ []) : Lev E A L go' (L1 ++ ((oth a :: X).map (thd A) ++ f :: M)) := by
  have hV := trg_valid hT
  have hi := lev_inner hP hL
  obtain ⟨hc, hn, hm⟩ := rot_row hV hSp.db hSp.row hSp.rot (by simp)
  have hc' : Ch (sucF A) (oth a) (X ++ b :: G) (oth a) := hc
  obtain ⟨hX2, _⟩ := lab_row hT hS hSp.db hi hSp.row hSp.rot h0 h1
  have hXi : ∀ d ∈ X, tailE E (oth d) ∉ rts E A := fun d hd => new_inner hP (Or.inl hL.vn) (hSp.ins d hd).1 (hSp.ins d hd).2
  have hXd : ∀ d ∈ X, isD E d ∧ tailE E d = tailE E b := fun d hd => (hm d).1 (by simp [hd])
  have hoa : isD E (oth a) := hSp.da.oth
  refine ⟨fun y hy hy1 => ?_, fun y hy hyi => ?_, (hgo _).2 (Or.inl hL.vn)⟩
  · rcases List.mem_append.1 hy with hy | hy
    · exact hL.p1 y (by simp [hy]) hy1
    rcases List.mem_append.1 hy with hy | hy
    · rw [List.map_cons, List.mem_cons] at hy
      rcases hy with rfl | hy
      · -- the first of the new ones
        obtain ⟨y1, y2, y3, y4, y5⟩ := thd_ok hT hoa
        rw [oth_oth] at y2 y4
        by_cases hai : tailE E a ∈ rts E A
        · cases hXe : X with
          | cons x X' =>
            rw [hXe] at hc'
            rw [hc'.1] at y3
            have hxm : x ∈ X := by rw [hXe]; simp
            have := trn_succ hT hS (hXd x hxm).1.oth (hXi x hxm) y3 (Or.inl (hX2 x hxm).2)
            rwa [oth_oth] at this
          | nil =>
            rw [hXe] at hc'
            rw [hc'.1] at y3
            by_cases hfi : tailE E f ∈ rts E A
            · exfalso
              have hends := ends_in hP
              have hnd := hP.nd
              simp only [List.map_append, List.map_cons, List.nodup_append, List.nodup_cons, List.mem_cons, not_or] at hnd
              obtain ⟨n1, ⟨⟨n2, n3, n4⟩, ⟨n5, n6⟩, n7, n8⟩, n9⟩ := hnd
              have hnvn : ∀ d ∈ L1 ++ a :: b :: f :: M, tailE E d ≠ tailE E (nxF A (nxF A 0)) := fun d hd k => hP.ng d hd (k ▸ hL.vn)
              have h1m : (1 : Int) ∈ f :: M := by
                cases L1 with
                | nil => exact (pee_closed (x := a) (P := [b]) hP).2.2.1
                | cons l L1 => exact (pee_closed (x := l) (P := L1 ++ [a, b]) (by simpa using hP)).2.2.1
              rw [rts_eq] at hai hfi
              simp only [List.mem_cons, List.not_mem_nil, or_false] at hai hfi
              have ha0 : tailE E a = tailE E 0 := by
                rcases hai with k | k | k
                · exact k
                · exfalso
                  rcases List.mem_cons.1 h1m with e | e
                  · exact n3 (by rw [k, e])
                  · exact n4 (k ▸ mem_tails e)
                · exact absurd k (hnvn a (by simp))
              have hL1 : L1 = [] := by
                cases L1 with
                | nil => rfl
                | cons l L1 =>
                  exfalso
                  have hF := hP.fans
                  have hF1 : Fan E A go 1 l := hF.1
                  have := hF1.2.2.1
                  rw [oth_1] at this
                  exact n9 _ (by simp) _ (Or.inl rfl) (this.symm.trans ha0.symm)
              have hf1 : tailE E f = tailE E 1 := by
                rcases hfi with k | k | k
                · exact absurd (ha0.trans k.symm) n3
                · exact k
                · exact absurd k (hnvn f (by simp))
              have hM : M = [] := by
                apply Classical.byContradiction
                intro hMne
                have h1M : (1 : Int) ∈ M := by
                  cases L1 with
                  | nil => exact (pee_closed (x := a) (P := [b]) hP).2.2.2 hMne
                  | cons l L1 => exact (pee_closed (x := l) (P := L1 ++ [a, b]) (by simpa using hP)).2.2.2 hMne
                exact n7 (hf1 ▸ mem_tails h1M)
              rcases hne with k | k | k <;> contradiction
            · have hlb : lab L (oth b) = -1 := by
                have := hS.one b hSp.db (fun k => hi k.1)
                have h3 : lab L b ≠ -1 := by omega
                by_cases e : lab L (oth b) = -1
                · exact e
                · exact absurd (this.2 e) h3
              have := trn_succ hT hS hSp.db.oth (by rw [hSp.tf]; exact hfi) y3 (Or.inr ⟨hlb, by rw [oth_oth]; exact h1⟩)
              rwa [oth_oth] at this
        · have hla : lab L a = -1 := by
            have := hS.one (oth a) hoa (fun k => hi (by rw [← hSp.ta]; exact k.1))
            rw [oth_oth] at this
            have h3 : lab L (oth a) ≠ -1 := by omega
            by_cases e : lab L a = -1
            · exact e
            · exact absurd (this.2 e) h3
          exact trn_pred hT hS hSp.da hai y1 y2 (Or.inr ⟨hla, h0⟩)
      · obtain ⟨d, hd, rfl⟩ := List.mem_map.1 hy
        exact lev_y hT hS (hXd d hd).1 (hX2 d hd).2 (hXi d hd)
    · exact hL.p1 y (by rcases List.mem_cons.1 hy with k | k <;> simp [k]) hy1
  · have hold : ∀ x ∈ L1 ++ a :: b :: f :: M, tailE E x ∉ rts E A → ∃ g, isD E g ∧ tailE E g = tailE E x ∧ lab L g = 2 ∧ go' (tailE E (oth g)) := fun x hx hxi => by
      obtain ⟨g, g1, g2, g3, g4⟩ := hL.p2 x hx hxi
      exact ⟨g, g1, g2, g3, (hgo _).2 (Or.inl g4)⟩
    rcases List.mem_append.1 hy with hy | hy
    · exact hold y (by simp [hy]) hyi
    rcases List.mem_append.1 hy with hy | hy
    · rw [List.map_cons, List.mem_cons] at hy
      rcases hy with rfl | hy
      · have e : tailE E (thd A (oth a)) = tailE E a := by rw [(thd_ok hT hoa).2.2.2.1, oth_oth]
        rw [e] at hyi ⊢
        exact hold a (by simp) hyi
      · obtain ⟨d, hd, rfl⟩ := List.mem_map.1 hy
        exact ⟨oth d, (hXd d hd).1.oth, ((thd_ok hT (hXd d hd).1).2.2.2.1).symm, (hX2 d hd).2, by rw [oth_oth, (hXd d hd).2]; exact (hgo _).2 (Or.inr rfl)⟩
    · exact hold y (by rcases List.mem_cons.1 hy with k | k <;> simp [k]) hyi
end
end Go.Proofs.YtlealdicoceekaaDoor

/- Schnyder labelings, plain: no tree has a cycle. -/
namespace Go.Proofs.YtlealdicoceekaaDoor

section
variable {N : Int} {E : List (Int × Int)} {A : List (List Int)} {L : List Int}
/-- The vertices R, taken off in this order behind ord: parents in the trees 0 and 1 stay, the parent in the tree 2 is gone. -/
structure Ran (E : List (Int × Int)) (A : List (List Int)) (L ord R : List Int) : Prop where
  nd : (ord ++ R).Nodup
  rng : ∀ u ∈ ord ++ R, 0 ≤ u ∧ u < (A.length : Int)
  v1 : tailE E 0 ∉ ord ++ R
  v2 : tailE E 1 ∉ ord ++ R
  all : ∀ u, 0 ≤ u → u < (A.length : Int) → u = tailE E 0 ∨ u = tailE E 1 ∨ u ∈ ord ++ R
  st : ∀ R1 w R2, R = R1 ++ w :: R2 → ∀ d, isD E d → tailE E d = w → (lab L d = 0 ∨ lab L d = 1 → tailE E (oth d) ∉ ord ++ R1) ∧ (lab L d = 2 → tailE E (oth d) ∈ ord ++ R1)
theorem Ran.back (hT : trgB N E A = true) (hS : Sch E A L) {ord R L1 M : List Int} {a b f : Int} (hP : Pee E A (· ∈ ord) (L1 ++ a :: b :: f :: M)) (hL : Lev E A L (· ∈ ord) (L1 ++ a :: b :: f :: M)) (h0 : lab L (oth a) = 0) (h1 : lab L b = 1)
    {X G p q : List Int} (hSp : Spot E A (· ∈ ord) L1 a b f M X G p q) (hR : Ran E A L (ord ++ [tailE E b]) R) : Ran E A L ord (tailE E b :: R) := by
  have hV := trg_valid hT
  have hi := lev_inner hP hL
  have e : ord ++ tailE E b :: R = ord ++ [tailE E b] ++ R := by simp
  obtain ⟨r1, r2, r3, r4, r5, r6⟩ := hR
  refine ⟨by rw [e]; exact r1, by rw [e]; exact r2, by rw [e]; exact r3, by rw [e]; exact r4, by rw [e]; exact r5, fun R1 w R2 hRe d hd ht => ?_⟩
  cases R1 with
  | nil =>
    obtain ⟨hw, _⟩ := List.cons.inj hRe
    subst hw
    obtain ⟨_, I0, o2, I1, hG, l2, _, _⟩ := lab_row hT hS hSp.db hi hSp.row hSp.rot h0 h1
    obtain ⟨hc, hn, hm⟩ := rot_row hV hSp.db hSp.row hSp.rot (by simp)
    have hdi : tailE E d ∉ rts E A := by rw [ht]; exact hi
    rw [List.append_nil]
    refine ⟨fun hl => ?_, fun hl => ?_⟩
    · rcases hl with hl | hl
      · have : d = oth a := trn_uniq hT hS hd hSp.da.oth hdi (hSp.ta.trans ht.symm) (by omega) (by omega)
        rw [this, oth_oth]
        exact hP.ng a (by simp)
      · have : d = b := trn_uniq hT hS hd hSp.db hdi ht.symm (by omega) (by omega)
        rw [this, hSp.tf]
        exact hP.ng f (by simp)
    · have ho := (hm o2).1 (by rw [hG]; simp)
      have : d = o2 := trn_uniq hT hS hd ho.1 hdi (ho.2.trans ht.symm) (by omega) (by omega)
      rw [this]
      exact hSp.out o2 (by rw [hG]; simp)
  | cons c R1 =>
    rw [List.cons_append] at hRe
    obtain ⟨hw, hRe2⟩ := List.cons.inj hRe
    subst hw
    have := r6 R1 w R2 hRe2 d hd ht
    rw [show ord ++ [tailE E b] ++ R1 = ord ++ tailE E b :: R1 by simp] at this
    exact this
theorem Ran.fin {ord : List Int} {a b : Int} (hT : trgB N E A = true) (hP : Pee E A (· ∈ ord) [a, b, 1]) {G p q : List Int} (hSp : Spot E A (· ∈ ord) [] a b 1 [] [] G p q) (hn : (ord ++ [tailE E b]).Nodup) (hr : ∀ u ∈ ord ++ [tailE E b], 0 ≤ u ∧ u < (A.length : Int)) : Ran E A L (ord ++ [tailE E b]) [] := by
  have hends := ends_in (L1 := []) (M := []) hP
  have hta := hends.2.2.2.2.1 rfl
  have hall := fin_all hT hP hSp
  refine ⟨by rw [List.append_nil]; exact hn, by rw [List.append_nil]; exact hr, ?_, ?_, ?_, fun R1 w R2 h => ?_⟩
  · rw [List.append_nil, List.mem_append, List.mem_singleton]
    rintro (k | k)
    · rw [← hta] at k; exact hP.ng a (by simp) k
    · exact hends.2.2.1 k
  · rw [List.append_nil, List.mem_append, List.mem_singleton]
    rintro (k | k)
    · exact hP.ng 1 (by simp) k
    · exact hends.2.2.2.1 k
  · intro u u0 u1
    rw [List.append_nil, List.mem_append, List.mem_singleton]
    rcases hall u u0 u1 with k | k | k | k
    · exact Or.inr (Or.inr (Or.inl k))
    · exact Or.inl (k.trans hta)
    · exact Or.inr (Or.inr (Or.inr k))
    · exact Or.inr (Or.inl k)
  · have := congrArg List.length h
    simp at this
theorem sch_loop (hT : trgB N E A = true) (hS : Sch E A L) : ∀ (n : Nat) {D ord : List Int}, Pee E A (· ∈ ord) D → Lev E A L (· ∈ ord) D → 3 ≤ D.length → ord.Nodup → (∀ u ∈ ord, 0 ≤ u ∧ u < (A.length : Int)) → A.length ≤ ord.length + n → ∃ R, Ran E A L ord R := by
  intro n
  induction n with
  | zero =>
    intro D ord hP _ hm hn hr hl
    exfalso
    have hV := trg_valid hT
    obtain ⟨L, hL⟩ := hP.last
    have h1 : (1 : Int) ∈ D := by rw [hL]; simp
    have := nodup_len (l := ord ++ [tailE E 1]) (n := A.length) (List.nodup_append.2 ⟨hn, by simp, fun a ha b hb e => by rw [List.mem_singleton.1 hb] at e; exact hP.ng 1 h1 (e ▸ ha)⟩) (fun u hu => by
      rcases List.mem_append.1 hu with k | k
      · exact hr u k
      · rw [List.mem_singleton.1 k]; exact head_in hV (dart01 hT).2)
    simp at this
    omega
  | succ n ih =>
    intro D ord hP hLv hm hn hr hl
    have hV := trg_valid hT
    obtain ⟨L1, a, b, f, M, rfl, h0, h1⟩ := lev_pick hT hS hP hLv hm
    have hfr := lev_free hT hS hP hLv h0 h1
    obtain ⟨X, G, p, q, hSp⟩ := spot_ex hT hP hfr
    have hbo : tailE E b ∉ ord := hP.ng b (by simp)
    have hn' : (ord ++ [tailE E b]).Nodup := List.nodup_append.2 ⟨hn, by simp, fun x hx y hy k => by rw [List.mem_singleton.1 hy] at k; exact hbo (k ▸ hx)⟩
    have hr' : ∀ u ∈ ord ++ [tailE E b], 0 ≤ u ∧ u < (A.length : Int) := fun u hu => by
      rcases List.mem_append.1 hu with k | k
      · exact hr u k
      · rw [List.mem_singleton.1 k]; exact head_in hV hSp.db
    by_cases hne : L1 ≠ [] ∨ M ≠ [] ∨ X ≠ []
    · have hgo : ∀ x, x ∈ ord ++ [tailE E b] ↔ x ∈ ord ∨ x = tailE E b := fun x => by simp
      have hP' := pee_take (go' := fun x => x ∈ ord ++ [tailE E b]) hT hP hfr hSp hgo hne
      have hL' := lev_take (go' := fun x => x ∈ ord ++ [tailE E b]) hT hS hP hLv h0 h1 hSp hgo hne
      have hm' : 3 ≤ (L1 ++ ((oth a :: X).map (thd A) ++ f :: M)).length := by
        simp only [List.length_append, List.length_cons, List.length_map]
        rcases hne with k | k | k <;> have := List.length_pos_iff.2 k <;> omega
      obtain ⟨R, hR⟩ := ih hP' hL' hm' hn' hr' (by rw [List.length_append, List.length_singleton]; omega)
      exact ⟨tailE E b :: R, hR.back hT hS hP hLv h0 h1 hSp⟩
    · simp only [not_or, Classical.not_not] at hne
      obtain ⟨rfl, rfl, rfl⟩ := hne
      obtain rfl : f = 1 := (ends_in hP).2.2.2.2.2 rfl
      exact ⟨[tailE E b], (Ran.fin hT hP hSp hn' hr').back hT hS hP hLv h0 h1 hSp⟩
theorem rts_nodup (hT : trgB N E A = true) : (rts E A).Nodup := by
  obtain ⟨hP, _⟩ := pee_start hT
  have hnd := hP.nd
  have hV := trg_valid hT
  obtain ⟨i0, i1⟩ := dart01 hT
  have hx : isD E (nxF A 0) := nxF_in hV i0.1 i0.2
  have hy : isD E (nxF A (nxF A 0)) := nxF_in hV hx.1 hx.2
  have ty : tailE E (nxF A (nxF A 0)) = tailE E (oth (nxF A 0)) := by
    show tailE E (sucF A (oth (nxF A 0))) = _
    rw [suc_tail hV hx.oth.1 hx.oth.2]
  have tz : tailE E (oth (nxF A (nxF A 0))) = tailE E 0 := by
    have h2 : tailE E (sucF A (oth (nxF A (nxF A 0)))) = tailE E 0 := by
      show tailE E (nxF A (nxF A (nxF A 0))) = _
      rw [tri_next hT]
    rw [suc_tail hV hy.oth.1 hy.oth.2] at h2
    exact h2
  simp only [List.map_cons, List.map_nil, tz, ← ty] at hnd
  rw [rts_eq]
  simp at hnd ⊢
  exact ⟨⟨hnd.1.2, hnd.1.1⟩, fun k => hnd.2 k.symm⟩
/-- The order in which a labeling lets the vertices be taken. -/
theorem sch_order (hT : trgB N E A = true) (hS : Sch E A L) : ∃ R, Ran E A L [tailE E (nxF A (nxF A 0))] R := by
  have hV := trg_valid hT
  obtain ⟨hP, hC⟩ := pee_start hT
  have hP' : Pee E A (· ∈ ([] : List Int)) ([] ++ oth (nxF A (nxF A 0)) :: oth (nxF A 0) :: 1 :: []) := hP
  obtain ⟨X, G, p, q, hSp⟩ := spot_ex hT hP' (fun d _ _ x hx => by rcases hx with k | k <;> cases k)
  obtain ⟨i0, i1⟩ := dart01 hT
  have hx : isD E (nxF A 0) := nxF_in hV i0.1 i0.2
  have hy : isD E (nxF A (nxF A 0)) := nxF_in hV hx.1 hx.2
  have ty : tailE E (oth (nxF A 0)) = tailE E (nxF A (nxF A 0)) := by
    show _ = tailE E (sucF A (oth (nxF A 0)))
    rw [suc_tail hV hx.oth.1 hx.oth.2]
  have tz : tailE E (oth (nxF A (nxF A 0))) = tailE E 0 := by
    have h2 : tailE E (sucF A (oth (nxF A (nxF A 0)))) = tailE E 0 := by
      show tailE E (nxF A (nxF A (nxF A 0))) = _
      rw [tri_next hT]
    rw [suc_tail hV hy.oth.1 hy.oth.2] at h2
    exact h2
  obtain ⟨hc, hn, hm⟩ := rot_row hV hSp.db hSp.row hSp.rot (by simp)
  have hc' : Ch (sucF A) (oth (oth (nxF A (nxF A 0)))) (X ++ oth (nxF A 0) :: G) (oth (oth (nxF A (nxF A 0)))) := hc
  have hvr : tailE E (oth (nxF A 0)) ∈ rts E A := by rw [ty, rts_eq]; simp
  have hnd := rts_nodup hT
  have hXd : ∀ d ∈ X, isD E d ∧ tailE E d = tailE E (oth (nxF A 0)) := fun d hd => (hm d).1 (by simp [hd])
  have hXi : ∀ d ∈ X, tailE E (oth d) ∉ rts E A := fun d hd => new_inner hP' (Or.inr (by rw [← ty]; simp)) (hSp.ins d hd).1 (hSp.ins d hd).2
  have hX2 : ∀ d ∈ X, lab L (oth d) = 2 := fun d hd => by
    have h1 := hS.rt d (hXd d hd).1 (by rw [(hXd d hd).2]; exact hvr)
    have h2 := hS.one d (hXd d hd).1 (fun k => hXi d hd k.2)
    have h3 := h2.1 h1
    have h4 := hS.rng (oth d) (hXd d hd).1.oth
    have h5 := hS.ld (oth d) (hXd d hd).1.oth (by rw [oth_oth, (hXd d hd).2]; exact hvr) (by omega)
    rw [oth_oth, (hXd d hd).2, ty] at h5
    rw [h5]
    have := idx_ge hnd (i := 2) (by rw [rts_eq]; simp)
    exact this
  have hbo := head_in hV hSp.db
  have hgo : ∀ x, x ∈ [tailE E (oth (nxF A 0))] ↔ x ∈ ([] : List Int) ∨ x = tailE E (oth (nxF A 0)) := fun x => by simp
  rw [← ty]
  by_cases hne : X = []
  · subst hne
    exact ⟨[], Ran.fin (ord := []) hT hP' hSp (by simp) (fun u hu => by rw [List.nil_append, List.mem_singleton] at hu; rw [hu]; exact hbo)⟩
  · have hne' : ([] : List Int) ≠ [] ∨ ([] : List Int) ≠ [] ∨ X ≠ [] := Or.inr (Or.inr hne)
    have hP2 := pee_take (go' := fun x => x ∈ [tailE E (oth (nxF A 0))]) hT hP' (fun d _ _ x hx => by rcases hx with k | k <;> cases k) hSp hgo hne'
    have hL2 : Lev E A L (fun x => x ∈ [tailE E (oth (nxF A 0))]) ([] ++ ((oth (oth (nxF A (nxF A 0))) :: X).map (thd A) ++ 1 :: [])) := by
      refine ⟨fun y hy1 hy2 => ?_, fun y hy1 hyi => ?_, by rw [← ty]; simp⟩
      · rw [List.nil_append, List.map_cons, List.cons_append, List.mem_cons, List.mem_append] at hy1
        rcases hy1 with rfl | hy1 | hy1
        · obtain ⟨y1, y2, y3, y4, y5⟩ := thd_ok hT hSp.da.oth
          cases hXe : X with
          | nil => exact absurd hXe hne
          | cons x X' =>
            rw [hXe] at hc'
            rw [hc'.1] at y3
            have hxm : x ∈ X := by rw [hXe]; simp
            have := trn_succ hT hS (hXd x hxm).1.oth (hXi x hxm) y3 (Or.inl (hX2 x hxm))
            rwa [oth_oth] at this
        · obtain ⟨d, hd, rfl⟩ := List.mem_map.1 hy1
          exact lev_y hT hS (hXd d hd).1 (hX2 d hd) (hXi d hd)
        · rw [List.mem_singleton] at hy1; exact absurd hy1 hy2
      · rw [List.nil_append, List.map_cons, List.cons_append, List.mem_cons, List.mem_append] at hy1
        rcases hy1 with rfl | hy1 | hy1
        · exact absurd (by rw [(thd_ok hT hSp.da.oth).2.2.2.1, oth_oth, tz, rts_eq]; simp) hyi
        · obtain ⟨d, hd, rfl⟩ := List.mem_map.1 hy1
          exact ⟨oth d, (hXd d hd).1.oth, ((thd_ok hT (hXd d hd).1).2.2.2.1).symm, hX2 d hd, by rw [oth_oth, (hXd d hd).2]; simp⟩
        · rw [List.mem_singleton] at hy1
          exact absurd (by rw [hy1, rts_eq]; simp) hyi
    exact sch_loop hT hS A.length hP2 hL2 (by simp only [List.length_append, List.length_cons, List.length_map, List.length_nil]; have := List.length_pos_iff.2 hne; omega) (by simp) (fun u hu => by rw [List.mem_singleton] at hu; rw [hu]; exact hbo) (by omega)
end
end Go.Proofs.YtlealdicoceekaaDoor

/- Schnyder labelings, plain: parents and paths; every path ends in a root. -/
namespace Go.Proofs.YtlealdicoceekaaDoor

/-- The dart to the parent in the tree t; the parent; the edges of the path with k steps at most; where it ends. -/
def upF (A : List (List Int)) (L : List Int) (t v : Int) : Int := ((rowOf A v.toNat).find? (fun d => lab L d == t)).getD (-1)
def parF (E : List (Int × Int)) (A : List (List Int)) (L : List Int) (t v : Int) : Int := tailE E (oth (upF A L t v))
def endF (E : List (Int × Int)) (A : List (List Int)) (L : List Int) (t : Int) : Nat → Int → Int
  | 0, v => v
  | k + 1, v => if v ∈ rts E A then v else endF E A L t k (parF E A L t v)
def pathW (E : List (Int × Int)) (A : List (List Int)) (L : List Int) (t : Int) : Nat → Int → List Int
  | 0, _ => []
  | k + 1, v => if v ∈ rts E A then [] else upF A L t v / 2 :: pathW E A L t k (parF E A L t v)
section
variable {N : Int} {E : List (Int × Int)} {A : List (List Int)} {L : List Int}
theorem endF_root {t v : Int} (h : v ∈ rts E A) : ∀ k, endF E A L t k v = v
  | 0 => rfl
  | k + 1 => by unfold endF; rw [if_pos h]
theorem endF_mono {t : Int} : ∀ {k : Nat} {v : Int}, endF E A L t k v ∈ rts E A → ∀ m, k ≤ m → endF E A L t m v ∈ rts E A
  | 0, v, h, m, _ => by rw [endF_root (show v ∈ rts E A from h)]; exact h
  | k + 1, v, h, m, hm => by
    obtain ⟨m, rfl⟩ : ∃ n, m = n + 1 := ⟨m - 1, by omega⟩
    unfold endF at h ⊢
    split
    · rename_i h1; exact h1
    · rename_i h1
      rw [if_neg h1] at h
      exact endF_mono h m (by omega)
theorem pathW_root {t v : Int} (h : v ∈ rts E A) : ∀ k, pathW E A L t k v = []
  | 0 => rfl
  | k + 1 => by unfold pathW; rw [if_pos h]
/-- All paths end in roots. -/
def Acy (E : List (Int × Int)) (A : List (List Int)) (L : List Int) : Prop := ∀ t v : Nat, t < 3 → v < A.length → endF E A L t A.length v ∈ rts E A
/-- The dart to the parent. -/
theorem up_ok (hT : trgB N E A = true) (hS : Sch E A L) {v t : Nat} (hv : v < A.length) (hi : (v : Int) ∉ rts E A) (ht : t < 3) : upF A L t v ∈ rowOf A v ∧ lab L (upF A L t v) = t := by
  obtain ⟨p, q, hr, o0, I2, o1, I0, o2, I1, he, l0, l1, l2, _⟩ := hS.vx v hv hi
  have hex : ∃ d ∈ rowOf A v, lab L d = t := by
    have hm : ∀ d, d ∈ q ++ p → d ∈ rowOf A v := fun d hd => by rw [hr]; rw [List.mem_append] at hd ⊢; exact hd.symm
    rw [he] at hm
    rcases (by omega : t = 0 ∨ t = 1 ∨ t = 2) with rfl | rfl | rfl
    · exact ⟨o0, hm o0 (by simp), l0⟩
    · exact ⟨o1, hm o1 (by simp), l1⟩
    · exact ⟨o2, hm o2 (by simp), l2⟩
  unfold upF
  rw [Int.toNat_natCast]
  cases hf : (rowOf A v).find? (fun d => lab L d == t) with
  | none =>
    exfalso
    obtain ⟨d, hd, hl⟩ := hex
    have := List.find?_eq_none.1 hf d hd
    simp [hl] at this
  | some d =>
    refine ⟨List.mem_of_find?_eq_some hf, ?_⟩
    have := List.find?_some hf
    simpa using this
theorem up_dart (hT : trgB N E A = true) (hS : Sch E A L) {v t : Nat} (hv : v < A.length) (hi : (v : Int) ∉ rts E A) (ht : t < 3) : isD E (upF A L t v) ∧ tailE E (upF A L t v) = v := by
  have := mem_row (trg_valid hT) hv (up_ok hT hS hv hi ht).1
  exact ⟨⟨this.1, this.2.1⟩, this.2.2⟩
/-- No tree has a cycle. -/
theorem sch_acy (hT : trgB N E A = true) (hS : Sch E A L) : Acy E A L := by
  have hV := trg_valid hT
  obtain ⟨R, hR⟩ := sch_order hT hS
  have hvn : tailE E (nxF A (nxF A 0)) ∈ rts E A := by rw [rts_eq]; simp
  have h0r : tailE E 0 ∈ rts E A := by rw [rts_eq]; simp
  have h1r : tailE E 1 ∈ rts E A := by rw [rts_eq]; simp
  have hRl : R.length < A.length := by
    have := nodup_len hR.nd hR.rng
    simp at this
    omega
  -- an inner vertex of the list, and its parent
  have hin : ∀ w ∈ R, w ∉ rts E A ∧ 0 ≤ w ∧ w < (A.length : Int) := fun w hw => by
    refine ⟨fun k => ?_, hR.rng w (List.mem_append_right _ hw)⟩
    rw [rts_eq] at k
    simp only [List.mem_cons, List.not_mem_nil, or_false] at k
    rcases k with k | k | k
    · exact hR.v1 (k ▸ List.mem_append_right _ hw)
    · exact hR.v2 (k ▸ List.mem_append_right _ hw)
    · have := hR.nd
      rw [List.nodup_append] at this
      exact this.2.2 (tailE E (nxF A (nxF A 0))) (by simp) w hw k.symm
  have hpar : ∀ w ∈ R, ∀ t : Nat, t < 3 → ∃ d, isD E d ∧ tailE E d = w ∧ lab L d = t ∧ parF E A L t w = tailE E (oth d) := fun w hw t ht => by
    obtain ⟨h1, h2, h3⟩ := hin w hw
    obtain ⟨v, rfl⟩ : ∃ v : Nat, w = (v : Int) := ⟨w.toNat, by omega⟩
    have h4 := up_ok hT hS (v := v) (by omega) h1 ht
    have h5 := up_dart hT hS (v := v) (by omega) h1 ht
    exact ⟨_, h5.1, h5.2, h4.2, rfl⟩
  have hrange : ∀ d, isD E d → tailE E (oth d) ∈ rts E A ∨ tailE E (oth d) ∈ R := fun d hd => by
    have hh := head_in hV hd.oth
    rcases hR.all _ hh.1 hh.2 with k | k | k
    · exact Or.inl (k ▸ h0r)
    · exact Or.inl (k ▸ h1r)
    · rcases List.mem_append.1 k with k | k
      · rw [List.mem_singleton] at k; exact Or.inl (k ▸ hvn)
      · exact Or.inr k
  have hfwd : ∀ t : Nat, t < 2 → ∀ (k : Nat) (R1 : List Int) (w : Int) (R2 : List Int), R = R1 ++ w :: R2 → R2.length ≤ k → endF E A L t (k + 1) w ∈ rts E A := by
    intro t ht k
    induction k with
    | zero =>
      intro R1 w R2 hRe hk
      have hw : w ∈ R := by rw [hRe]; simp
      obtain ⟨d, d1, d2, d3, d4⟩ := hpar w hw t (by omega)
      unfold endF
      rw [if_neg (hin w hw).1, d4]
      show tailE E (oth d) ∈ rts E A
      rcases hrange d d1 with k | k
      · exact k
      · exfalso
        have hno := (hR.st R1 w R2 hRe d d1 d2).1 (by omega)
        rw [hRe] at k
        rcases List.mem_append.1 k with k | k
        · exact hno (List.mem_append_right _ k)
        · rcases List.mem_cons.1 k with k | k
          · exact cho_ne hV (c := fun _ => w) (s := 0) (t := 0) ⟨d, d1, d2, k⟩ rfl
          · have : R2 = [] := List.length_eq_zero_iff.1 (by omega)
            rw [this] at k; cases k
    | succ k ih =>
      intro R1 w R2 hRe hk
      have hw : w ∈ R := by rw [hRe]; simp
      obtain ⟨d, d1, d2, d3, d4⟩ := hpar w hw t (by omega)
      unfold endF
      rw [if_neg (hin w hw).1, d4]
      rcases hrange d d1 with k' | k'
      · rw [endF_root k']; exact k'
      · have hno := (hR.st R1 w R2 hRe d d1 d2).1 (by omega)
        have hk2 := k'
        rw [hRe] at k'
        rcases List.mem_append.1 k' with k' | k'
        · exact absurd (List.mem_append_right _ k') hno
        · rcases List.mem_cons.1 k' with k' | k'
          · exact absurd rfl (cho_ne hV (c := fun _ => w) (s := 0) (t := 0) ⟨d, d1, d2, k'⟩)
          · obtain ⟨S1, S2, hS12⟩ := List.append_of_mem k'
            have hl := congrArg List.length hS12
            simp only [List.length_append, List.length_cons] at hl
            exact ih (R1 ++ w :: S1) _ S2 (by rw [hRe, hS12]; simp) (by omega)
  have hbwd : ∀ (k : Nat) (R1 : List Int) (w : Int) (R2 : List Int), R = R1 ++ w :: R2 → R1.length ≤ k → endF E A L 2 (k + 1) w ∈ rts E A := by
    intro k
    induction k with
    | zero =>
      intro R1 w R2 hRe hk
      have hw : w ∈ R := by rw [hRe]; simp
      obtain ⟨d, d1, d2, d3, d4⟩ := hpar w hw 2 (by omega)
      have hyes := (hR.st R1 w R2 hRe d d1 d2).2 (by omega)
      have : R1 = [] := List.length_eq_zero_iff.1 (by omega)
      rw [this, List.append_nil, List.mem_singleton] at hyes
      unfold endF
      rw [if_neg (hin w hw).1]
      show parF E A L ((2 : Nat) : Int) w ∈ rts E A
      rw [d4, hyes]
      exact hvn
    | succ k ih =>
      intro R1 w R2 hRe hk
      have hw : w ∈ R := by rw [hRe]; simp
      obtain ⟨d, d1, d2, d3, d4⟩ := hpar w hw 2 (by omega)
      have hyes := (hR.st R1 w R2 hRe d d1 d2).2 (by omega)
      unfold endF
      rw [if_neg (hin w hw).1]
      have d4' : parF E A L 2 w = tailE E (oth d) := d4
      rw [d4']
      rcases List.mem_append.1 hyes with k' | k'
      · rw [List.mem_singleton] at k'
        rw [k', endF_root hvn]; exact hvn
      · obtain ⟨S1, S2, hS12⟩ := List.append_of_mem k'
        have hl := congrArg List.length hS12
        simp only [List.length_append, List.length_cons] at hl
        exact ih S1 _ (S2 ++ w :: R2) (by rw [hRe, hS12]; simp) (by omega)
  intro t v ht hv
  rcases hR.all v (by omega) (by omega) with k | k | k
  · rw [k, endF_root h0r]; exact h0r
  · rw [k, endF_root h1r]; exact h1r
  · rcases List.mem_append.1 k with k | k
    · rw [List.mem_singleton] at k
      rw [k, endF_root hvn]; exact hvn
    · obtain ⟨S1, S2, hS12⟩ := List.append_of_mem k
      have hl := congrArg List.length hS12
      simp only [List.length_append, List.length_cons] at hl
      rcases (by omega : t < 2 ∨ t = 2) with ht2 | rfl
      · exact endF_mono (hfwd t ht2 S2.length S1 v S2 hS12 (Nat.le_refl _)) _ (by omega)
      · exact endF_mono (hbwd S1.length S1 v S2 hS12 (Nat.le_refl _)) _ (by omega)
end
end Go.Proofs.YtlealdicoceekaaDoor

/- What the program's check accepts is a Schnyder labeling, plain. -/
namespace Go.Proofs.YtlealdicoceekaaDoor

theorem idx_no {v : Int} : ∀ {l : List Int}, v ∉ l → idx v l = -1
  | [], _ => rfl
  | x :: l, h => by
    unfold idx
    rw [if_neg (fun e => h (by rw [e]; simp)), if_pos (idx_no (fun k => h (List.mem_cons_of_mem _ k)))]
theorem idx_yes {v : Int} {l : List Int} (h : v ∈ l) : 0 ≤ idx v l := by
  obtain ⟨i, _, e, _⟩ := idx_lt h
  omega
theorem runB_next {L : List Int} : ∀ {l : List Int} {last lv : Nat}, lv < 3 → runB L last lv l = true → ∃ I o rest, l = I ++ o :: rest ∧ lab L o = lv ∧ (∀ d ∈ I, lab L d < 0 ∧ lab L (oth d) = ((last : Int) + 2) % 3) ∧ runB L lv (lv + 1) rest = true
  | [], last, lv, h, hr => by
    unfold runB at hr
    have := of_decide_eq_true hr
    omega
  | d :: l, last, lv, h, hr => by
    unfold runB at hr
    by_cases h0 : 0 ≤ lab L d
    · rw [if_pos h0] at hr
      by_cases h1 : lab L d = (lv : Int)
      · rw [if_pos h1] at hr
        exact ⟨[], d, l, rfl, h1, fun d hd => by (cases hd), hr⟩
      · rw [if_neg h1] at hr; cases hr
    · rw [if_neg h0] at hr
      by_cases h1 : lab L (oth d) = ((last : Int) + 2) % 3
      · rw [if_pos h1] at hr
        obtain ⟨I, o, rest, e, g1, g2, g3⟩ := runB_next h hr
        refine ⟨d :: I, o, rest, by rw [e]; rfl, g1, fun x hx => ?_, g3⟩
        rcases List.mem_cons.1 hx with rfl | hx
        · exact ⟨by omega, h1⟩
        · exact g2 x hx
      · rw [if_neg h1] at hr; cases hr
theorem runB_last {L : List Int} : ∀ {l : List Int} {last : Nat}, (∀ d ∈ l, lab L d ≤ 2) → runB L last 3 l = true → ∀ d ∈ l, lab L d < 0 ∧ lab L (oth d) = ((last : Int) + 2) % 3
  | [], _, _, _, d, hd => by cases hd
  | c :: l, last, hu, hr, d, hd => by
    unfold runB at hr
    have hc := hu c (by simp)
    by_cases h0 : 0 ≤ lab L c
    · rw [if_pos h0, if_neg (by omega)] at hr; cases hr
    · rw [if_neg h0] at hr
      by_cases h1 : lab L (oth c) = ((last : Int) + 2) % 3
      · rw [if_pos h1] at hr
        rcases List.mem_cons.1 hd with rfl | hd
        · exact ⟨by omega, h1⟩
        · exact runB_last (fun x hx => hu x (List.mem_cons_of_mem _ hx)) hr d hd
      · rw [if_neg h1] at hr; cases hr
section
variable {N : Int} {E : List (Int × Int)} {A : List (List Int)} {L : List Int}
/-- The six outer darts and their tails. -/
theorem outer_tails (hT : trgB N E A = true) : isD E (nxF A 0) ∧ isD E (nxF A (nxF A 0)) ∧ tailE E (nxF A 0) = tailE E 1 ∧ tailE E (oth (nxF A 0)) = tailE E (nxF A (nxF A 0)) ∧ tailE E (oth (nxF A (nxF A 0))) = tailE E 0 := by
  have hV := trg_valid hT
  obtain ⟨i0, i1⟩ := dart01 hT
  have hx : isD E (nxF A 0) := nxF_in hV i0.1 i0.2
  have hy : isD E (nxF A (nxF A 0)) := nxF_in hV hx.1 hx.2
  refine ⟨hx, hy, ?_, ?_, ?_⟩
  · unfold nxF; rw [show oth 0 = 1 by decide, suc_tail hV i1.1 i1.2]
  · show _ = tailE E (sucF A (oth (nxF A 0)))
    rw [suc_tail hV hx.oth.1 hx.oth.2]
  · have h2 : tailE E (sucF A (oth (nxF A (nxF A 0)))) = tailE E 0 := by
      show tailE E (nxF A (nxF A (nxF A 0))) = _
      rw [tri_next hT]
    rw [suc_tail hV hy.oth.1 hy.oth.2] at h2
    exact h2
theorem half_same {d x : Int} (h : x / 2 = d / 2) : x = d ∨ x = oth d := by
  unfold oth
  split <;> omega
theorem half_oth (d : Int) : oth d / 2 = d / 2 := by unfold oth; split <;> omega
theorem outB_iff (hT : trgB N E A = true) {d : Int} (hd : isD E d) : outB A d = true ↔ tailE E d ∈ rts E A ∧ tailE E (oth d) ∈ rts E A := by
  have hV := trg_valid hT
  obtain ⟨hx, hy, t1, t2, t3⟩ := outer_tails hT
  obtain ⟨i0, i1⟩ := dart01 hT
  have hr0 : tailE E 0 ∈ rts E A := by rw [rts_eq]; simp
  have hr1 : tailE E 1 ∈ rts E A := by rw [rts_eq]; simp
  have hr2 : tailE E (nxF A (nxF A 0)) ∈ rts E A := by rw [rts_eq]; simp
  have o0 : oth 0 = 1 := by decide
  constructor
  · intro h
    unfold outB hitB at h
    obtain ⟨x, hx', he⟩ := List.any_eq_true.1 h
    have he2 := half_same (of_decide_eq_true (by simpa using he) : x / 2 = d / 2)
    unfold sdL at hx'
    simp only [List.mem_cons, List.not_mem_nil, or_false] at hx'
    have key : ∀ x, (x = 0 ∨ x = nxF A 0 ∨ x = nxF A (nxF A 0)) → tailE E x ∈ rts E A ∧ tailE E (oth x) ∈ rts E A := fun x hx => by
      rcases hx with rfl | rfl | rfl
      · exact ⟨hr0, by rw [o0]; exact hr1⟩
      · exact ⟨by rw [t1]; exact hr1, by rw [t2]; exact hr2⟩
      · exact ⟨hr2, by rw [t3]; exact hr0⟩
    have k := key x hx'
    rcases he2 with e | e
    · rw [e] at k; exact k
    · rw [e, oth_oth] at k; exact ⟨k.2, k.1⟩
  · rintro ⟨ha, hb⟩
    have hne : tailE E d ≠ tailE E (oth d) := fun e => cho_ne hV (c := fun _ => tailE E d) (s := 0) (t := 0) ⟨d, hd, rfl, e.symm⟩ rfl
    have hit : ∀ x, (x = 0 ∨ x = nxF A 0 ∨ x = nxF A (nxF A 0)) → (x = d ∨ x = oth d) → outB A d = true := fun x hx he => by
      unfold outB hitB
      refine List.any_eq_true.2 ⟨x, by unfold sdL; simpa using hx, ?_⟩
      have : x / 2 = d / 2 := by
        rcases he with e | e
        · rw [e]
        · rw [e, half_oth]
      simpa using this
    rw [rts_eq] at ha hb
    simp only [List.mem_cons, List.not_mem_nil, or_false] at ha hb
    rcases ha with ha | ha | ha <;> rcases hb with hb | hb | hb
    · exact absurd (ha.trans hb.symm) hne
    · exact hit 0 (Or.inl rfl) (Or.inl (dart_uniq hT i0 hd ha.symm (by rw [o0]; exact hb.symm)))
    · exact hit _ (Or.inr (Or.inr rfl)) (Or.inr (dart_uniq hT hy hd.oth hb.symm (by rw [t3, oth_oth]; exact ha.symm)))
    · exact hit 0 (Or.inl rfl) (Or.inr (dart_uniq hT i0 hd.oth hb.symm (by rw [o0, oth_oth]; exact ha.symm)))
    · exact absurd (ha.trans hb.symm) hne
    · exact hit _ (Or.inr (Or.inl rfl)) (Or.inl (dart_uniq hT hx hd (t1.trans ha.symm) (t2.trans hb.symm)))
    · exact hit _ (Or.inr (Or.inr rfl)) (Or.inl (dart_uniq hT hy hd ha.symm (t3.trans hb.symm)))
    · exact hit _ (Or.inr (Or.inl rfl)) (Or.inr (dart_uniq hT hx hd.oth (t1.trans hb.symm) (by rw [oth_oth]; exact t2.trans ha.symm)))
    · exact absurd (ha.trans hb.symm) hne
theorem fit_edge (hT : trgB N E A = true) (h : fitB E A L = true) {d : Int} (hd : isD E d) :
    (outB A d = true ∧ lab L d = -1 ∧ lab L (oth d) = -1) ∨ (outB A d = false ∧ (-1 ≤ lab L d ∧ lab L d ≤ 2) ∧ ((lab L d = -1) ↔ lab L (oth d) ≠ -1) ∧ sideB E A L d = true) := by
  unfold fitB at h
  simp only [Bool.and_eq_true, List.all_eq_true, List.mem_range] at h
  obtain ⟨⟨_, h2⟩, _⟩ := h
  have hd0 := hd.1
  have hd1 := hd.2
  have h3 := h2 (d / 2).toNat (by omega)
  have e2 : (((d / 2).toNat : Nat) : Int) = d / 2 := by omega
  rw [e2] at h3
  have ho : ∀ x y : Int, y / 2 = x / 2 → outB A x = outB A y := fun x y e => by unfold outB hitB; rw [e]
  have hev : d = 2 * (d / 2) ∨ d = oth (2 * (d / 2)) := by
    have : oth (2 * (d / 2)) = 2 * (d / 2) + 1 := by unfold oth; rw [if_pos (by omega)]
    omega
  obtain ⟨c, hc⟩ : ∃ c, 2 * (d / 2) = c := ⟨_, rfl⟩
  rw [hc] at h3 hev
  unfold endsB at h3
  by_cases hob : outB A c = true
  · rw [if_pos hob] at h3
    simp only [Bool.and_eq_true, beq_iff_eq] at h3
    left
    rcases hev with e | e
    · rw [e]; exact ⟨hob, h3.1, h3.2⟩
    · rw [e, oth_oth]
      exact ⟨by rw [ho (oth c) c (half_oth c).symm]; exact hob, h3.2, h3.1⟩
  · rw [if_neg hob] at h3
    have hobf : outB A c = false := by simpa using hob
    simp only [Bool.and_eq_true, rngB, decide_eq_true_iff, bne_iff_ne, ne_eq] at h3
    obtain ⟨⟨⟨⟨r1, r2⟩, hx⟩, s1⟩, s2⟩ := h3
    have hx' : (lab L c = -1) ↔ ¬ lab L (oth c) = -1 := by
      by_cases a1 : lab L c = -1 <;> by_cases a2 : lab L (oth c) = -1
      · simp [a1, a2] at hx
      · simp [a1, a2]
      · simp [a1, a2]
      · exfalso
        apply hx
        rw [beq_eq_false_iff_ne.2 a1, beq_eq_false_iff_ne.2 a2]
    right
    rcases hev with e | e
    · rw [e]; exact ⟨hobf, r1, hx', s1⟩
    · rw [e, oth_oth]
      refine ⟨by rw [ho (oth c) c (half_oth c).symm]; exact hobf, r2, ?_, s2⟩
      constructor
      · intro a b; exact (hx'.1 b) a
      · intro a
        apply Classical.byContradiction
        intro b
        exact a (hx'.2 b)
/-- What the program accepts is a Schnyder labeling. -/
theorem fit_sch (hT : trgB N E A = true) (h : fitB E A L = true) : Sch E A L := by
  have hV := trg_valid hT
  have hside : ∀ d, isD E d → 0 ≤ lab L d → tailE E d ∉ rts E A ∧ (tailE E (oth d) ∈ rts E A → lab L d = idx (tailE E (oth d)) (rts E A)) := fun d hd h0 => by
    rcases fit_edge hT h hd with ⟨_, k, _⟩ | ⟨_, _, _, hs⟩
    · omega
    · unfold sideB at hs
      simp only [Bool.or_eq_true, Bool.and_eq_true, decide_eq_true_iff] at hs
      rcases hs with hs | ⟨s1, s2⟩
      · omega
      · refine ⟨fun k => by have := idx_yes k; omega, fun k => ?_⟩
        have := idx_yes k
        rcases s2 with s2 | s2
        · omega
        · exact s2.symm
  have hrng : ∀ d, isD E d → -1 ≤ lab L d ∧ lab L d ≤ 2 := fun d hd => by
    rcases fit_edge hT h hd with ⟨_, k, _⟩ | ⟨_, k, _⟩
    · omega
    · exact k
  refine ⟨?_, hrng, fun d hd ha hb => ?_, fun d hd hn => ?_, fun d hd ht => ?_, fun d hd hh h0 => (hside d hd h0).2 hh, fun v hv hi => ?_⟩
  · unfold fitB at h
    simp only [Bool.and_eq_true, decide_eq_true_iff] at h
    exact h.1.1
  · rcases fit_edge hT h hd with ⟨_, k, _⟩ | ⟨k, _⟩
    · exact k
    · rw [(outB_iff hT hd).2 ⟨ha, hb⟩] at k; cases k
  · rcases fit_edge hT h hd with ⟨k, _⟩ | ⟨_, _, k, _⟩
    · exact absurd ((outB_iff hT hd).1 k) hn
    · exact k
  · have := hrng d hd
    by_cases h0 : 0 ≤ lab L d
    · exact absurd ht (hside d hd h0).1
    · omega
  · have h2 := h
    unfold fitB at h2
    simp only [Bool.and_eq_true, List.all_eq_true, List.mem_range] at h2
    have h3 := h2.2 v hv
    rw [idx_no hi] at h3
    simp only [Bool.or_eq_true, decide_eq_true_iff] at h3
    have h4 : turnsB A L v = true := by
      rcases h3 with k | k
      · omega
      · exact k
    unfold turnsB at h4
    split at h4
    · cases h4
    · rename_i hneg
      have hat := (atF_at (L := L) (t := 0) (xs := rowOf A v) (by omega)).1
      have har := atF_range (L := L) (t := 0) (rowOf A v)
      obtain ⟨a, ha⟩ : ∃ a, (atF L 0 (rowOf A v)).toNat = a := ⟨_, rfl⟩
      rw [ha] at h4 hat
      have hal : a < (rowOf A v).length := by omega
      refine ⟨(rowOf A v).take a, (rowOf A v).drop a, (List.take_append_drop _ _).symm, ?_⟩
      have hdr : (rowOf A v).drop a = ge (rowOf A v) a :: (rowOf A v).drop (a + 1) := by rw [ge_eq _ hal]; exact List.drop_eq_getElem_cons _
      have hd : ∀ d, d ∈ (rowOf A v).drop a ++ (rowOf A v).take a → isD E d := fun d hd => by
        have hm : d ∈ rowOf A v := by
          rcases List.mem_append.1 hd with k | k
          · exact List.mem_of_mem_drop k
          · exact List.mem_of_mem_take k
        have := mem_row hV hv hm
        exact ⟨this.1, this.2.1⟩
      rw [hdr, List.cons_append] at h4 hd ⊢
      unfold runB at h4
      rw [if_pos (by omega), if_pos (by rw [hat]; rfl)] at h4
      obtain ⟨I2, o1, r1, e1, l1, g1, h5⟩ := runB_next (by omega) h4
      obtain ⟨I0, o2, I1, e2, l2, g2, h6⟩ := runB_next (by omega) h5
      rw [e1, e2] at hd ⊢
      have g3 := runB_last (fun d hd' => (hrng d (hd d (by simp [hd']))).2) h6
      refine ⟨_, I2, o1, I0, o2, I1, rfl, hat, l1, l2, fun d hd' => ⟨?_, by have := (g1 d hd').2; omega⟩, fun d hd' => ⟨?_, by have := (g2 d hd').2; omega⟩, fun d hd' => ⟨?_, by have := (g3 d hd').2; omega⟩⟩
      · have := hrng d (hd d (by simp [hd'])); have := (g1 d hd').1; omega
      · have := hrng d (hd d (by simp [hd'])); have := (g2 d hd').1; omega
      · have := hrng d (hd d (by simp [hd'])); have := (g3 d hd').1; omega
end
end Go.Proofs.YtlealdicoceekaaDoor

/- Check, read, up, Parents of the program. -/
namespace Go.Proofs.YtlealdicoceekaaDoor
open Go.RowKit
attribute [local go_sem ↓] Go.wp_at_zero Go.wp_at_succ

noncomputable def chk38 (N : Int) (E : List (Int × Int)) (A : List (List Int)) (L : List Int) : Bool := trgB N E A && fitB E A L
/-- The error of Parents and Draw. -/
noncomputable def err38 (N : Int) (E : List (Int × Int)) (A : List (List Int)) (L : List Int) : Int := if trgB N E A = false then 13 else if fitB E A L = false then 1 else 0
noncomputable def parL (E : List (Int × Int)) (A : List (List Int)) (L : List Int) (t : Int) : List Int := tab A.length fun v => if (v : Int) ∈ rts E A then -1 else parF E A L t v
noncomputable def parRes (N : Int) (E : List (Int × Int)) (A : List (List Int)) (L : List Int) (t : Int) : List Int × Int :=
  if trgB N E A = false then ([], 13) else if fitB E A L = false then ([], 1) else if t < 0 ∨ 2 < t then ([], 3) else (parL E A L t, 0)

section
variable (N : Int) (pE pA pL : Option Addr) (nE nA nL cE cA cL : Nat) (E : List (Int × Int)) (A : List (List Int)) (L : List Int) (w : World)
theorem fits_e (hR : RotIn w pE pA cE E A) (hT : trgB N E A = true) {b gf : Nat} (hP : Plan w b gf N pE pA nE nA cE cA E A) (hI : Ints w pL L) (hnE : E.length = nE) (hnA : A.length = nA) (hnL : L.length = nL) (hL1 : nL ≤ 1000) (t : Bool) (ht : fitB E A L = t) :
    Calls Tryd.prog 40 #[.pointer (some ⟨b, 0, none⟩), .slice pL nL cL] w fun e w' => e = .returned (.bool t) ∧ Grew w w' :=
  fits_p (trg_valid hT) (trg_pos hT) hR.e1 hR.a1 hP hR.hE hR.hA hnE hnA pL nL cL hI hnL hL1 t ht
set_option maxHeartbeats 2000000 in
theorem check38_p (hR : RotIn w pE pA cE E A) (hL : Lim w) (hI : Ints w pL L) (hnE : E.length = nE) (hnA : A.length = nA) (hnL : L.length = nL) (hL1 : nL ≤ 1000) :
    Calls Tryd.prog 15 #[.agg #[.int .i64 N, .slice pE nE cE, .slice pA nA cA], .slice pL nL cL] w fun e w' => e = .returned (.bool (chk38 N E A L)) ∧ Grew w w' := by
  have HR := Lib.hid hR
  have HL := Lib.hid hL
  have HI := Lib.hid hI
  cases hT : trgB N E A
  case false =>
    have Hf : Hid (chk38 N E A L = false) := Lib.hid (by unfold chk38; rw [hT]; rfl)
    have Ho : Hid (∀ W1, Grew w W1 → Calls Tryd.prog 28 #[.agg #[.int .i64 N, .slice pE nE cE, .slice pA nA cA]] W1 fun e w' => e = .returned (.pointer none) ∧ Grew W1 w') := Lib.hid (fun W1 h => open_no _ _ _ _ _ _ _ _ _ _ (HR.out.grew h) (HL.out.grew h) hT hnE hnA)
    clear hR hL hI hT
    go_enter Tryd.func15, Tryd.ntmps15
    go_wp2_with ((go_at_call 28; apply Calls.mono; (with_reducible exact Ho.out _ (by (repeat (first | exact gR _ | refine gO ?_ _ | refine gA ?_ _ | refine gD ?_ | refine gN ?_ _)))); rintro e w' ⟨rfl, x, rfl⟩))
    go_ret
    exact ⟨by rw [Hf.out]; rfl, by (repeat (first | exact gR _ | refine gO ?_ _ | refine gA ?_ _ | refine gD ?_ | refine gN ?_ _))⟩
  case true =>
    obtain ⟨t, ht⟩ : ∃ t, fitB E A L = t := ⟨_, rfl⟩
    have Hf : Hid (chk38 N E A L = t) := Lib.hid (by unfold chk38; rw [hT, ht]; rfl)
    have HT := Lib.hid hT
    have Ht := Lib.hid ht
    clear hR hL hI hT ht
    go_enter Tryd.func15, Tryd.ntmps15
    go_wp2_with (first
      | (go_at_call 28; apply Calls.mono; (with_reducible exact open_yes _ _ _ _ _ _ _ _ _ _ (HR.out.grew (by (repeat (first | exact gR _ | refine gO ?_ _ | refine gA ?_ _ | refine gD ?_ | refine gN ?_ _)))) (HL.out.grew (by (repeat (first | exact gR _ | refine gO ?_ _ | refine gA ?_ _ | refine gD ?_ | refine gN ?_ _)))) HT.out hnE hnA); rintro e wo ⟨hgo, b, gf, rfl, _, hPl⟩; have HPl := Lib.hid hPl; have Hgo := Lib.hid ((show Grew w _ by (repeat (first | exact gR _ | refine gO ?_ _ | refine gA ?_ _ | refine gD ?_ | refine gN ?_ _))).trans hgo); clear hPl hgo)
      | ((go_at_call 40; apply Calls.mono; (with_reducible exact fits_e N pE pA pL nE nA nL cE cA cL E A L _ (HR.out.grew (Hgo.out.trans (by (repeat (first | exact gR _ | refine gO ?_ _ | refine gA ?_ _ | refine gD ?_ | refine gN ?_ _))))) HT.out (HPl.out.grew (by (repeat (first | exact gR _ | refine gO ?_ _ | refine gA ?_ _ | refine gD ?_ | refine gN ?_ _)))) (HI.out.grew (Hgo.out.trans (by (repeat (first | exact gR _ | refine gO ?_ _ | refine gA ?_ _ | refine gD ?_ | refine gN ?_ _))))) hnE hnA hnL hL1 _ Ht.out); rintro e w' ⟨rfl, x, rfl⟩)))
    go_ret
    exact ⟨by rw [Hf.out]; rfl, Hgo.out.trans (by (repeat (first | exact gR _ | refine gO ?_ _ | refine gA ?_ _ | refine gD ?_ | refine gN ?_ _)))⟩
/-- What read returns: nothing and an error, or the plan. -/
def ReadPost (er : Int) (N : Int) (pE pA : Option Addr) (nE nA cE cA : Nat) (E : List (Int × Int)) (A : List (List Int)) (w : World) (e : Ending) (w' : World) : Prop :=
  Grew w w' ∧ ((er ≠ 0 ∧ e = .returned (.tuple #[.pointer none, .int .i64 er])) ∨ (er = 0 ∧ ∃ b gf, e = .returned (.tuple #[.pointer (some ⟨b, 0, none⟩), .int .i64 0]) ∧ w.heap.size ≤ b ∧ Plan w' b gf N pE pA nE nA cE cA E A))
set_option maxHeartbeats 2000000 in
theorem read_p (hR : RotIn w pE pA cE E A) (hL : Lim w) (hI : Ints w pL L) (hnE : E.length = nE) (hnA : A.length = nA) (hnL : L.length = nL) (hL1 : nL ≤ 1000) :
    Calls Tryd.prog 35 #[.agg #[.int .i64 N, .slice pE nE cE, .slice pA nA cA], .slice pL nL cL] w (ReadPost (err38 N E A L) N pE pA nE nA cE cA E A w) := by
  have HR := Lib.hid hR
  have HL := Lib.hid hL
  have HI := Lib.hid hI
  cases hT : trgB N E A
  case false =>
    have Hf : Hid (err38 N E A L = 13) := Lib.hid (by unfold err38; rw [if_pos hT])
    have Ho : Hid (∀ W1, Grew w W1 → Calls Tryd.prog 28 #[.agg #[.int .i64 N, .slice pE nE cE, .slice pA nA cA]] W1 fun e w' => e = .returned (.pointer none) ∧ Grew W1 w') := Lib.hid (fun W1 h => open_no _ _ _ _ _ _ _ _ _ _ (HR.out.grew h) (HL.out.grew h) hT hnE hnA)
    clear hR hL hI hT
    go_enter Tryd.func35, Tryd.ntmps35
    go_wp2_with ((go_at_call 28; apply Calls.mono; (with_reducible exact Ho.out _ (by (repeat (first | exact gR _ | refine gO ?_ _ | refine gA ?_ _ | refine gD ?_ | refine gN ?_ _)))); rintro e w' ⟨rfl, x, rfl⟩))
    go_ret2
    rw [Hf.out]
    exact ⟨by (repeat (first | exact gR _ | refine gO ?_ _ | refine gA ?_ _ | refine gD ?_ | refine gN ?_ _)), Or.inl ⟨by decide, rfl⟩⟩
  case true =>
    obtain ⟨t, ht⟩ : ∃ t, fitB E A L = t := ⟨_, rfl⟩
    have HT := Lib.hid hT
    have Ht := Lib.hid ht
    cases t
    case false =>
      have Hf : Hid (err38 N E A L = 1) := Lib.hid (by unfold err38; rw [if_neg (by rw [hT]; simp), if_pos ht])
      clear hR hL hI hT ht
      go_enter Tryd.func35, Tryd.ntmps35
      go_wp2_with (first
        | (go_at_call 28; apply Calls.mono; (with_reducible exact open_yes _ _ _ _ _ _ _ _ _ _ (HR.out.grew (by (repeat (first | exact gR _ | refine gO ?_ _ | refine gA ?_ _ | refine gD ?_ | refine gN ?_ _)))) (HL.out.grew (by (repeat (first | exact gR _ | refine gO ?_ _ | refine gA ?_ _ | refine gD ?_ | refine gN ?_ _)))) HT.out hnE hnA); rintro e wo ⟨hgo, b, gf, rfl, _, hPl⟩; have HPl := Lib.hid hPl; have Hgo := Lib.hid ((show Grew w _ by (repeat (first | exact gR _ | refine gO ?_ _ | refine gA ?_ _ | refine gD ?_ | refine gN ?_ _))).trans hgo); clear hPl hgo)
        | ((go_at_call 40; apply Calls.mono; (with_reducible exact fits_e N pE pA pL nE nA nL cE cA cL E A L _ (HR.out.grew (Hgo.out.trans (by (repeat (first | exact gR _ | refine gO ?_ _ | refine gA ?_ _ | refine gD ?_ | refine gN ?_ _))))) HT.out (HPl.out.grew (by (repeat (first | exact gR _ | refine gO ?_ _ | refine gA ?_ _ | refine gD ?_ | refine gN ?_ _)))) (HI.out.grew (Hgo.out.trans (by (repeat (first | exact gR _ | refine gO ?_ _ | refine gA ?_ _ | refine gD ?_ | refine gN ?_ _))))) hnE hnA hnL hL1 _ Ht.out); rintro e w' ⟨rfl, x, rfl⟩)))
      go_ret2
      rw [Hf.out]
      exact ⟨Hgo.out.trans (by (repeat (first | exact gR _ | refine gO ?_ _ | refine gA ?_ _ | refine gD ?_ | refine gN ?_ _))), Or.inl ⟨by decide, rfl⟩⟩
    case true =>
      have Hf : Hid (err38 N E A L = 0) := Lib.hid (by unfold err38; rw [if_neg (by rw [hT]; simp), if_neg (by rw [ht]; simp)])
      clear hR hL hI hT ht
      go_enter Tryd.func35, Tryd.ntmps35
      go_wp2_with (first
        | (go_at_call 28; apply Calls.mono; (with_reducible exact open_yes _ _ _ _ _ _ _ _ _ _ (HR.out.grew (by (repeat (first | exact gR _ | refine gO ?_ _ | refine gA ?_ _ | refine gD ?_ | refine gN ?_ _)))) (HL.out.grew (by (repeat (first | exact gR _ | refine gO ?_ _ | refine gA ?_ _ | refine gD ?_ | refine gN ?_ _)))) HT.out hnE hnA); rintro e wo ⟨hgo, b, gf, rfl, hbs, hPl⟩; have Hbs : Hid (w.heap.size ≤ b) := Lib.hid (Nat.le_trans (show Grew w _ by (repeat (first | exact gR _ | refine gO ?_ _ | refine gA ?_ _ | refine gD ?_ | refine gN ?_ _))).below.size hbs); have HPl := Lib.hid hPl; have Hgo := Lib.hid ((show Grew w _ by (repeat (first | exact gR _ | refine gO ?_ _ | refine gA ?_ _ | refine gD ?_ | refine gN ?_ _))).trans hgo); clear hPl hgo hbs)
        | ((go_at_call 40; apply Calls.mono; (with_reducible exact fits_e N pE pA pL nE nA nL cE cA cL E A L _ (HR.out.grew (Hgo.out.trans (by (repeat (first | exact gR _ | refine gO ?_ _ | refine gA ?_ _ | refine gD ?_ | refine gN ?_ _))))) HT.out (HPl.out.grew (by (repeat (first | exact gR _ | refine gO ?_ _ | refine gA ?_ _ | refine gD ?_ | refine gN ?_ _)))) (HI.out.grew (Hgo.out.trans (by (repeat (first | exact gR _ | refine gO ?_ _ | refine gA ?_ _ | refine gD ?_ | refine gN ?_ _))))) hnE hnA hnL hL1 _ Ht.out); rintro e w' ⟨rfl, x, rfl⟩)))
      go_ret2
      rw [Hf.out]
      exact ⟨Hgo.out.trans (by (repeat (first | exact gR _ | refine gO ?_ _ | refine gA ?_ _ | refine gD ?_ | refine gN ?_ _))), Or.inr ⟨rfl, b, gf, rfl, Hbs.out, HPl.out.grew (by (repeat (first | exact gR _ | refine gO ?_ _ | refine gA ?_ _ | refine gD ?_ | refine gN ?_ _)))⟩⟩
end
/-! ### The dart to the parent -/
set_option maxHeartbeats 1000000 in
theorem up1_p (d : Nat) (g gt : Nat) (pL : Option Addr) (nL cL : Nat) (L : List Int) (t : Int) (w : World) (h : w.cell? ⟨g, 0, none⟩ = some (.slice pL nL cL)) (h2 : w.cell? ⟨gt, 0, none⟩ = some (.int .i64 t)) (hI : Ints w pL L) (hnL : L.length = nL) (hd : d < L.length) (b : Bool) (hb : (lab L d == t) = b) :
    Calls Tryd.prog 64 #[.int .i64 d, .pointer (some ⟨g, 0, none⟩), .pointer (some ⟨gt, 0, none⟩)] w fun e w' => e = .returned (.bool b) ∧ Grew w w' := by
  subst hnL
  obtain ⟨bL, oL, rfl, lL, cL'⟩ := hI.cells (by omega)
  have p0 := cL' w (Grew.refl _) d hd
  have e : ge L d = lab L d := by unfold lab; rw [Int.toNat_natCast]
  rw [e] at p0
  have hdl : (d : Int) < (L.length : Int) := by omega
  have hg1 := World.block_lt_of_cell? w _ h
  have hg2 := World.block_lt_of_cell? w _ h2
  dsimp only at hg1 hg2
  clear cL' e hI
  obtain ⟨x, hx⟩ : ∃ x, lab L d = x := ⟨_, rfl⟩
  rw [hx] at hb p0
  clear hx
  cases b
  · go_enter Tryd.func64, Tryd.ntmps64
    go_upto_region 1 with fail
    refine wp_region_over (by kernel_rfl) (by kernel_rfl) ?_; (repeat (go_big_quiet_step (fail))); refine wpQuiet_nil ?_; rintro _ ⟨x, rfl⟩
    go_wp2
    go_ret
    exact ⟨rfl, by (repeat (first | exact gR _ | refine gO ?_ _ | refine gA ?_ _ | refine gD ?_ | refine gN ?_ _))⟩
  · go_enter Tryd.func64, Tryd.ntmps64
    go_upto_region 1 with fail
    refine wp_region_over (by kernel_rfl) (by kernel_rfl) ?_; (repeat (go_big_quiet_step (fail))); refine wpQuiet_nil ?_; rintro _ ⟨x, rfl⟩
    go_wp2
    go_ret
    exact ⟨rfl, by (repeat (first | exact gR _ | refine gO ?_ _ | refine gA ?_ _ | refine gD ?_ | refine gN ?_ _))⟩
set_option maxHeartbeats 2000000 in
theorem upI_p (p : Option Addr) (cap : Nat) (xs : List Int) (n : Nat) (g gt : Nat) (pL : Option Addr) (nL cL : Nat) (L : List Int) (t : Int) (w : World) (hI : Ints w p xs) (hn : xs.length = n) (hx : ∀ x ∈ xs, 0 ≤ x ∧ x < (L.length : Int)) (h : w.cell? ⟨g, 0, none⟩ = some (.slice pL nL cL)) (h2 : w.cell? ⟨gt, 0, none⟩ = some (.int .i64 t)) (hL : Ints w pL L) (hnL : L.length = nL) (r : Int) (hr : atF L t xs = r) :
    Calls Tryd.prog 63 #[.slice p n cap, .func (.func 64) #[] #[.pointer (some ⟨g, 0, none⟩), .pointer (some ⟨gt, 0, none⟩)]] w fun e w' => e = .returned (.int .i64 r) ∧ Grew w w' := by
  subst hn
  have Hx := Lib.hid hx
  have HL := Lib.hid hL
  have HnL := Lib.hid hnL
  have Hr := Lib.hid hr
  have hm := hI.1
  have HI := Lib.hid hI
  have H1 := Lib.hid h
  have H2 := Lib.hid h2
  clear hx hL hnL hr hI h h2
  go_enter Tryd.func63, Tryd.ntmps63
  go_wp2
  go_loopw [5, 8] (fun _ i wr => ∃ k : Nat, k ≤ xs.length ∧ i = .int .i64 k ∧ (∀ j, j < k → lab L (ge xs j) ≠ t) ∧ Grew w wr) (fun _ i _ => xs.length - (intOf i).toNat)
  case atStart => exact ⟨0, Nat.zero_le _, rfl, fun j hj => by omega, by (repeat (first | exact gR _ | refine gO ?_ _ | refine gA ?_ _ | refine gD ?_ | refine gN ?_ _))⟩
  case round =>
    obtain ⟨k, hk, rfl, hall, hg⟩ := hrel
    have Hall := Lib.hid hall
    have Hg := Lib.hid hg
    clear hall hg
    by_cases hlt : k < xs.length
    · obtain ⟨b, o, rfl, hb, hc⟩ := HI.out.cells (by omega)
      have hc := hc wr Hg.out k hlt
      have hx0 := Hx.out _ (ge_mem hlt)
      obtain ⟨c, hce⟩ : ∃ c : Nat, ge xs k = (c : Int) := ⟨(ge xs k).toNat, by omega⟩
      rw [hce] at hc
      have Hce := Lib.hid hce
      have Hc9 : Hid (c < L.length) := Lib.hid (by omega)
      clear hce hx0
      cases he : (lab L (c : Int) == t)
      · have He := Lib.hid he
        have hne : lab L (c : Int) ≠ t := beq_eq_false_iff_ne.1 he
        have Hne := Lib.hid hne
        clear he hne
        go_wp2_with ((go_at_call 64; apply Calls.mono; (with_reducible exact up1_p _ _ _ _ _ _ _ _ _ ((Hg.out.trans (by (repeat (first | exact gR _ | refine gO ?_ _ | refine gA ?_ _ | refine gD ?_ | refine gN ?_ _)))).cellEq H1.out) ((Hg.out.trans (by (repeat (first | exact gR _ | refine gO ?_ _ | refine gA ?_ _ | refine gD ?_ | refine gN ?_ _)))).cellEq H2.out) (HL.out.grew (Hg.out.trans (by (repeat (first | exact gR _ | refine gO ?_ _ | refine gA ?_ _ | refine gD ?_ | refine gN ?_ _))))) HnL.out Hc9.out _ He.out); rintro e w' ⟨rfl, x, rfl⟩))
        go_roundw
        case rel => exact ⟨k + 1, by omega, by go_num, fun j hj => by
          by_cases h : j = k
          · rw [h, Hce.out]; exact Hne.out
          · exact Hall.out j (by omega), Hg.out.trans (by (repeat (first | exact gR _ | refine gO ?_ _ | refine gA ?_ _ | refine gD ?_ | refine gN ?_ _)))⟩
        case measure => (simp [intOf] <;> omega)
      · have He := Lib.hid he
        have Hf := Lib.hid (atF_first (t := t) k hlt (fun j hj => Hall.out j hj) (by rw [Hce.out]; exact beq_iff_eq.1 he))
        clear he
        go_wp2_with ((go_at_call 64; apply Calls.mono; (with_reducible exact up1_p _ _ _ _ _ _ _ _ _ ((Hg.out.trans (by (repeat (first | exact gR _ | refine gO ?_ _ | refine gA ?_ _ | refine gD ?_ | refine gN ?_ _)))).cellEq H1.out) ((Hg.out.trans (by (repeat (first | exact gR _ | refine gO ?_ _ | refine gA ?_ _ | refine gD ?_ | refine gN ?_ _)))).cellEq H2.out) (HL.out.grew (Hg.out.trans (by (repeat (first | exact gR _ | refine gO ?_ _ | refine gA ?_ _ | refine gD ?_ | refine gN ?_ _))))) HnL.out Hc9.out _ He.out); rintro e w' ⟨rfl, x, rfl⟩))
        go_ret
        exact ⟨ret_int (Hf.out.symm.trans Hr.out), Hg.out.trans (by (repeat (first | exact gR _ | refine gO ?_ _ | refine gA ?_ _ | refine gD ?_ | refine gN ?_ _)))⟩
    · have Hf := Lib.hid (atF_none (L := L) (t := t) (xs := xs) fun j hj => Hall.out j (by omega))
      go_wp2
      go_ret
      exact ⟨ret_int (Hf.out.symm.trans Hr.out), Hg.out.trans (by (repeat (first | exact gR _ | refine gO ?_ _ | refine gA ?_ _ | refine gD ?_ | refine gN ?_ _)))⟩
section
variable {w : World} {b gf : Nat} {N : Int} {pE pA : Option Addr} {nE nA cE cA : Nat} {E : List (Int × Int)} {A : List (List Int)} {L : List Int}
set_option maxHeartbeats 4000000 in
theorem up_p (hV : vRot N E A) (hP : Plan w b gf N pE pA nE nA cE cA E A) (hA : Mat w pA A) (hnA : A.length = nA) (pL : Option Addr) (nL cL : Nat) (hI : Ints w pL L) (hnL : L.length = nL) (hl : L.length = 2 * E.length) (hl1 : nL ≤ 1000)
    (v : Nat) (hv : v < A.length) (t : Int) (h0 : 0 ≤ atF L t (rowOf A v)) (r : Int) (hr : upF A L t v = r) :
    Calls Tryd.prog 37 #[.pointer (some ⟨b, 0, none⟩), .slice pL nL cL, .int .i64 v, .int .i64 t] w fun e w' => e = .returned (.int .i64 r) ∧ Grew w w' := by
  subst hnA
  have HI := Lib.hid hI
  have HnL := Lib.hid hnL
  have c2 := hP.c2
  have hb := hP.lt
  have hmr : ∀ x ∈ rowOf A v, 0 ≤ x ∧ x < (L.length : Int) := fun x hx => by
    have := mem_row hV hv hx
    omega
  have hrl : (rowOf A v).length ≤ 1000 := by
    have h2 := int_nodup_len (M := L.length) (row_nodup hV hv) hmr
    omega
  obtain ⟨bA, oA, rp, rc, rfl, lA, cA'⟩ := hA.rows (by omega)
  obtain ⟨a1, a2⟩ := cA' w (Grew.refl _) v hv
  obtain ⟨rv, hrv⟩ : ∃ rv, rp v = rv := ⟨_, rfl⟩
  rw [hrv] at a1 a2
  have Ha2 := Lib.hid a2
  have Hur : Hid (r = ge (rowOf A v) (atF L t (rowOf A v)).toNat) := Lib.hid (by
    rw [← hr]
    unfold upF
    rw [Int.toNat_natCast, (atF_at h0).2]
    rfl)
  obtain ⟨xs, hxs⟩ : ∃ xs, rowOf A v = xs := ⟨_, rfl⟩
  rw [hxs] at a1 Ha2 hmr hrl h0 Hur
  have Hmr := Lib.hid hmr
  have hvi : (v : Int) < (A.length : Int) := by omega
  have hrr := atF_range (L := L) (t := t) xs
  obtain ⟨a, ha⟩ : ∃ a : Nat, atF L t xs = (a : Int) := ⟨(atF L t xs).toNat, by omega⟩
  have Ha := Lib.hid ha
  rw [ha] at hrr Hur
  rw [Int.toNat_natCast] at Hur
  have hal : a < xs.length := by omega
  have hai : (a : Int) < (xs.length : Int) := by omega
  obtain ⟨bR, oR, rfl, lR, cR⟩ := Ha2.out.cells (by omega)
  have p0 := cR w (Grew.refl _) a hal
  rw [← Hur.out] at p0
  clear hP hA hV cA' a2 hrv hI hr hmr hxs hnL hl cR h0 ha hrr
  go_enter Tryd.func37, Tryd.ntmps37
  go_wp2_with ((go_at_call 63; apply Calls.mono; (with_reducible exact upI_p _ _ xs _ _ _ pL nL cL L t _ (Ha2.out.grew (by (repeat (first | exact gR _ | refine gO ?_ _ | refine gA ?_ _ | refine gD ?_ | refine gN ?_ _)))) rfl Hmr.out (by simp [go_sem]) (by simp [go_sem]) (HI.out.grew (by (repeat (first | exact gR _ | refine gO ?_ _ | refine gA ?_ _ | refine gD ?_ | refine gN ?_ _)))) HnL.out _ Ha.out); rintro e w' ⟨rfl, x, rfl⟩))
  go_ret
  exact ⟨rfl, by (repeat (first | exact gR _ | refine gO ?_ _ | refine gA ?_ _ | refine gD ?_ | refine gN ?_ _))⟩
end
end Go.Proofs.YtlealdicoceekaaDoor
