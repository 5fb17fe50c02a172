/- The contract of row, out of that of subtree. -/
import Derived.Test.YtgodoeefgmfpfaaTidyS
set_option linter.unusedSimpArgs false
set_option linter.unusedVariables false
namespace Go.Proofs.Ytgodoeefgmfpfaa
open Go.RowKit
attribute [local go_sem ↓] Go.wp_at_zero Go.wp_at_succ

theorem shP_bd {A O : Ext} {sep : Int} (hs : 0 ≤ sep ∧ sep ≤ 1048576) (hA : ∀ d, d < A.length → -134217728 ≤ (ex A d).2 ∧ (ex A d).2 ≤ 134217728) (hO : ∀ d, d < O.length → -134217728 ≤ (ex O d).1 ∧ (ex O d).1 ≤ 134217728) :
    ∀ d, d ≤ O.length → -300000000 ≤ shP A O sep d ∧ shP A O sep d ≤ 300000000 := by
  intro d
  induction d with
  | zero => intro _; simp [shP]
  | succ d ih =>
    intro hd
    have h1 := ih (by omega)
    have h2 := hO d (by omega)
    simp only [shP]
    by_cases hA' : d < A.length
    · have h3 := hA d hA'
      rw [if_pos hA']
      split <;> omega
    · rw [if_neg hA']; exact h1

/-- The row with one subtree more: all that is kept. -/
theorem row_next {P W : List Int} {sep : Int} (hP : vFor P) (hW : wOK W sep) {par : Int} {k j c base : Nat} (hk : ∀ c ∈ kids P par, P.length ≤ c + k) (hc : (kids P par)[j]? = some c) {X X1 X2 X3 : List Int} {t t' sh : Int} {A O : Ext}
    (hA : IsExt P W (rowD P W sep (subD P W sep k) ((kids P par).take j)) base t A) (hO : IsExt P W (subD P W sep k c) base t' O) (hz : rowD P W sep (subD P W sep k) ((kids P par).take j) ≠ [] → SpanZ W (rowD P W sep (subD P W sep k) ((kids P par).take j)) t)
    (hz' : SpanZ W (subD P W sep k c) t') (h1 : WrAt X (rowD P W sep (subD P W sep k) ((kids P par).take j)) t X1) (h2 : WrAt X1 (subD P W sep k c) t' X2) (h3 : MvAt P X2 c sh X3) (hs : 0 < O.length) (hsh : sh = if A = [] then 0 else shP A O sep O.length) :
    ∃ b, IsExt P W (rowD P W sep (subD P W sep k) ((kids P par).take (j + 1))) base b (mgP A O sh O.length) ∧ SpanZ W (rowD P W sep (subD P W sep k) ((kids P par).take (j + 1))) b ∧ WrAt X (rowD P W sep (subD P W sep k) ((kids P par).take (j + 1))) b X3 := by
  obtain ⟨hj, rfl⟩ := List.getElem?_eq_some_iff.1 hc
  have hcm := List.getElem_mem hj
  have hsub : ∀ c ∈ kids P par, SubOK P W sep c (subD P W sep k c) := fun c hc => subD_ok hP k c (mem_kids.1 hc).1 (hk c hc)
  have hrow := rowD_ok (W := W) (sep := sep) hP (p := par) (sub := subD P W sep k) ((kids P par).take j) (fun c hc => List.mem_of_mem_take hc) ((kids_sorted P par).sublist (List.take_sublist _ _)) (fun c hc => hsub c (List.mem_of_mem_take hc))
  rw [List.take_succ_eq_append_getElem hj, rowD_snoc]
  obtain ⟨b, b1, b2, b3, b4, b5⟩ := row_step (P := P) (W := W) (sep := sep) hA hO hs hsh
  refine ⟨b, b5, ?_, h1.snoc h2 h3 (hsub _ hcm).vert (fun u hu hu' => ?_) b1 b2⟩
  · by_cases he : rowD P W sep (subD P W sep k) ((kids P par).take j) = []
    · rw [he, b3 he, needs_nil, mvD_zero]
      exact hz'
    · rw [b2 he]
      refine (hz he).snoc hW hz' ?_
      obtain ⟨q, hq⟩ : ∃ q, q ∈ rowD P W sep (subD P W sep k) ((kids P par).take j) := by
        cases hr : rowD P W sep (subD P W sep k) ((kids P par).take j) with
        | nil => exact absurd hr he
        | cons q l => exact ⟨q, List.mem_cons_self⟩
      obtain ⟨e, he1, he2⟩ := (hrow.vert q.1).1 (mem_verts.2 ⟨q.2, hq⟩)
      obtain ⟨x, hx⟩ := mem_verts.1 ((hrow.vert e).2 ⟨e, he1, Bel.self⟩)
      exact ⟨_, hx, _, (hsub _ hcm).root, sib_dep hP (List.mem_of_mem_take he1) hcm⟩
  · obtain ⟨e, he1, he2⟩ := (hrow.vert u).1 hu
    have h5 := Bel.unique hP he2 (((hsub _ hcm).vert u).1 hu') (sib_dep hP (List.mem_of_mem_take he1) hcm)
    obtain ⟨i, hi, h6⟩ := List.getElem_of_mem he1
    rw [List.getElem_take] at h6
    rw [List.length_take] at hi
    have := (List.pairwise_iff_getElem.1 (kids_sorted P par)) i j (by omega) hj (by omega)
    omega

theorem row_take {P W : List Int} {sep : Int} (hP : vFor P) {par : Int} {k : Nat} (hk : ∀ c ∈ kids P par, P.length ≤ c + k) (j : Nat) : RowOK P W sep ((kids P par).take j) (rowD P W sep (subD P W sep k) ((kids P par).take j)) :=
  rowD_ok hP (p := par) _ (fun c hc => List.mem_of_mem_take hc) ((kids_sorted P par).sublist (List.take_sublist _ _)) (fun c hc => subD_ok hP k c (mem_kids.1 (List.mem_of_mem_take hc)).1 (hk c (List.mem_of_mem_take hc)))
theorem RowOK.lt' {P W : List Int} {sep : Int} {par : Int} {j : Nat} {s : Dr} (h : RowOK P W sep ((kids P par).take j) s) : ∀ q ∈ s, q.1 < P.length := fun q hq => by
  obtain ⟨c, hc, hb⟩ := (h.vert q.1).1 (mem_verts.2 ⟨q.2, hq⟩)
  exact hb.lt (mem_kids.1 (List.mem_of_mem_take hc)).1
/-- What row changes besides the positions: blocks of its own. -/
def exR (gx H : Nat) : Nat → Prop := fun k => k = gx ∨ H ≤ k
theorem exR_keep {B gx H : Nat} (h : B ≤ H) : ∀ k, k < B → k ≠ gx → ¬ exR gx H k := fun k h1 h2 h3 => h3.elim h2 (fun h4 => by omega)

def RowRel (gx H : Nat) (P W : List Int) (sep : Int) (par : Int) (k base : Nat) (X : List Int) (wa : World) (j : Nat) (wr : World) : Prop :=
  Gr (exR gx (H + 1)) wa wr ∧ ∃ vA A t X1, Owns wr (H + 1) (lvRows (H + 1) vA A []) ∧ IsExt P W (rowD P W sep (subD P W sep k) ((kids P par).take j)) base t A ∧
    (rowD P W sep (subD P W sep k) ((kids P par).take j) ≠ [] → SpanZ W (rowD P W sep (subD P W sep k) ((kids P par).take j)) t) ∧ XAt wr gx X1 ∧ WrAt X (rowD P W sep (subD P W sep k) ((kids P par).take j)) t X1

theorem row_start {gx : Nat} {P W : List Int} {sep par : Int} {k base : Nat} {X : List Int} {w : World} (hX : XAt w gx X) (b : Nat) (hb : b = w.heap.size) :
    RowRel gx b P W sep par k base X ((w.alloc (.cells #[.slice none 0 0] 61)).alloc (.cells #[.slice none 0 0] 61)) 0
      ((w.alloc (.cells #[.slice none 0 0] 61)).alloc (.cells #[.slice none 0 0] 61)) := by
  subst hb
  refine ⟨Gr.refl _ _, .slice none 0 0, [], 0, X, ?_, IsExt.nil _ _ _ _, (fun h => absurd rfl h), hX.grew (((Grew.refl _).alloc _).alloc _), WrAt.nil _ _⟩
  have h := Owns.made ((Owns.nil (w.alloc (.cells #[.slice none 0 0] 61)) (w.heap.size + 1)).none 64 2) (by simp) #[.slice none 0 0] 61 1 1 (w.heap.size + 1) rfl (by decide) (by simp)
  exact h

theorem lv_add {wr w2 : World} {gx H A : Nat} {v vO : Value} {E O : Ext} (hO : Owns wr (H + 1) (lvRows A v E [])) (hg : Gr (onX gx) wr w2) (hgx : gx < H + 1) (hr : w2.ownsRow wr.heap.size 64 2 vO O.length (flat O)) (hH : H + 1 ≤ wr.heap.size) :
    Owns w2 (H + 1) (lvRows A v E [⟨vO, 64, 2, O.length, flat O⟩]) := by
  have h1 : Owns w2 (H + 1) (lvRows A v E []) := hO.gr hg (fun k hk _ e => by unfold onX at e; omega)
  have h2 := h1.cons (r := ⟨vO, 64, 2, O.length, flat O⟩) (ownsRow_base hr hH) (fun k x hk g e1 e2 => by
    have := (World.ownsRow.lt hr g e1).1
    have := ((hO.1 k x hk).lt g e2).2
    omega)
  refine h2.perm ?_
  exact (List.Perm.swap _ _ _).trans (List.Perm.cons _ (List.Perm.swap _ _ _))
theorem lv_drop {w : World} {B A : Nat} {v : Value} {E : Ext} {r : Row} (h : Owns w B (lvRows A v E [r])) : Owns w B (lvRows A v E []) := by
  have h2 : Owns w B (r :: lvRows A v E []) := h.perm ((List.Perm.cons _ (List.Perm.swap _ _ _)).trans (List.Perm.swap _ _ _))
  exact h2.tail
theorem lv_set {w : World} {B A g cap : Nat} {E : Ext} {rs : List Row} (h : Owns w B (lvRows A (.slice (some ⟨g, 0, none⟩) E.length cap) E rs)) {d : Nat} (hd : d < E.length) (a b : Int) :
    Owns ((w.setCell ⟨g, d * 2, none⟩ (.int .i64 a)).setCell ⟨g, d * 2 + 1, none⟩ (.int .i64 b)) B (lvRows A (.slice (some ⟨g, 0, none⟩) E.length cap) (E.set d (a, b)) rs) := by
  have h1 := h.set (k := 1) rfl (d * 2) (.int .i64 a)
  have h2 := h1.set (k := 1) rfl (d * 2 + 1) (.int .i64 b)
  unfold lvRows at h2 ⊢
  rw [List.length_set, ← flat_set]
  exact h2

set_option maxRecDepth 8000 in
set_option maxHeartbeats 16000000 in
theorem row_of_sub (B S gc gx : Nat) (wp : Option Addr) (wc : Nat) (P W : List Int) (sep : Int) (hP : vFor P) (hW : wOK W sep) (k : Nat) (ih : SubAll B S gc gx wp wc P W sep k) : RowAll B S gc gx wp wc P W sep k := by
  intro par base lp cap X w hk hdep hst hX hXl hlp
  unfold SubAll at ih
  have Hsub := Lib.hid ih
  have HP := Lib.hid hP
  have HW := Lib.hid hW
  have h64 := hP.1
  have hkl := kids_len P par
  have Hst := Lib.hid hst
  have Hk := Lib.hid hk
  have Hdep := Lib.hid hdep
  have Hlp := Lib.hid hlp
  have hBw := hst.hB
  have hgxB := hst.hgx
  have hSB := hst.hS
  have hn1 := hst.n1
  have hgxw : gx < w.heap.size := by omega
  have HXl := Lib.hid hXl
  have Hstart := Lib.hid (row_start (P := P) (W := W) (sep := sep) (par := par) (k := k) (base := base) hX _ rfl)
  have hall := move_all B S gc gx wp wc P W sep hP P.length
  unfold MoveAll at hall
  have Hall := Lib.hid hall
  clear hall
  clear ih hP hW hst hk hdep hlp hX hXl
  go_enter Try.func32, Try.ntmps32
  go_wp2
  go_loopw [19] (fun i wr => ∃ j : Nat, j ≤ (kids P par).length ∧ i = .int .i64 j ∧ RowRel gx w.heap.size P W sep par k base X ((w.alloc (.cells #[.slice none 0 0] 61)).alloc (.cells #[.slice none 0 0] 61)) j wr) (fun i _ => (kids P par).length - (intOf i).toNat)
  case atStart => exact ⟨0, Nat.zero_le _, rfl, Hstart.out⟩
  case round =>
    obtain ⟨j, hj, rfl, hg, vA, A, t, X1, hOw, hA, hz, hX1, hWr⟩ := hrel
    have hszr := hg.size
    simp at hszr
    have Hg := Lib.hid hg
    have HOw := Lib.hid hOw
    have HA := Lib.hid hA
    have Hz := Lib.hid hz
    have HX1 := Lib.hid hX1
    have HWr := Lib.hid hWr
    have Hgw : Hid (Gr (exR gx w.heap.size) w wr) := Lib.hid ((Gr.of_grew _ (((Grew.refl w).alloc _).alloc _)).trans (hg.mono (fun k _ hk => hk.imp id (fun h => by omega))))
    have Hst1 := Lib.hid (Hst.out.gr Hgw.out (exR_keep hBw))
    obtain ⟨gA0, cA0, eA0, _, hAsz, _, _, hfA, hcA⟩ := hOw.some (k := 0) rfl (by omega)
    cases eA0
    obtain ⟨pA, cA, rfl, hAle, hAcap, hAnil, hAcells⟩ := hOw.ext (k := 1) rfl rfl
    have hAlen : A.length ≤ 64 := hA.len HP.out (RowOK.lt' (row_take HP.out Hk.out j))
    have a0 := hcA 0 _ rfl
    have aF := hfA 0
    have r0 := hg.cell (b := w.heap.size) (i := 0) (by first | rfl | omega | (simp <;> omega)) (by unfold exR; omega)
    have rF := hg.frozen (b := w.heap.size) (i := 0) (by first | rfl | omega | (simp <;> omega)) (by unfold exR; omega)
    simp [go_sem] at r0 rF
    have hn2 : w.heap.size ≠ w.heap.size + 1 := by omega
    clear hg hOw hA hz hX1 hWr hcA hfA
    by_cases hlt : j < (kids P par).length
    · obtain ⟨c, hc⟩ : ∃ c, (kids P par)[j]? = some c := ⟨_, List.getElem?_eq_getElem hlt⟩
      have hcm := List.mem_of_getElem? hc
      have hcn := (mem_kids.1 hcm).1
      have Hc := Lib.hid hc
      have Hcm := Lib.hid hcm
      obtain ⟨bl, ol, hl3, hl4⟩ := (Hlp.out.gr Hgw.out (exR_keep hBw)).1.open
      obtain ⟨rfl, hbl⟩ := hl3 (by rw [intL_length]; omega)
      have el := hl4 j (by rw [intL_length]; exact hlt)
      rw [ge_intL' hc] at el
      have Hcall := Lib.hid (Hsub.out c X1 wr hcn (Hk.out c hcm) Hst1.out HX1.out (HWr.out.1.trans HXl.out))
      have hsok := Lib.hid (subD_ok (W := W) (sep := sep) HP.out k c hcn (Hk.out c hcm))
      clear hc hcm hl3 hl4
      by_cases hj0 : j = 0
      · have hjz : (j : Int) ≤ 0 := by omega
        have Hj0 := Lib.hid hj0
        clear hj0
        go_wp2_with (go_at_call 39; apply Calls.mono; (with_reducible exact Hcall.out); rintro e w2 hpost; obtain ⟨vO, O, t', X2, rfl, hownO, hO, hz', hX2, hWr2, hg2⟩ := hpost; have hO0 : 0 < O.length := (by have := (hO.1 _ hsok.out.root).2; dsimp only at this; omega); have hOw2 := lv_add HOw.out hg2 (by omega) hownO (by omega); obtain ⟨gO, cO, rfl, _, hgO, hOle, hOcap, _, hOc⟩ := hOw2.some (k := 2) rfl hO0; have hsz2 := hg2.size; have HOc := Lib.hid hOc; have HOw2 := Lib.hid hOw2; have HO := Lib.hid hO; have Hz' := Lib.hid (hz' (fun e => by have := hsok.out.root; rw [e] at this; cases this)); have HX2 := Lib.hid hX2; have HWr2 := Lib.hid hWr2; have Hg2 := Lib.hid hg2; have hOlen : O.length ≤ 64 := hO.len HP.out (fun q hq => ((hsok.out.vert q.1).1 (mem_verts.2 ⟨q.2, hq⟩)).lt hcn); have a2 := (hg2.cell (b := w.heap.size + 1) (i := 0) (by omega) (by unfold onX; omega)).trans a0; have hsep2 := ((Hst1.out.onX hg2).c2); clear hownO hO hz' hX2 hWr2 hg2 hOc hOw2)
        have hAe : A = [] := isExt_nil (by have := HA.out; rw [Hj0.out] at this; exact this)
        subst hAe
        have Hst4 := Lib.hid ((Hst1.out.onX Hg2.out).grew ((Grew.refl _).alloc (.cells #[.slice (some ⟨gO, 0, none⟩) O.length cO] 61)))
        have HX4 : Hid (XAt (w2.alloc (.cells #[.slice (some ⟨gO, 0, none⟩) O.length cO] 61)) gx X2) := Lib.hid (HX2.out.grew ((Grew.refl _).alloc _))
        have Hbd4 : Hid (∀ u, Bel P c u → -1000000000000 ≤ ge X2 u ∧ ge X2 u ≤ 1000000000000) := Lib.hid (fun u hu => by
          obtain ⟨x, hx⟩ := mem_verts.1 ((hsok.out.vert u).2 hu)
          have h1 := HWr2.out.2.1 _ hx
          have h2 := Hz'.out.bd HW.out (hsok.out.len HP.out hcn) _ hx
          dsimp only at h1 h2
          omega)
        have Hl4 : Hid (X2.length = P.length) := Lib.hid (by rw [HWr2.out.1, HWr.out.1]; exact HXl.out)
        have Hmove := Lib.hid (Hall.out c 0 X2 (w2.alloc (.cells #[.slice (some ⟨gO, 0, none⟩) O.length cO] 61)) hcn (by omega) Hst4.out HX4.out Hl4.out Hbd4.out (by omega) (by omega))
        have HOw4 : Hid (Owns (w2.alloc (.cells #[.slice (some ⟨gO, 0, none⟩) O.length cO] 61)) (w.heap.size + 1) (lvRows (w.heap.size + 1) (.slice pA 0 cA) [] [⟨.slice (some ⟨gO, 0, none⟩) O.length cO, 64, 2, O.length, flat O⟩])) := Lib.hid (HOw2.out.grew ((Grew.refl _).alloc _))
        have t0 : ((w2.alloc (.cells #[.slice (some ⟨gO, 0, none⟩) O.length cO] 61))).cell? ⟨w2.heap.size, 0, none⟩ = some (.slice (some ⟨gO, 0, none⟩) O.length cO) := by simp [go_sem]
        have hsz4 : w2.heap.size < ((w2.alloc (.cells #[.slice (some ⟨gO, 0, none⟩) O.length cO] 61))).heap.size := by simp
        have HbO2 := Lib.hid (fun d (hd : d < O.length) => HO.out.bd HW.out Hz'.out (hsok.out.len HP.out hcn) hd)
        go_wp2_with (go_at_call 33; apply Calls.mono; (with_reducible exact Hmove.out); rintro e w5 hpost; obtain ⟨rfl, hg5, X3, hX3, hM⟩ := hpost; have hsz5 := hg5.size; have t1 := (hg5.cell (b := w2.heap.size) (i := 0) hsz4 (by unfold onX; omega)).trans t0; have HOw5 := Lib.hid (HOw4.out.gr hg5 (fun k hk _ e => by unfold onX at e; omega)); have Hg5 := Lib.hid hg5; have HX3 := Lib.hid hX3; have HM := Lib.hid hM; clear hg5 hX3 hM)
        go_loopw [72] (fun i wq => ∃ d : Nat, d ≤ O.length ∧ i = .int .i64 d ∧ Gr (fun k => w.heap.size + 1 ≤ k) w5 wq ∧ ∃ vB, Owns wq (w.heap.size + 1) (lvRows (w.heap.size + 1) vB (mgP [] O 0 d) [⟨.slice (some ⟨gO, 0, none⟩) O.length cO, 64, 2, O.length, flat O⟩])) (fun i _ => O.length - (intOf i).toNat)
        case atStart => exact ⟨0, Nat.zero_le _, rfl, Gr.refl _ _, _, HOw5.out⟩
        case round =>
          obtain ⟨d, hd, rfl, hgq, vB, hOq⟩ := hrel
          have Hgq2 := Lib.hid hgq
          have HOq := Lib.hid hOq
          have hszq := hgq.size
          have hml := (mgP_spec [] O 0 d).1
          simp only [List.length_nil] at hml
          obtain ⟨g0, c0, e0, _, hAq, _, _, hfq, hcq⟩ := hOq.some (k := 0) rfl (by omega)
          cases e0
          have u0 := hcq 0 _ rfl
          clear hcq hfq
          by_cases hdl : d < O.length
          · obtain ⟨g1, c1, e1, _, hgOq, _, _, _, hcO⟩ := hOq.some (k := 2) rfl hO0
            cases e1
            have u1 := hcO _ _ (flat_get O d hdl).1
            have u2 := hcO _ _ (flat_get O d hdl).2
            obtain ⟨⟨bO1, bO2⟩, bO3, bO4⟩ := HbO2.out d hdl
            clear hcO
            have hdm : d = (mgP [] O 0 d).length := by omega
            have hml2 : (mgP [] O 0 d).length ≤ 1000 := by omega
            obtain ⟨pB, cB, rfl, hlB, hcB, _, _⟩ := hOq.ext (k := 1) rfl rfl
            have Hdm := Lib.hid hdm
            have Hnext : Hid (mgP [] O 0 (d + 1) = mgP [] O 0 d ++ [((ex O d).1, (ex O d).2)]) := Lib.hid (by simp only [mgP]; rw [if_neg (by omega), Int.add_zero, Int.add_zero])
            have Hsep : Hid (∀ k, k = w.heap.size + 1 ∨ (Value.slice pB (mgP [] O 0 d).length cB).ownBlock = some k → w.heap.size + 1 ≤ k) := Lib.hid (fun k hk => hk.elim (fun e => by omega) (fun e => ((HOq.out.1 1 _ rfl).lt k e).1))
            clear hOq hgq hdm hml
            go_wp2_with (go_at_call 40; apply Calls.mono; (with_reducible exact at_new (w.heap.size + 1) (w.heap.size + 1) _ _ _ d _ _ _ (HOq.out.grew (by (repeat (first | exact Grew.refl _ | refine Grew.over ?_ _ | refine Grew.alloc ?_ _ | refine Grew.drew ?_ | refine Grew.drewN ?_ _)))) Hdm.out hml2 (by first | rfl | omega | (simp <;> omega))); rintro e w6 ⟨vB', pt, rfl, hO6, hg6⟩; have HO6 := Lib.hid hO6; have Hg6 : Hid (Gr (fun k => w.heap.size + 1 ≤ k) wr w6) := Lib.hid ((Gr.of_grew _ ((Grew.refl wr).alloc _)).trans (hg6.mono (fun k _ hk => Hsep.out k hk))); clear hO6 hg6)
            go_roundw
            case rel => exact ⟨d + 1, by omega, by go_num, Hgq2.out.trans Hg6.out, vB', by rw [Hnext.out]; exact HO6.out⟩
            case measure => simp [intOf]; omega
          · have hdn : d = O.length := by omega
            rw [hdn] at HOq
            have Hnx := Lib.hid (row_next (sh := 0) HP.out HW.out Hk.out Hc.out HA.out (show IsExt P W (subD P W sep k c) base t' O by rw [← Hdep.out c Hcm.out]; exact HO.out) Hz.out Hz'.out HWr.out HWr2.out HM.out hO0 (by rw [if_pos rfl]))
            have HXq : Hid (XAt wr gx X3) := Lib.hid (HX3.out.gr Hgq2.out (by omega))
            have HgT : Hid (Gr (exR gx (w.heap.size + 1)) w5 wr) := Lib.hid (Hgq2.out.mono (fun k _ h => Or.inr h))
            clear hOq hgq hdn hml
            go_wp2
            go_roundw
            case rel =>
              obtain ⟨b, n1, n2, n3⟩ := Hnx.out
              refine ⟨j + 1, by omega, by go_num, ?_, vB, mgP [] O 0 O.length, b, X3, lv_drop HOq, n1, fun _ => n2, HXq.out, n3⟩
              exact (((Hg.out.trans (Hg2.out.mono (fun k _ h => Or.inl h))).alloc _).trans (Hg5.out.mono (fun k _ h => Or.inl h))).trans HgT.out
            case measure => simp [intOf]; omega
      · have hjp : (0 : Int) < (j : Int) := by omega
        have hAne : Hid (A ≠ []) := Lib.hid (fun e => by
          have h1 : (kids P par)[0]? ≠ none := by rw [List.getElem?_eq_getElem (by omega)]; simp
          have h2 : (kids P par)[0]'(by omega) ∈ (kids P par).take j := by
            rw [List.mem_take_iff_getElem]
            exact ⟨0, by omega, rfl⟩
          obtain ⟨x, hx⟩ := mem_verts.1 (((row_take (W := W) (sep := sep) HP.out Hk.out j).vert _).2 ⟨_, h2, Bel.self⟩)
          have h3 := HA.out.1 _ hx
          rw [e] at h3
          simp at h3
          omega)
        have hA0 : 0 < A.length := by
          have := hAne.out
          cases A with
          | nil => exact absurd rfl this
          | cons p E => simp
        go_wp2_with (go_at_call 39; apply Calls.mono; (with_reducible exact Hcall.out); rintro e w2 hpost; obtain ⟨vO, O, t', X2, rfl, hownO, hO, hz', hX2, hWr2, hg2⟩ := hpost; have hO0 : 0 < O.length := (by have := (hO.1 _ hsok.out.root).2; dsimp only at this; omega); have hOw2 := lv_add HOw.out hg2 (by omega) hownO (by omega); obtain ⟨gO, cO, rfl, _, hgO, hOle, hOcap, _, hOc⟩ := hOw2.some (k := 2) rfl hO0; have hsz2 := hg2.size; have HOc := Lib.hid hOc; have HOw2 := Lib.hid hOw2; have HO := Lib.hid hO; have Hz' := Lib.hid (hz' (fun e => by have := hsok.out.root; rw [e] at this; cases this)); have HX2 := Lib.hid hX2; have HWr2 := Lib.hid hWr2; have Hg2 := Lib.hid hg2; have hOlen : O.length ≤ 64 := hO.len HP.out (fun q hq => ((hsok.out.vert q.1).1 (mem_verts.2 ⟨q.2, hq⟩)).lt hcn); have a2 := (hg2.cell (b := w.heap.size + 1) (i := 0) (by omega) (by unfold onX; omega)).trans a0; have hsep2 := ((Hst1.out.onX hg2).c2); clear hownO hO hz' hX2 hWr2 hg2 hOc hOw2)
        have HbA := Lib.hid (fun d (hd : d < A.length) => HA.out.bd HW.out (Hz.out (fun e => hAne.out (isExt_nil (by rw [← e]; exact HA.out)))) ((row_take HP.out Hk.out j).len HP.out (fun c hc => (mem_kids.1 (List.mem_of_mem_take hc)).1)) hd)
        have HbO := Lib.hid (fun d (hd : d < O.length) => HO.out.bd HW.out Hz'.out (hsok.out.len HP.out hcn) hd)
        obtain ⟨gA, cA', eA, _, hgA, _, _, _, hAc⟩ := HOw2.out.some (k := 1) rfl hA0
        cases eA
        have HAc := Lib.hid hAc
        have hs1 := HW.out.1
        have hs2 := HW.out.2.1
        clear hAc
        go_wp2
        go_loopw [9, 32] (fun v9 i wq => ∃ d : Nat, d ≤ O.length ∧ i = .int .i64 d ∧ v9 = .int .i64 (shP A O sep d) ∧ Grew (w2.alloc (.cells #[.slice (some ⟨gO, 0, none⟩) O.length cO] 61)) wq) (fun _ i _ => O.length - (intOf i).toNat)
        case atStart => exact ⟨0, Nat.zero_le _, rfl, rfl, Grew.refl _⟩
        case round =>
          obtain ⟨d, hd, rfl, rfl, hgq⟩ := hrel
          have Hgq := Lib.hid hgq
          have hszq := hgq.below.size
          simp at hszq
          have q0 : wr.cell? ⟨w.heap.size + 1, 0, none⟩ = some (.slice (some ⟨gA, 0, none⟩) A.length cA) := ((hgq.cellEq (v := .slice (some ⟨gA, 0, none⟩) A.length cA) (by first | (go_simp; done) | (simp [go_sem, ↓IntWalk.iteOmega, *]; done))))
          have q1 : wr.cell? ⟨S, 2, none⟩ = some (.int .i64 sep) := hgq.cellEq (v := .int .i64 sep) (by first | (go_simp; done) | (simp [go_sem, ↓IntWalk.iteOmega, *]; done))
          by_cases hdl : d < O.length
          · have o1 : wr.cell? ⟨gO, d * 2, none⟩ = some (.int .i64 (ex O d).1) := hgq.cellEq (v := .int .i64 (ex O d).1) (by have := HOc.out _ _ (flat_get O d hdl).1; (simp [go_sem, ↓IntWalk.iteOmega]); assumption)
            have o2 : wr.cell? ⟨gO, d * 2 + 1, none⟩ = some (.int .i64 (ex O d).2) := hgq.cellEq (v := .int .i64 (ex O d).2) (by have := HOc.out _ _ (flat_get O d hdl).2; (simp [go_sem, ↓IntWalk.iteOmega]); assumption)
            have hszw : wr.heap.size ≤ wr.heap.size := Nat.le_refl _
            have q3 : w.heap.size + 1 < wr.heap.size := by omega
            have q4 : gO < wr.heap.size := by omega
            have q5 : gA < wr.heap.size := by omega
            have q6 : S < wr.heap.size := by omega
            have bO := HbO.out d hdl
            obtain ⟨⟨bO1, bO2⟩, bO3, bO4⟩ := bO
            by_cases hdA : d < A.length
            · have r1 : wr.cell? ⟨gA, d * 2 + 1, none⟩ = some (.int .i64 (ex A d).2) := hgq.cellEq (v := .int .i64 (ex A d).2) (by have := HAc.out _ _ (flat_get A d hdA).2; (simp [go_sem, ↓IntWalk.iteOmega]); assumption)
              obtain ⟨⟨bA1, bA2⟩, bA3, bA4⟩ := HbA.out d hdA
              by_cases hup : d = 0 ∨ shP A O sep d < (ex A d).2 + sep - (ex O d).1
              · have Hnext : Hid (shP A O sep (d + 1) = (ex A d).2 + sep - (ex O d).1) := Lib.hid (by simp only [shP]; rw [if_pos hdA, if_pos hup])
                by_cases hz0 : d = 0
                · have hd0 : ((d : Int) == 0) = true := by simp [hz0]
                  clear hup hgq hz0
                  go_wp2
                  have hwa : IntKind.i64.wrap ((ex A d).2 + sep) = (ex A d).2 + sep := IntWalk.i64_in _ ⟨by omega, by omega⟩
                  have hwb : IntKind.i64.wrap ((ex A d).2 + sep - (ex O d).1) = (ex A d).2 + sep - (ex O d).1 := IntWalk.i64_in _ ⟨by omega, by omega⟩
                  refine wp_region_over (by kernel_rfl) (by kernel_rfl) ?_; (repeat (go_big_quiet_step (fail))); refine wpQuiet_nil ?_; rintro _ ⟨x, rfl⟩
                  clear hwa hwb
                  go_wp2
                  go_roundw
                  case rel => exact ⟨d + 1, by omega, by go_num, by rw [Hnext.out], Hgq.out.trans (by (repeat (first | exact Grew.refl _ | refine Grew.over ?_ _ | refine Grew.alloc ?_ _ | refine Grew.drew ?_ | refine Grew.drewN ?_ _)))⟩
                  case measure => simp [intOf]; omega
                · have hd0 : ((d : Int) == 0) = false := by rw [beq_eq_false_iff_ne]; omega
                  have hup2 := hup.resolve_left hz0
                  clear hgq hz0 hup
                  go_wp2
                  have hwa : IntKind.i64.wrap ((ex A d).2 + sep) = (ex A d).2 + sep := IntWalk.i64_in _ ⟨by omega, by omega⟩
                  have hwb : IntKind.i64.wrap ((ex A d).2 + sep - (ex O d).1) = (ex A d).2 + sep - (ex O d).1 := IntWalk.i64_in _ ⟨by omega, by omega⟩
                  refine wp_region_over (by kernel_rfl) (by kernel_rfl) ?_; (repeat (go_big_quiet_step (fail))); refine wpQuiet_nil ?_; rintro _ ⟨x, rfl⟩
                  clear hwa hwb
                  go_wp2
                  go_roundw
                  case rel => exact ⟨d + 1, by omega, by go_num, by rw [Hnext.out], Hgq.out.trans (by (repeat (first | exact Grew.refl _ | refine Grew.over ?_ _ | refine Grew.alloc ?_ _ | refine Grew.drew ?_ | refine Grew.drewN ?_ _)))⟩
                  case measure => simp [intOf]; omega
              · have Hnext : Hid (shP A O sep (d + 1) = shP A O sep d) := Lib.hid (by simp only [shP]; rw [if_pos hdA, if_neg hup])
                have hd0 : ((d : Int) == 0) = false := by rw [beq_eq_false_iff_ne]; omega
                have hup2 : (ex A d).2 + sep - (ex O d).1 ≤ shP A O sep d := by omega
                clear hup hgq
                go_wp2
                have hwa : IntKind.i64.wrap ((ex A d).2 + sep) = (ex A d).2 + sep := IntWalk.i64_in _ ⟨by omega, by omega⟩
                have hwb : IntKind.i64.wrap ((ex A d).2 + sep - (ex O d).1) = (ex A d).2 + sep - (ex O d).1 := IntWalk.i64_in _ ⟨by omega, by omega⟩
                refine wp_region_over (by kernel_rfl) (by kernel_rfl) ?_; (repeat (go_big_quiet_step (fail))); refine wpQuiet_nil ?_; rintro _ ⟨x, rfl⟩
                clear hwa hwb
                go_wp2
                go_roundw
                case rel => exact ⟨d + 1, by omega, by go_num, by rw [Hnext.out], Hgq.out.trans (by (repeat (first | exact Grew.refl _ | refine Grew.over ?_ _ | refine Grew.alloc ?_ _ | refine Grew.drew ?_ | refine Grew.drewN ?_ _)))⟩
                case measure => simp [intOf]; omega
            · have Hnext : Hid (shP A O sep (d + 1) = shP A O sep d) := Lib.hid (by simp only [shP]; rw [if_neg hdA])
              clear hgq
              go_wp2
              go_roundw
              case rel => exact ⟨d + 1, by omega, by go_num, by rw [Hnext.out], Hgq.out.trans (by (repeat (first | exact Grew.refl _ | refine Grew.over ?_ _ | refine Grew.alloc ?_ _ | refine Grew.drew ?_ | refine Grew.drewN ?_ _)))⟩
              case measure => simp [intOf]; omega
          · have hdn : d = O.length := by omega
            generalize hshe : shP A O sep d = sh
            have Hsh : Hid (sh = if A = [] then 0 else shP A O sep O.length) := Lib.hid (by rw [if_neg hAne.out, ← hshe, hdn])
            have Hshb : Hid (-300000000 ≤ sh ∧ sh ≤ 300000000) := Lib.hid (by rw [← hshe]; exact shP_bd ⟨hs1, hs2⟩ (fun d hd => (HbA.out d hd).2) (fun d hd => (HbO.out d hd).1) d hd)
            have HbA2 : Hid (∀ d, d < A.length → (-134217728 ≤ (ex A d).1 ∧ (ex A d).1 ≤ 134217728) ∧ -134217728 ≤ (ex A d).2 ∧ (ex A d).2 ≤ 134217728) := HbA
            clear hshe hdn hgq q0 q1
            have hshb : -300000000 ≤ sh ∧ sh ≤ 300000000 := Hshb.out
            obtain ⟨hshb1, hshb2⟩ := hshb
            have Hst4 := Lib.hid ((((Hst1.out.onX Hg2.out).grew ((Grew.refl _).alloc _))).grew (Hgq.out))
            have HX4 : Hid (XAt wr gx X2) := Lib.hid ((HX2.out.grew ((Grew.refl _).alloc _)).grew (Hgq.out))
            have Hbd4 : Hid (∀ u, Bel P c u → -1000000000000 ≤ ge X2 u ∧ ge X2 u ≤ 1000000000000) := Lib.hid (fun u hu => by
              obtain ⟨x, hx⟩ := mem_verts.1 ((hsok.out.vert u).2 hu)
              have h1 := HWr2.out.2.1 _ hx
              have h2 := Hz'.out.bd HW.out (hsok.out.len HP.out hcn) _ hx
              dsimp only at h1 h2
              omega)
            have Hl4 : Hid (X2.length = P.length) := Lib.hid (by rw [HWr2.out.1, HWr.out.1]; exact HXl.out)
            have Hmove := Lib.hid (Hall.out c sh X2 wr hcn (by omega) Hst4.out HX4.out Hl4.out Hbd4.out (by omega) (by omega))
            have HOw4 := Lib.hid ((HOw2.out.grew ((Grew.refl _).alloc _)).grew (Hgq.out))
            have HbO2 := Lib.hid (fun d (hd : d < O.length) => HO.out.bd HW.out Hz'.out (hsok.out.len HP.out hcn) hd)
            have t0 : (wr).cell? ⟨w2.heap.size, 0, none⟩ = some (.slice (some ⟨gO, 0, none⟩) O.length cO) := Grew.cellEq (w := (w2.alloc (.cells #[.slice (some ⟨gO, 0, none⟩) O.length cO] 61))) (Hgq.out) (by simp [go_sem])
            have hsz4 : w2.heap.size < (wr).heap.size := by have := Grew.below (w := (w2.alloc (.cells #[.slice (some ⟨gO, 0, none⟩) O.length cO] 61))) (Hgq.out); have := this.size; simp at this ⊢; omega
            go_wp2_with (go_at_call 33; apply Calls.mono; (with_reducible exact Hmove.out); rintro e w5 hpost; obtain ⟨rfl, hg5, X3, hX3, hM⟩ := hpost; have hsz5 := hg5.size; have t1 := (hg5.cell (b := w2.heap.size) (i := 0) hsz4 (by unfold onX; omega)).trans t0; have HOw5 := Lib.hid (HOw4.out.gr hg5 (fun k hk _ e => by unfold onX at e; omega)); have Hg5 := Lib.hid hg5; have HX3 := Lib.hid hX3; have HM := Lib.hid hM; clear hg5 hX3 hM)
            have HmgB : Hid (∀ d e, d ≤ O.length → e < (mgP A O sh d).length → (-500000000 ≤ (ex (mgP A O sh d) e).1 ∧ (ex (mgP A O sh d) e).1 ≤ 500000000) ∧ -500000000 ≤ (ex (mgP A O sh d) e).2 ∧ (ex (mgP A O sh d) e).2 ≤ 500000000) := Lib.hid (fun d e hd he => by
              obtain ⟨m1, m2⟩ := mgP_spec A O sh d
              rw [m2 e]
              rw [m1] at he
              by_cases h1 : e < d
              · have o1 := HbO2.out e (by omega)
                rw [if_pos h1]
                by_cases h2 : e < A.length
                · have a1 := HbA2.out e h2
                  rw [if_pos h2]
                  dsimp only
                  omega
                · rw [if_neg h2]
                  dsimp only
                  omega
              · rw [if_neg h1]
                have a1 := HbA2.out e (by omega)
                omega)
            go_loopw [72] (fun i wq => ∃ d : Nat, d ≤ O.length ∧ i = .int .i64 d ∧ Gr (fun k => w.heap.size + 1 ≤ k) w5 wq ∧ ∃ vB, Owns wq (w.heap.size + 1) (lvRows (w.heap.size + 1) vB (mgP A O sh d) [⟨.slice (some ⟨gO, 0, none⟩) O.length cO, 64, 2, O.length, flat O⟩])) (fun i _ => O.length - (intOf i).toNat)
            case atStart => exact ⟨0, Nat.zero_le _, rfl, Gr.refl _ _, _, HOw5.out⟩
            case round =>
              obtain ⟨d, hd, rfl, hgq, vB, hOq⟩ := hrel
              have Hgq2 := Lib.hid hgq
              have HOq := Lib.hid hOq
              have hszq := hgq.size
              have hml := (mgP_spec A O sh d).1
              obtain ⟨g0, c0, e0, _, hAq, _, _, hfq, hcq⟩ := hOq.some (k := 0) rfl (by omega)
              cases e0
              have u0 := hcq 0 _ rfl
              clear hcq hfq
              by_cases hdl : d < O.length
              · obtain ⟨g1, c1, e1, _, hgOq, _, _, _, hcO⟩ := hOq.some (k := 2) rfl hO0
                cases e1
                have u1 := hcO _ _ (flat_get O d hdl).1
                have u2 := hcO _ _ (flat_get O d hdl).2
                have hbO := HbO2.out d hdl
                obtain ⟨⟨bO1, bO2⟩, bO3, bO4⟩ := hbO
                clear hcO
                by_cases hdA : d < A.length
                · have hdm : d < (mgP A O sh d).length := by omega
                  obtain ⟨gB, cB, rfl, _, hgB, hlB, _, hfB, hcB⟩ := hOq.some (k := 1) rfl (by omega)
                  have u3 := hcB _ _ (flat_get _ d hdm).1
                  have u4 := hcB _ _ (flat_get _ d hdm).2
                  have u5 := hfB (d * 2)
                  have u6 := hfB (d * 2 + 1)
                  have hbm := HmgB.out d d hd hdm
                  obtain ⟨⟨bM1, bM2⟩, bM3, bM4⟩ := hbm
                  have Hdm := Lib.hid hdm
                  clear hcB hfB hOq hgq
                  go_wp2_with (go_at_call 40; apply Calls.mono; (with_reducible exact at_known (w.heap.size + 1) (w.heap.size + 1) _ _ _ d _ _ _ (HOq.out.grew (by (repeat (first | exact Grew.refl _ | refine Grew.over ?_ _ | refine Grew.alloc ?_ _ | refine Grew.drew ?_ | refine Grew.drewN ?_ _)))) Hdm.out (by omega)); rintro e w6 ⟨gB', cB', heq, rfl, hg6⟩; cases heq; have v0 : w6.cell? ⟨wr.heap.size, 0, none⟩ = some (.int .i64 ((ex O d).1 + sh)) := (hg6.cellEq (v := .int .i64 ((ex O d).1 + sh)) (by simp [go_sem])); have v1 : w6.cell? ⟨wr.heap.size, 1, none⟩ = some (.int .i64 ((ex O d).2 + sh)) := (hg6.cellEq (v := .int .i64 ((ex O d).2 + sh)) (by simp [go_sem])); have v3 := hg6.cellEq (b := gB) (i := d * 2) (v := .int .i64 (ex (mgP A O sh d) d).1) (by first | (go_simp; done) | (simp [go_sem, ↓IntWalk.iteOmega, *]; done)); have v4 := hg6.cellEq (b := gB) (i := d * 2 + 1) (v := .int .i64 (ex (mgP A O sh d) d).2) (by first | (go_simp; done) | (simp [go_sem, ↓IntWalk.iteOmega, *]; done)); have v5 := hg6.frozenEq (b := gB) (i := d * 2) (by first | rfl | omega | (simp <;> omega)) (by first | (go_simp; done) | (simp [go_sem, ↓IntWalk.iteOmega, *]; done)); have v6 := hg6.frozenEq (b := gB) (i := d * 2 + 1) (by first | rfl | omega | (simp <;> omega)) (by first | (go_simp; done) | (simp [go_sem, ↓IntWalk.iteOmega, *]; done)); have hsz6 := hg6.below.size; simp at hsz6; have HOq6 := Lib.hid ((HOq.out.grew ((Grew.refl _).alloc _)).grew hg6); have Hg6 : Hid (Gr (fun k => w.heap.size + 1 ≤ k) wr w6) := Lib.hid ((Gr.of_grew _ ((Grew.refl wr).alloc _)).over hg6); clear hg6)
                  have n1 : gB ≠ wr.heap.size := by omega
                  have n2 : wr.heap.size ≠ gB := by omega
                  have n3 : d * 2 ≠ d * 2 + 1 := by omega
                  have n4 : d * 2 + 1 ≠ d * 2 := by omega
                  have l1 : gB < w6.heap.size := by omega
                  have l2 : wr.heap.size < w6.heap.size := by omega
                  obtain ⟨m1, hm1, hm1'⟩ : ∃ m, (if (ex O d).1 + sh < (ex (mgP A O sh d) d).1 then (ex O d).1 + sh else (ex (mgP A O sh d) d).1) = m ∧ m = min (ex (mgP A O sh d) d).1 ((ex O d).1 + sh) := ⟨_, rfl, by split <;> omega⟩
                  obtain ⟨m2, hm2, hm2'⟩ : ∃ m, (if (ex (mgP A O sh d) d).2 < (ex O d).2 + sh then (ex O d).2 + sh else (ex (mgP A O sh d) d).2) = m ∧ m = max (ex (mgP A O sh d) d).2 ((ex O d).2 + sh) := ⟨_, rfl, by split <;> omega⟩
                  have Hnext : Hid (mgP A O sh (d + 1) = (mgP A O sh d).set d (m1, m2)) := Lib.hid (by simp only [mgP]; rw [if_pos Hdm.out, hm1', hm2'])
                  clear hm1' hm2'
                  refine wp_region_lex (Two 18 21 (fun b c => if c then (w6.setCell ⟨gB, d * 2, none⟩ (.int .i64 m1)).setCell ⟨gB, d * 2 + 1, none⟩ (.int .i64 m2) else if b then w6.setCell ⟨gB, d * 2, none⟩ (.int .i64 m1) else w6)) (by kernel_rfl) (by kernel_rfl) ?_ ?_
                  · (repeat (first | exact Grew.refl _ | refine Grew.over ?_ _ | refine Grew.alloc ?_ _ | refine Grew.drew ?_ | refine Grew.drewN ?_ _))
                  repeat (first
                    | (refine lex_skip rfl ?_ ?_
                       · exact Two.keep (by decide) (by decide)
                       (try simp only [Act.put, List.setIfInBounds_toArray, List.set_cons_zero, List.set_cons_succ]))
                    | (refine lex_pure (v := ?_) rfl ?_ (fun d w hd hr hC => ?_) ?_
                       rotate_left
                       · exact Two.keep (by decide) (by decide)
                       · (first
                           | (have hs1 := closed_undone (s := 18) hr.2 rfl (by decide +kernel) hd; have hs2 := closed_undone (s := 21) hr.2 rfl (by decide +kernel) hd; unfold Two at hC; rw [hs1, hs2] at hC; obtain ⟨x, rfl⟩ := hC; simp [go_sem, ↓IntWalk.iteOmega, v0, v1, v3, v4, v5, v6, n1, n2, n3, n4, hm1, hm2, Nat.not_le.2 l1]; try rfl)
                           | (have hs2 := closed_undone (s := 21) hr.2 rfl (by decide +kernel) hd; unfold Two at hC; rw [hs2] at hC; cases hs1 : d 18 <;> rw [hs1] at hC <;> obtain ⟨x, rfl⟩ := hC <;> simp [go_sem, ↓IntWalk.iteOmega, v0, v1, v3, v4, v5, v6, n1, n2, n3, n4, hm1, hm2, Nat.not_le.2 l1] <;> (try rfl))
                           | (obtain ⟨x, rfl⟩ := hC; simp [go_sem, ↓IntWalk.iteOmega, v0, v1, v3, v4, v5, v6, n1, n2, n3, n4, hm1, hm2, Nat.not_le.2 l1]; try rfl))
                       (try simp only [Act.put, List.setIfInBounds_toArray, List.set_cons_zero, List.set_cons_succ]))
                    | (refine lex_store rfl (fun d w hd hr hC => ?_) ?_
                       · (first
                           | (have hs2 := closed_undone (s := 21) hr.2 rfl (by decide +kernel) hd; unfold Two at hC ⊢; rw [mark_same, mark_other _ (by decide), hs2]; rw [hd, hs2] at hC; obtain ⟨x, rfl⟩ := hC; refine ⟨?_, ?_, ?_⟩; rotate_left; (simp [go_sem, ↓IntWalk.iteOmega, v0, v1, v3, v4, v5, v6, n1, n2, n3, n4, hm1, hm2, Nat.not_le.2 l1]; try rfl); (simp; exact ⟨_, rfl⟩))
                           | (have hs1 := ready_done (k := 18) hr.1 (by decide +kernel); unfold Two at hC ⊢; rw [mark_same, mark_other _ (by decide), hs1]; rw [hd, hs1] at hC; obtain ⟨x, rfl⟩ := hC; refine ⟨?_, ?_, ?_⟩; rotate_left; (simp [go_sem, ↓IntWalk.iteOmega, v0, v1, v3, v4, v5, v6, n1, n2, n3, n4, hm1, hm2, Nat.not_le.2 l1]; try rfl); (simp; exact ⟨_, rfl⟩)))
                       (try simp only [Act.put, List.setIfInBounds_toArray, List.set_cons_zero, List.set_cons_succ])))
                  refine lex_nil ?_
                  intro dLx w hd hC
                  unfold Two at hC; rw [hd 18 (by decide), hd 21 (by decide)] at hC; obtain ⟨x, rfl⟩ := hC; simp only [if_true]
                  clear hm1 hm2
                  go_wp2
                  go_roundw
                  case rel =>
                    refine ⟨d + 1, by omega, by go_num, Hgq2.out.trans (((Hg6.out.setCell (by omega) _).setCell (by omega) _).over (Grew.over' _ _)), .slice (some ⟨gB, 0, none⟩) (mgP A O sh d).length cB, ?_⟩
                    rw [Hnext.out]
                    exact (lv_set HOq6.out Hdm.out m1 m2).grew (Grew.over' _ _)
                  case measure => simp [intOf]; omega
                · have hdm : d = (mgP A O sh d).length := by omega
                  have hml2 : (mgP A O sh d).length ≤ 1000 := by omega
                  obtain ⟨pB, cB, rfl, hlB, hcB, _, _⟩ := hOq.ext (k := 1) rfl rfl
                  have Hdm := Lib.hid hdm
                  have Hnext : Hid (mgP A O sh (d + 1) = mgP A O sh d ++ [((ex O d).1 + sh, (ex O d).2 + sh)]) := Lib.hid (by simp only [mgP]; rw [if_neg (by omega)])
                  have Hsep : Hid (∀ k, k = w.heap.size + 1 ∨ (Value.slice pB (mgP A O sh d).length cB).ownBlock = some k → w.heap.size + 1 ≤ k) := Lib.hid (fun k hk => hk.elim (fun e => by omega) (fun e => ((HOq.out.1 1 _ rfl).lt k e).1))
                  clear hOq hgq hdm
                  go_wp2_with (go_at_call 40; apply Calls.mono; (with_reducible exact at_new (w.heap.size + 1) (w.heap.size + 1) _ _ _ d _ _ _ (HOq.out.grew (by (repeat (first | exact Grew.refl _ | refine Grew.over ?_ _ | refine Grew.alloc ?_ _ | refine Grew.drew ?_ | refine Grew.drewN ?_ _)))) Hdm.out hml2 (by first | rfl | omega | (simp <;> omega))); rintro e w6 ⟨vB', pt, rfl, hO6, hg6⟩; have HO6 := Lib.hid hO6; have Hg6 : Hid (Gr (fun k => w.heap.size + 1 ≤ k) wr w6) := Lib.hid ((Gr.of_grew _ ((Grew.refl wr).alloc _)).trans (hg6.mono (fun k _ hk => Hsep.out k hk))); clear hO6 hg6)
                  go_roundw
                  case rel => exact ⟨d + 1, by omega, by go_num, Hgq2.out.trans Hg6.out, vB', by rw [Hnext.out]; exact HO6.out⟩
                  case measure => simp [intOf]; omega
              · have hdn : d = O.length := by omega
                rw [hdn] at HOq
                have Hnx := Lib.hid (row_next HP.out HW.out Hk.out Hc.out HA.out (show IsExt P W (subD P W sep k c) base t' O by rw [← Hdep.out c Hcm.out]; exact HO.out) Hz.out Hz'.out HWr.out HWr2.out HM.out hO0 Hsh.out)
                have HXq : Hid (XAt wr gx X3) := Lib.hid (HX3.out.gr Hgq2.out (by omega))
                have HgT : Hid (Gr (exR gx (w.heap.size + 1)) w5 wr) := Lib.hid (Hgq2.out.mono (fun k _ h => Or.inr h))
                clear hOq hgq hdn
                go_wp2
                go_roundw
                case rel =>
                  obtain ⟨b, n1, n2, n3⟩ := Hnx.out
                  refine ⟨j + 1, by omega, by go_num, ?_, vB, mgP A O sh O.length, b, X3, lv_drop HOq, n1, fun _ => n2, HXq.out, n3⟩
                  exact ((((Hg.out.trans (Hg2.out.mono (fun k _ h => Or.inl h))).alloc _).over Hgq.out).trans (Hg5.out.mono (fun k _ h => Or.inl h))).trans HgT.out
                case measure => simp [intOf]; omega
    · have hjn : j = (kids P par).length := by omega
      go_wp2
      refine bodyPost_ret (v := .agg #[.slice pA A.length cA]) (by simp [results, Try.results32, go_sem, r0]) rfl ?_
      have e := HA.out
      have ez := Hz.out
      have ew := HWr.out
      rw [hjn, List.take_length] at e ez ew
      refine ⟨.slice pA A.length cA, A, t, X1, rfl, ?_, e, ez, HX1.out.gr ((Gr.refl (fun k => k = w.heap.size) wr).setCell (show (fun k => k = w.heap.size) w.heap.size from rfl) _) (by omega), ew, ?_⟩
      · have h := HOw.out.1 1 _ rfl
        exact ownsRow_base (ownsRow_gr h ((Gr.refl (fun k => k = w.heap.size) wr).setCell (show (fun k => k = w.heap.size) w.heap.size from rfl) _) (fun k h1 _ h2 => by omega)) (by omega)
      · exact (Hgw.out.setCell (Or.inr (Nat.le_refl _)) _).mono (fun k hk h => h.elim id (fun h => by omega))

end Go.Proofs.Ytgodoeefgmfpfaa
