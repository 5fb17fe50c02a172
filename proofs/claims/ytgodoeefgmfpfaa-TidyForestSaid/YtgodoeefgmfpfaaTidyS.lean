/- The contract of subtree, out of that of row. -/
import Derived.Test.YtgodoeefgmfpfaaTidyQ
set_option linter.unusedSimpArgs false
set_option linter.unusedVariables false
namespace Go.Proofs.Ytgodoeefgmfpfaa
open Go.RowKit
attribute [local go_sem ↓] Go.wp_at_zero Go.wp_at_succ

/-- What row and subtree return: the extents of the part s, its vertices' positions being written. -/
def PartPost (gx : Nat) (P W : List Int) (s : Dr) (base : Nat) (X : List Int) (w : World) (e : Ending) (w' : World) : Prop :=
  ∃ v E t X', e = .returned (.agg #[v]) ∧ w'.ownsRow w.heap.size 64 2 v E.length (flat E) ∧ IsExt P W s base t E ∧ (s ≠ [] → SpanZ W s t) ∧ XAt w' gx X' ∧ WrAt X s t X' ∧ Gr (onX gx) w w'

def RowAll (B S gc gx : Nat) (wp : Option Addr) (wc : Nat) (P W : List Int) (sep : Int) (k : Nat) : Prop := ∀ (par : Int) (base : Nat) (lp : Option Addr) (cap : Nat) (X : List Int) (w : World),
    (∀ c ∈ kids P par, P.length ≤ c + k) → (∀ c ∈ kids P par, dep P c = base) → Stat B S gc gx wp wc P W sep w → XAt w gx X → X.length = P.length → IntsX B gx w lp (intL (kids P par)) →
    Calls Try.prog 32 #[.pointer (some ⟨S, 0, none⟩), .slice lp (kids P par).length cap] w (PartPost gx P W (rowD P W sep (subD P W sep k) (kids P par)) base X w)
def SubAll (B S gc gx : Nat) (wp : Option Addr) (wc : Nat) (P W : List Int) (sep : Int) (k : Nat) : Prop := ∀ (v : Nat) (X : List Int) (w : World), v < P.length → P.length ≤ v + k →
    Stat B S gc gx wp wc P W sep w → XAt w gx X → X.length = P.length →
    Calls Try.prog 39 #[.pointer (some ⟨S, 0, none⟩), .int .i64 v] w (PartPost gx P W (subD P W sep k v) (dep P v) X w)

theorem onX_keep {B gx : Nat} : ∀ k, k < B → k ≠ gx → ¬ onX gx k := fun _ _ h => h
theorem Stat.onX {B S gc gx : Nat} {wp : Option Addr} {wc : Nat} {P W : List Int} {sep : Int} {w w' : World} (h : Stat B S gc gx wp wc P W sep w) (hg : Gr (onX gx) w w') : Stat B S gc gx wp wc P W sep w' := h.gr hg onX_keep
theorem Stat.grew {B S gc gx : Nat} {wp : Option Addr} {wc : Nat} {P W : List Int} {sep : Int} {w w' : World} (h : Stat B S gc gx wp wc P W sep w) (hg : Grew w w') : Stat B S gc gx wp wc P W sep w' := h.gr (Gr.of_grew (fun _ => False) hg) (fun _ _ _ e => e)
theorem XAt.grew {w w' : World} {gx : Nat} {X : List Int} (h : XAt w gx X) (hg : Grew w w') : XAt w' gx X := h.gr (Gr.of_grew (fun _ => False) hg) (fun e => e)
theorem IntsX.grew {B gx : Nat} {w w' : World} {p : Option Addr} {xs : List Int} (h : IntsX B gx w p xs) (hg : Grew w w') : IntsX B gx w' p xs := h.gr (Gr.of_grew (fun _ => False) hg) (fun _ _ _ e => e)

theorem own_ext {w1 : World} {B : Nat} {v : Value} {E : Ext} (h : w1.ownsRow B 64 2 v E.length (flat E)) : ∃ p cap, v = .slice p E.length cap ∧ (p = none → E.length = 0 ∧ cap = 0) ∧ E.length ≤ cap ∧ cap ≤ 9223372036854775807 ∧
    ∀ (W : World) (gx : Nat), gx < B → Gr (onX gx) w1 W → ∀ b, p = some b → ∀ j u, (flat E)[j]? = some u → W.cell? (b.add j) = some u := by
  obtain ⟨h1, h2⟩ := h
  rcases h2 with ⟨rfl, h0⟩ | ⟨g, cap, cur, rfl, hb, hh, hle, hm, hs, ht⟩
  · exact ⟨none, 0, by rw [h0], (fun _ => ⟨h0, rfl⟩), by omega, by omega, fun W gx _ _ b hb => by cases hb⟩
  · refine ⟨some ⟨g, 0, none⟩, cap, rfl, (fun h => by cases h), hle, by simp only [maxLen] at hm; omega, fun W gx hgx hg b hb' j u hj => ?_⟩
    cases hb'
    rw [Addr.add_lit, Nat.zero_add, hg.cell (lt_of_block hh) (by unfold Proofs.Ytgodoeefgmfpfaa.onX; omega)]
    rw [← ht, List.getElem?_take] at hj
    split at hj
    · simp only [World.cell?, hh]
      simpa using hj
    · cases hj
theorem isExt_nil {P W : List Int} {base : Nat} {t : Int} {E : Ext} (h : IsExt P W [] base t E) : E = [] := by
  cases E with
  | nil => rfl
  | cons p E =>
    obtain ⟨_, ⟨q, hq, _⟩, _⟩ := h.2 0 (by simp)
    cases hq

theorem row_ok {P W : List Int} {sep : Int} (hP : vFor P) {par : Int} {k : Nat} (hk : ∀ c ∈ kids P par, P.length ≤ c + k) : RowOK P W sep (kids P par) (rowD P W sep (subD P W sep k) (kids P par)) :=
  rowD_ok hP (p := par) _ (fun c hc => hc) (kids_sorted P par) (fun c hc => subD_ok hP k c (mem_kids.1 hc).1 (hk c hc))
theorem RowOK.lt {P W : List Int} {sep : Int} {par : Int} {s : Dr} (h : RowOK P W sep (kids P par) s) : ∀ q ∈ s, q.1 < P.length := fun q hq => by
  obtain ⟨c, hc, hb⟩ := (h.vert q.1).1 (mem_verts.2 ⟨q.2, hq⟩)
  exact hb.lt (mem_kids.1 hc).1

theorem sub_close {w wa w1 W2 Wb w2 : World} {gx R : Nat} {row : Option Nat} (hwa : Grew w wa) (h1 : Gr (onX gx) wa w1) (h2 : Gr (onX gx) w1 W2) (h3 : Grew W2 Wb) (h4 : Wb.grownBy w2 row) (h5 : ∀ k, row = some k → w.heap.size + 1 ≤ k)
    (hR : R = w.heap.size) (hgx : gx < w.heap.size) {X' : List Int} (hX : XAt W2 gx X') {e : TypeId} {v : Value} {n : Nat} {vs : List Value} (hO : w2.ownsRow (w.heap.size + 1) e 2 v n vs) (u : Value) :
    Gr (onX gx) w (w2.setCell ⟨R, 0, none⟩ u) ∧ XAt (w2.setCell ⟨R, 0, none⟩ u) gx X' ∧ (w2.setCell ⟨R, 0, none⟩ u).ownsRow w.heap.size e 2 v n vs := by
  subst hR
  have g4 : Gr (fun k => k = gx ∨ w.heap.size ≤ k) Wb w2 := (Gr.of_grownBy h4).mono (fun k _ hk => Or.inr (by have := h5 k hk.symm; omega))
  have g5 : Gr (fun k => k = gx ∨ w.heap.size ≤ k) w (w2.setCell ⟨w.heap.size, 0, none⟩ u) :=
    ((((Gr.of_grew _ hwa).trans (h1.mono (fun k _ hk => Or.inl hk))).trans (h2.mono (fun k _ hk => Or.inl hk))).trans (Gr.of_grew _ h3)).trans g4 |>.setCell (Or.inr (Nat.le_refl _)) u
  refine ⟨g5.mono (fun k hk h => h.elim id (fun h => by omega)), ?_, ?_⟩
  · have g6 : Gr (fun k => w.heap.size ≤ k) W2 (w2.setCell ⟨w.heap.size, 0, none⟩ u) :=
      ((Gr.of_grew _ h3).trans ((Gr.of_grownBy h4).mono (fun k _ hk => by have := h5 k hk.symm; omega))).setCell (Nat.le_refl _) u
    exact hX.gr g6 (by omega)
  · have g7 : Gr (fun k => k = w.heap.size) w2 (w2.setCell ⟨w.heap.size, 0, none⟩ u) := (Gr.refl (fun k => k = w.heap.size) w2).setCell (show (fun k => k = w.heap.size) w.heap.size from rfl) u
    exact ownsRow_base (ownsRow_gr hO g7 (fun k h1 _ h2 => by omega)) (by omega)
def SubFin (P W : List Int) (s : Dr) (v : Nat) (X X1 : List Int) (E : Ext) (xv lv : Int) : Prop := IsExt P W s (dep P v) xv ((lv, lv + ge W v) :: E) ∧ SpanZ W s xv ∧ WrAt X s xv (X1.set v xv)
theorem subD_leaf {P W : List Int} {sep : Int} {k v : Nat} (h : kids P v = []) : subD P W sep (k + 1) v = [(v, 0)] := by
  simp only [subD, h]
theorem fin_leaf {P W : List Int} {sep : Int} (hP : vFor P) (hW : wOK W sep) {k v : Nat} (hk : kids P v = []) (hv : v < P.length) {X X1 : List Int} (hl : X.length = P.length) {t : Int} {E : Ext} {base : Nat}
    (hE : IsExt P W (rowD P W sep (subD P W sep k) (kids P v)) base t E) (hWr : WrAt X (rowD P W sep (subD P W sep k) (kids P v)) t X1) : SubFin P W (subD P W sep (k + 1) v) v X X1 E 0 (-(ge W v / 2)) := by
  rw [hk] at hE hWr
  have hr : rowD P W sep (subD P W sep k) [] = [] := rfl
  rw [hr] at hE hWr
  have hE0 := isExt_nil hE
  subst hE0
  rw [subD_leaf hk]
  have h1 := ext_parent hP (W := W) (s := []) (t := 0) (m := 0) hv (IsExt.nil P W _ 0)
  have h2 : WrAt X [] 0 X1 := ⟨hWr.1, (fun q hq => by cases hq), hWr.2.2⟩
  have h3 := h2.parent (m := 0) (v := v) (by omega) (by simp [verts])
  refine ⟨?_, SpanZ.one hW v, ?_⟩
  · simpa [mvD] using h1
  · simpa [mvD] using h3
theorem subD_node {P W : List Int} {sep : Int} {k v c d : Nat} (h0 : (kids P v)[0]? = some c) (h1 : (kids P v)[(kids P v).length - 1]? = some d) :
    subD P W sep (k + 1) v = mvD (rowD P W sep (subD P W sep k) (kids P v)) (-((atD (rowD P W sep (subD P W sep k) (kids P v)) c + atD (rowD P W sep (subD P W sep k) (kids P v)) d) / 2)) ++ [(v, 0)] := by
  cases hk : kids P v with
  | nil => rw [hk] at h0; cases h0
  | cons a as' =>
    rw [hk] at h0 h1
    simp at h0
    subst h0
    have hd : (a :: as').getLast (by simp) = d := by
      rw [List.getLast_eq_getElem]
      have := (List.getElem?_eq_some_iff.1 h1).2
      exact this
    simp only [subD, hk, hd]
theorem fin_node {P W : List Int} {sep : Int} (hP : vFor P) (hW : wOK W sep) {k v c d : Nat} (h0 : (kids P v)[0]? = some c) (h1 : (kids P v)[(kids P v).length - 1]? = some d) (hv : v < P.length) {X X1 : List Int} (hl : X.length = P.length) {t : Int} {E : Ext}
    (hrow : RowOK P W sep (kids P v) (rowD P W sep (subD P W sep k) (kids P v))) (hE : IsExt P W (rowD P W sep (subD P W sep k) (kids P v)) (dep P v + 1) t E) (hWr : WrAt X (rowD P W sep (subD P W sep k) (kids P v)) t X1)
    (hz : rowD P W sep (subD P W sep k) (kids P v) ≠ [] → SpanZ W (rowD P W sep (subD P W sep k) (kids P v)) t) :
    SubFin P W (subD P W sep (k + 1) v) v X X1 E ((ge X1 c + ge X1 d) / 2) ((ge X1 c + ge X1 d) / 2 - ge W v / 2) ∧ (-134217728 ≤ ge X1 c ∧ ge X1 c ≤ 134217728) ∧ (-134217728 ≤ ge X1 d ∧ ge X1 d ≤ 134217728) := by
  obtain ⟨a, ha⟩ := mem_verts.1 ((hrow.vert c).2 ⟨c, List.mem_of_getElem? h0, Bel.self⟩)
  obtain ⟨b, hb⟩ := mem_verts.1 ((hrow.vert d).2 ⟨d, List.mem_of_getElem? h1, Bel.self⟩)
  have hz' := hz (by intro e; rw [e] at ha; cases ha)
  have ea := hWr.2.1 _ ha
  have eb := hWr.2.1 _ hb
  dsimp only at ea eb
  have hlen := hrow.len hP (fun c hc => (mem_kids.1 hc).1)
  have b1 := hz'.bd hW hlen _ ha
  have b2 := hz'.bd hW hlen _ hb
  dsimp only at b1 b2
  have hm : (ge X1 c + ge X1 d) / 2 = (a + b) / 2 + t := by rw [ea, eb]; omega
  have hnot : v ∉ verts (rowD P W sep (subD P W sep k) (kids P v)) := fun h => by
    obtain ⟨e, he, hbe⟩ := (hrow.vert v).1 h
    have := bel_ge hP hbe
    have := kid_gt hP (v := v) (u := e) he
    omega
  refine ⟨?_, ⟨by rw [ea]; omega, by rw [ea]; omega⟩, by rw [eb]; omega, by rw [eb]; omega⟩
  rw [subD_node h0 h1, atD_of hrow.nodup ha, atD_of hrow.nodup hb, hm]
  exact ⟨ext_parent hP hv hE, hz'.parent hW ha hb v, hWr.parent (by omega) hnot⟩
theorem len_cons' (p : Int × Int) (E : Ext) : List.length (p :: E) = 1 + List.length E := by rw [List.length_cons, Nat.add_comm]
theorem flat_cons (p : Int × Int) (E : Ext) : flat (p :: E) = [.int .i64 p.1, .int .i64 p.2] ++ flat E := rfl

set_option maxRecDepth 8000 in
set_option maxHeartbeats 8000000 in
theorem sub_succ (B S gc gx : Nat) (wp : Option Addr) (wc : Nat) (P W : List Int) (sep : Int) (hP : vFor P) (hW : wOK W sep) (k : Nat) (ih : RowAll B S gc gx wp wc P W sep k) : SubAll B S gc gx wp wc P W sep (k + 1) := by
  intro v X w hv hk hst hX hXl
  unfold RowAll at ih
  have HP := Lib.hid hP
  have HW := Lib.hid hW
  have h64 := hP.1
  have hkl := kids_len P v
  have Hst := Lib.hid hst
  obtain ⟨c0, c1, c2, c3, hS, hgc, hgx, hB, n1, n2, wl, wid, kid⟩ := hst
  obtain ⟨kp, kc, k1, k2, k3⟩ := kid v hv
  have hSw : S < w.heap.size := by omega
  have hgcw : gc < w.heap.size := by omega
  have hgxw : gx < w.heap.size := by omega
  have Hrok := Lib.hid (row_ok (W := W) (sep := sep) hP (par := (v : Int)) (k := k) (fun c hc => by have := kid_gt hP hc; omega))
  have Hrow := Lib.hid (fun (W1 : World) (hg : Grew w W1) => ih v (dep P v + 1) kp kc X W1 (fun c hc => by have := kid_gt hP hc; omega) (fun c hc => by
    obtain ⟨a1, a2⟩ := mem_kids.1 hc
    exact dep_kid hP a1 a2) (Hst.out.grew hg) (hX.grew hg) hXl (k2.grew hg))
  clear c1 c2 c3 wid kid ih hP hW hX k2
  have n1' := Ne.symm n1
  have n2' := Ne.symm n2
  cases hks : kids P v with
  | nil =>
    have Hfin := Lib.hid (fun (t : Int) (E : Ext) (X1 : List Int) => fin_leaf (sep := sep) (k := k) HP.out HW.out hks hv hXl (X1 := X1) (t := t) (E := E) (base := dep P v + 1))
    have hl0 : (kids P v).length ≤ 0 := by rw [hks]; exact Nat.le_refl _
    clear hks
    go_enter Try.func39, Try.ntmps39
    go_wp2_with (go_at_call 32; apply Calls.mono; (with_reducible exact Hrow.out _ (by (repeat (first | exact Grew.refl _ | refine Grew.over ?_ _ | refine Grew.alloc ?_ _ | refine Grew.drew ?_ | refine Grew.drewN ?_ _)))); rintro e w1 hpost; obtain ⟨vE, E, t, X1, rfl, hown, hE, hz, hX1, hWr, hg1⟩ := hpost; obtain ⟨pE, cE, rfl, hnE, hlE, hcE, hnews⟩ := own_ext hown; have hsz1 := hg1.size; have Hst1 := Lib.hid ((Hst.out.grew (by (repeat (first | exact Grew.refl _ | refine Grew.over ?_ _ | refine Grew.alloc ?_ _ | refine Grew.drew ?_ | refine Grew.drewN ?_ _)))).onX hg1); have r0 := hg1.cell (b := w.heap.size) (i := 0) (by simp) (by unfold onX; omega); have rf := hg1.frozen (b := w.heap.size) (i := 0) (by simp) (by unfold onX; omega); simp [go_sem] at r0 rf hsz1; have Hown := Lib.hid hown; have HE := Lib.hid hE; have Hz := Lib.hid hz; have HX1 := Lib.hid hX1; have HWr := Lib.hid hWr; have Hg1 := Lib.hid hg1; have HnE := Lib.hid hnE; have Hnews := Lib.hid hnews; have hEl := HE.out.len HP.out Hrok.out.lt; obtain ⟨s0, s1, s2, s3, _, _, _, hB1, _, _, _, wid1, kid1⟩ := Hst1.out; obtain ⟨bw, ow, hw3, hw4⟩ := wid1.1.open; obtain ⟨rfl, hw6⟩ := hw3 (by omega); have dW := hw4 v (by omega); have dX := hX1.cell (i := v) (by rw [hWr.1]; omega); have fX := hX1.free v; have hSw1 : S < w1.heap.size := (by omega); have hgcw1 : gc < w1.heap.size := (by omega); have hgxw1 : gx < w1.heap.size := (by omega); obtain ⟨kp1, kc1, k11, k12, k13⟩ := kid1 v hv; have Hk12 := Lib.hid k12; obtain ⟨bw', ow', hw7, hw8, hw9⟩ := wid1.2 (by omega); cases hw7; have hw8' := Ne.symm hw8; have hWv1 := (HW.out.2.2 v).1; have hWv2 := (HW.out.2.2 v).2; clear hown hE hz hX1 hWr hg1 hnE hnews wid1 kid1 hw3 hw4 k12)
    refine wp_region_over (by kernel_rfl) (by kernel_rfl) ?_; (repeat (go_big_quiet_step (fail))); refine wpQuiet_nil ?_; intro W2 hW; replace hW : Grew _ W2 := hW
    go_wp2
    have z1 : W2.cell? ⟨S, 1, none⟩ = _ := hW.cellEq (v := .slice (some ⟨bw, ow, none⟩) P.length wc) (by first | (go_simp; done) | (simp [go_sem, ↓IntWalk.iteOmega, *]; done))
    have z2 : W2.cell? ⟨bw, ow + v, none⟩ = _ := hW.cellEq (v := .int .i64 (ge W v)) (by first | (go_simp; done) | (simp [go_sem, ↓IntWalk.iteOmega, *]; done))
    have z3 : W2.cell? ⟨w1.heap.size, 0, none⟩ = _ := hW.cellEq (v := .slice pE E.length cE) (by first | (go_simp; done) | (simp [go_sem, ↓IntWalk.iteOmega, *]; done))
    have z4 : W2.cell? ⟨w.heap.size, 0, none⟩ = _ := hW.cellEq (v := .slice none 0 0) (by first | (go_simp; done) | (simp [go_sem, ↓IntWalk.iteOmega, *]; done))
    have z5 : W2.frozen? ⟨w.heap.size, 0, none⟩ = false := hW.frozenEq (by simp; omega) (by first | (go_simp; done) | (simp [go_sem, ↓IntWalk.iteOmega, *]; done))
    have z6 : w1.heap.size < W2.heap.size := by have := hW.below.size; simp at this; omega
    have z7 : w.heap.size < W2.heap.size := by omega
    have z8 : S < W2.heap.size := by omega
    have z9 : bw < W2.heap.size := by omega
    have zw : IntKind.i64.wrap (-(ge W v / 2) + ge W v) = -(ge W v / 2) + ge W v := IntWalk.i64_in _ ⟨by omega, by omega⟩
    have HgW : Hid (Gr (onX gx) w1 W2) := Lib.hid (Gr.over (by (repeat (first | exact Gr.refl _ _ | refine Gr.ovr ?_ _ | refine Gr.alloc ?_ _ | refine Gr.drew ?_ | refine Gr.setCell ?_ (onX_self _) _))) hW)
    have HxW : Hid (XAt W2 gx _) := Lib.hid (((HX1.out.set v 0).grew ((Grew.refl _).alloc _)).grew hW)
    clear hW
    go_region_law
      ((refine step_append_owns rfl _ _ 59 (by rfl) 64 2 16 (.agg #[.int .i64 0, .int .i64 0]) Try.underlying59 Try.infoExt rfl (by decide) (w.heap.size + 1) _ 0 _ _ _ (Owns.made (Owns.nil _ _) (by first | rfl | omega | (simp <;> omega)) _ _ 2 1 _ rfl (by decide) (by first | rfl | omega | (simp <;> omega))) rfl (by rfl) pE E.length cE (by rfl) (flat E) (flat_length E) HnE.out (Hnews.out _ gx (by first | rfl | omega | (simp <;> omega)) (HgW.out.trans (by (repeat (first | exact Gr.refl _ _ | refine Gr.ovr ?_ _ | refine Gr.alloc ?_ _ | refine Gr.drew ?_ | refine Gr.setCell ?_ (onX_self _) _))))) (flat_one E) (by simp only [maxLen]; omega) (by omega) (by first | rfl | omega | (simp <;> omega)) ?_; intro v1 w2 hO1 hg2 hb2 _; obtain ⟨gv, cv, rfl, _, _, _, _, _, _⟩ := hO1.some (k := 0) rfl (by omega); have q0 := grownBy_cell hg2 (b := w.heap.size) 0 (by first | rfl | omega | (simp <;> omega)) (fun g hg => by have := hb2 g hg; omega); have qf := grownBy_frozen hg2 (b := w.heap.size) 0 (by first | rfl | omega | (simp <;> omega)) (fun g hg => by have := hb2 g hg; omega); simp [go_sem, ↓IntWalk.iteOmega, z4, z5] at q0 qf; have hsz2 := hg2.size; simp at hsz2; have Hg2 := Lib.hid hg2; have HO1 := Lib.hid hO1; have Hb2 := Lib.hid hb2; clear hg2 hb2 hO1))
    all_goals
      go_wp2
      refine bodyPost_ret (v := .agg #[.slice (some ⟨gv, 0, none⟩) (1 + E.length) cv]) (by simp [results, Try.results39, go_sem, q0]) rfl ?_
      obtain ⟨e1, e2, e3⟩ := sub_close (R := w.heap.size) (by (repeat (first | exact Grew.refl _ | refine Grew.over ?_ _ | refine Grew.alloc ?_ _ | refine Grew.drew ?_ | refine Grew.drewN ?_ _))) Hg1.out HgW.out (by (repeat (first | exact Grew.refl _ | refine Grew.over ?_ _ | refine Grew.alloc ?_ _ | refine Grew.drew ?_ | refine Grew.drewN ?_ _))) Hg2.out Hb2.out rfl (by first | rfl | omega | (simp <;> omega)) HxW.out HO1.out.head (.slice (some ⟨gv, 0, none⟩) (1 + E.length) cv)
      obtain ⟨f1, f2, f3⟩ := Hfin.out t E X1 HE.out HWr.out
      refine ⟨_, _, _, _, rfl, ?_, f1, fun _ => f2, e2, f3, e1⟩
      rw [len_cons', flat_cons]
      exact e3
  | cons c0 cs =>
    have hl0 : 0 < (kids P v).length := by rw [hks]; simp
    obtain ⟨c, h0⟩ : ∃ c, (kids P v)[0]? = some c := ⟨_, List.getElem?_eq_getElem hl0⟩
    obtain ⟨dl, h1⟩ : ∃ dl, (kids P v)[(kids P v).length - 1]? = some dl := ⟨_, List.getElem?_eq_getElem (by omega)⟩
    have hcl := (mem_kids.1 (List.mem_of_getElem? h0)).1
    have hdl := (mem_kids.1 (List.mem_of_getElem? h1)).1
    have H0 := Lib.hid h0
    have H1 := Lib.hid h1
    clear hks h0 h1
    go_enter Try.func39, Try.ntmps39
    go_wp2_with (go_at_call 32; apply Calls.mono; (with_reducible exact Hrow.out _ (by (repeat (first | exact Grew.refl _ | refine Grew.over ?_ _ | refine Grew.alloc ?_ _ | refine Grew.drew ?_ | refine Grew.drewN ?_ _)))); rintro e w1 hpost; obtain ⟨vE, E, t, X1, rfl, hown, hE, hz, hX1, hWr, hg1⟩ := hpost; obtain ⟨pE, cE, rfl, hnE, hlE, hcE, hnews⟩ := own_ext hown; have hsz1 := hg1.size; have Hst1 := Lib.hid ((Hst.out.grew (by (repeat (first | exact Grew.refl _ | refine Grew.over ?_ _ | refine Grew.alloc ?_ _ | refine Grew.drew ?_ | refine Grew.drewN ?_ _)))).onX hg1); have r0 := hg1.cell (b := w.heap.size) (i := 0) (by simp) (by unfold onX; omega); have rf := hg1.frozen (b := w.heap.size) (i := 0) (by simp) (by unfold onX; omega); simp [go_sem] at r0 rf hsz1; have Hown := Lib.hid hown; have HE := Lib.hid hE; have Hz := Lib.hid hz; have HX1 := Lib.hid hX1; have HWr := Lib.hid hWr; have Hg1 := Lib.hid hg1; have HnE := Lib.hid hnE; have Hnews := Lib.hid hnews; have hEl := HE.out.len HP.out Hrok.out.lt; obtain ⟨s0, s1, s2, s3, _, _, _, hB1, _, _, _, wid1, kid1⟩ := Hst1.out; obtain ⟨bw, ow, hw3, hw4⟩ := wid1.1.open; obtain ⟨rfl, hw6⟩ := hw3 (by omega); have dW := hw4 v (by omega); have dX := hX1.cell (i := v) (by rw [hWr.1]; omega); have fX := hX1.free v; have hSw1 : S < w1.heap.size := (by omega); have hgcw1 : gc < w1.heap.size := (by omega); have hgxw1 : gx < w1.heap.size := (by omega); obtain ⟨kp1, kc1, k11, k12, k13⟩ := kid1 v hv; have Hk12 := Lib.hid k12; obtain ⟨bw', ow', hw7, hw8, hw9⟩ := wid1.2 (by omega); cases hw7; have hw8' := Ne.symm hw8; have hWv1 := (HW.out.2.2 v).1; have hWv2 := (HW.out.2.2 v).2; clear hown hE hz hX1 hWr hg1 hnE hnews wid1 kid1 hw3 hw4 k12)
    obtain ⟨hfin, ⟨hc1, hc2⟩, hd1, hd2⟩ := fin_node HP.out HW.out H0.out H1.out hv hXl Hrok.out HE.out HWr.out Hz.out
    have Hfin := Lib.hid hfin
    clear hfin
    obtain ⟨bk, ok, hk3, hk4⟩ := Hk12.out.1.open
    obtain ⟨rfl, hbk⟩ := hk3 (by rw [intL_length]; exact hl0)
    have dk0 := hk4 0 (by rw [intL_length]; exact hl0)
    have dk1 := hk4 ((kids P v).length - 1) (by rw [intL_length]; omega)
    rw [ge_intL' H0.out, Nat.add_zero] at dk0
    rw [ge_intL' H1.out] at dk1
    have dC := HX1.out.cell (i := c) (by rw [HWr.out.1]; omega)
    have dD := HX1.out.cell (i := dl) (by rw [HWr.out.1]; omega)
    clear hk3 hk4
    go_wp2
    have hws : IntKind.i64.wrap (ge X1 c + ge X1 dl) = ge X1 c + ge X1 dl := IntWalk.i64_in _ ⟨by omega, by omega⟩
    have hwl : IntKind.i64.wrap (((kids P v).length : Int) - 1) = ((kids P v).length : Int) - 1 := IntWalk.i64_in _ ⟨by omega, by omega⟩
    have htn : (((kids P v).length : Int) - 1).toNat = (kids P v).length - 1 := by omega
    have hz0 : w1.heap.size < (w1.alloc (.cells #[.slice pE E.length cE] 61)).heap.size := by simp
    refine wp_region_lex (One 29 (fun b => if b then (w1.setCell ⟨gx, v, none⟩ (.int .i64 ((ge X1 c + ge X1 dl) / 2))).alloc (.cells #[.slice pE E.length cE] 61) else w1.alloc (.cells #[.slice pE E.length cE] 61))) (by kernel_rfl) (by kernel_rfl) ?_ ?_
    · (repeat (first | exact Grew.refl _ | refine Grew.over ?_ _ | refine Grew.alloc ?_ _ | refine Grew.drew ?_ | refine Grew.drewN ?_ _))
    repeat (first
      | (refine lex_skip rfl ?_ ?_
         · exact One.keep (by decide)
         (try simp only [Act.put, List.setIfInBounds_toArray, List.set_cons_zero, List.set_cons_succ]))
      | (refine lex_pure (v := ?_) rfl ?_ (fun d w hd hr hC => ?_) ?_
         rotate_left
         · exact One.keep (by decide)
         · ((try (have hs := closed_undone (s := 29) hr.2 rfl (by decide +kernel) hd; unfold One at hC; rw [hs] at hC)); obtain ⟨x, rfl⟩ := hC; simp [go_sem, ↓IntWalk.iteOmega, s3, dk0, dk1, dC, dD, dX, fX, hws, hwl, htn]; try rfl)
         (try simp only [Act.put, List.setIfInBounds_toArray, List.set_cons_zero, List.set_cons_succ]))
      | (refine lex_call (v := ?_) (f := ?_) (args := ?_) rfl ?_ One.grew (fun d w hd hr hC => ?_) (fun d w hd hr hC => ?_) ?_
         rotate_left 3
         · exact One.keep (by decide)
         · ((try (have hs := closed_undone (s := 29) hr.2 rfl (by decide +kernel) hd; unfold One at hC; rw [hs] at hC)); obtain ⟨x, rfl⟩ := hC; simp [go_sem, ↓IntWalk.iteOmega, s3, dk0, dk1, dC, dD, dX, fX, hws, hwl, htn]; (refine ⟨?_, ?_⟩ <;> rfl))
         · ((try (have hs := closed_undone (s := 29) hr.2 rfl (by decide +kernel) hd; unfold One at hC; rw [hs] at hC)); obtain ⟨x, rfl⟩ := hC; (fail))
         (try simp only [Act.put, List.setIfInBounds_toArray, List.set_cons_zero, List.set_cons_succ]))
      | (refine lex_store rfl (fun d w hd hr hC => ?_) ?_
         · (unfold One at hC ⊢; rw [hd] at hC; rw [mark_same]; obtain ⟨x, rfl⟩ := hC; refine ⟨?_, ?_, ?_⟩; rotate_left; (simp [go_sem, ↓IntWalk.iteOmega, s3, dk0, dk1, dC, dD, dX, fX, hws, hwl, htn]; try rfl); (simp; exact ⟨_, rfl⟩))
         (try simp only [Act.put, List.setIfInBounds_toArray, List.set_cons_zero, List.set_cons_succ])))
    refine lex_nil ?_
    intro dLx W3 hd hW3
    unfold One at hW3; rw [hd 29 (by decide)] at hW3; simp only [if_true] at hW3
    clear hws hwl htn hz0
    have y1 : W3.cell? ⟨S, 1, none⟩ = _ := hW3.cellEq (v := .slice (some ⟨bw, ow, none⟩) P.length wc) (by first | (go_simp; done) | (simp [go_sem, ↓IntWalk.iteOmega, *]; done))
    have y2 : W3.cell? ⟨bw, ow + v, none⟩ = _ := hW3.cellEq (v := .int .i64 (ge W v)) (by first | (go_simp; done) | (simp [go_sem, ↓IntWalk.iteOmega, *]; done))
    have y3 : W3.cell? ⟨w1.heap.size, 0, none⟩ = _ := hW3.cellEq (v := .slice pE E.length cE) (by first | (go_simp; done) | (simp [go_sem, ↓IntWalk.iteOmega, *]; done))
    have y4 : W3.cell? ⟨w.heap.size, 0, none⟩ = _ := hW3.cellEq (v := .slice none 0 0) (by first | (go_simp; done) | (simp [go_sem, ↓IntWalk.iteOmega, *]; done))
    have y5 : W3.frozen? ⟨w.heap.size, 0, none⟩ = false := hW3.frozenEq (by simp; omega) (by first | (go_simp; done) | (simp [go_sem, ↓IntWalk.iteOmega, *]; done))
    have y6 : w1.heap.size < W3.heap.size := by have := hW3.below.size; simp at this; omega
    have y10 : W3.cell? ⟨S, 3, none⟩ = _ := hW3.cellEq (v := .slice (some ⟨gx, 0, none⟩) P.length P.length) (by first | (go_simp; done) | (simp [go_sem, ↓IntWalk.iteOmega, *]; done))
    have HgW3 : Hid (Gr (onX gx) w1 W3) := Lib.hid (Gr.over (by (repeat (first | exact Gr.refl _ _ | refine Gr.ovr ?_ _ | refine Gr.alloc ?_ _ | refine Gr.drew ?_ | refine Gr.setCell ?_ (onX_self _) _))) hW3)
    have HxW3 : Hid (XAt W3 gx (X1.set v ((ge X1 c + ge X1 dl) / 2))) := Lib.hid (((HX1.out.set v ((ge X1 c + ge X1 dl) / 2)).grew ((Grew.refl _).alloc _)).grew hW3)
    have y11 := HxW3.out.cell (i := v) (by rw [List.length_set, HWr.out.1]; omega)
    rw [ge_set X1 (by rw [HWr.out.1]; omega), if_pos rfl] at y11
    have y7 : w.heap.size < W3.heap.size := by omega
    have y8 : S < W3.heap.size := by omega
    have y9 : bw < W3.heap.size := by omega
    have y12 : gx < W3.heap.size := by omega
    clear hW3 s0 s1 s2 s3 dk0 dk1 dC dD dX fX dW c0 r0 rf k1 k11
    go_wp2
    refine wp_region_over (by kernel_rfl) (by kernel_rfl) ?_; (repeat (go_big_quiet_step (fail))); refine wpQuiet_nil ?_; intro W2 hW; replace hW : Grew _ W2 := hW
    go_wp2
    have z1 : W2.cell? ⟨S, 1, none⟩ = _ := hW.cellEq y1
    have z2 : W2.cell? ⟨bw, ow + v, none⟩ = _ := hW.cellEq y2
    have z3 : W2.cell? ⟨w1.heap.size, 0, none⟩ = _ := hW.cellEq y3
    have z4 : W2.cell? ⟨w.heap.size, 0, none⟩ = _ := hW.cellEq y4
    have z5 : W2.frozen? ⟨w.heap.size, 0, none⟩ = false := hW.frozenEq y7 y5
    have z6 : w1.heap.size < W2.heap.size := by have := hW.below.size; omega
    have z7 : w.heap.size < W2.heap.size := by omega
    have z8 : S < W2.heap.size := by omega
    have z9 : bw < W2.heap.size := by omega
    have zw : IntKind.i64.wrap ((ge X1 c + ge X1 dl) / 2 - ge W v / 2 + ge W v) = (ge X1 c + ge X1 dl) / 2 - ge W v / 2 + ge W v := IntWalk.i64_in _ ⟨by omega, by omega⟩
    have HgW : Hid (Gr (onX gx) w1 W2) := Lib.hid (HgW3.out.over hW)
    have HxW : Hid (XAt W2 gx _) := Lib.hid (HxW3.out.grew hW)
    clear hW y1 y2 y3 y4 y5 y6 y7 y8 y9 y10 y11 y12
    go_region_law
      ((refine step_append_owns rfl _ _ 59 (by rfl) 64 2 16 (.agg #[.int .i64 0, .int .i64 0]) Try.underlying59 Try.infoExt rfl (by decide) (w.heap.size + 1) _ 0 _ _ _ (Owns.made (Owns.nil _ _) (by first | rfl | omega | (simp <;> omega)) _ _ 2 1 _ rfl (by decide) (by first | rfl | omega | (simp <;> omega))) rfl (by rfl) pE E.length cE (by rfl) (flat E) (flat_length E) HnE.out (Hnews.out _ gx (by first | rfl | omega | (simp <;> omega)) (HgW.out.trans (by (repeat (first | exact Gr.refl _ _ | refine Gr.ovr ?_ _ | refine Gr.alloc ?_ _ | refine Gr.drew ?_ | refine Gr.setCell ?_ (onX_self _) _))))) (flat_one E) (by simp only [maxLen]; omega) (by omega) (by first | rfl | omega | (simp <;> omega)) ?_; intro v1 w2 hO1 hg2 hb2 _; obtain ⟨gv, cv, rfl, _, _, _, _, _, _⟩ := hO1.some (k := 0) rfl (by omega); have q0 := grownBy_cell hg2 (b := w.heap.size) 0 (by first | rfl | omega | (simp <;> omega)) (fun g hg => by have := hb2 g hg; omega); have qf := grownBy_frozen hg2 (b := w.heap.size) 0 (by first | rfl | omega | (simp <;> omega)) (fun g hg => by have := hb2 g hg; omega); simp [go_sem, ↓IntWalk.iteOmega, z4, z5] at q0 qf; have hsz2 := hg2.size; simp at hsz2; have Hg2 := Lib.hid hg2; have HO1 := Lib.hid hO1; have Hb2 := Lib.hid hb2; clear hg2 hb2 hO1))
    all_goals
      go_wp2
      refine bodyPost_ret (v := .agg #[.slice (some ⟨gv, 0, none⟩) (1 + E.length) cv]) (by simp [results, Try.results39, go_sem, q0]) rfl ?_
      obtain ⟨e1, e2, e3⟩ := sub_close (R := w.heap.size) (by (repeat (first | exact Grew.refl _ | refine Grew.over ?_ _ | refine Grew.alloc ?_ _ | refine Grew.drew ?_ | refine Grew.drewN ?_ _))) Hg1.out HgW.out (by (repeat (first | exact Grew.refl _ | refine Grew.over ?_ _ | refine Grew.alloc ?_ _ | refine Grew.drew ?_ | refine Grew.drewN ?_ _))) Hg2.out Hb2.out rfl (by first | rfl | omega | (simp <;> omega)) HxW.out HO1.out.head (.slice (some ⟨gv, 0, none⟩) (1 + E.length) cv)
      obtain ⟨f1, f2, f3⟩ := Hfin.out
      refine ⟨_, _, _, _, rfl, ?_, f1, fun _ => f2, e2, f3, e1⟩
      rw [len_cons', flat_cons]
      exact e3

end Go.Proofs.Ytgodoeefgmfpfaa
