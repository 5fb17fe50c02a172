/- renamed of the program. -/
import Derived.Test.YtbamckfjikpjlaaTreS
set_option linter.unusedSimpArgs false
set_option linter.unusedVariables false
namespace Go.Proofs.Ytbamckfjikpjlaa
open Go.RowKit
attribute [local go_sem ↓] Go.wp_at_zero Go.wp_at_succ

theorem cnt_len (l : List St) : l.length ≤ cntL l := by
  induction l with
  | nil => simp [cntL]
  | cons x l ih => cases x; simp only [cntL, List.length_cons]; omega
/-- A box of five cells that may be written. -/
def BF (w : World) (b : Nat) (v0 v1 v2 v3 v4 : Value) : Prop := Bx5 w b v0 v1 v2 v3 v4 ∧ ∀ i, w.frozen? ⟨b, i, none⟩ = false
theorem BF.box {w : World} {v0 v1 v2 v3 v4 : Value} {t : TypeId} : BF (w.alloc (.cells #[v0, v1, v2, v3, v4] t)) w.heap.size v0 v1 v2 v3 v4 := ⟨Bx5.box w v0 v1 v2 v3 v4 t, fun i => by simp [go_sem]⟩
theorem BF.grew {w w' : World} {b : Nat} {v0 v1 v2 v3 v4 : Value} (h : BF w b v0 v1 v2 v3 v4) (hg : Grew w w') : BF w' b v0 v1 v2 v3 v4 := ⟨h.1.grew hg, fun i => hg.frozenEq h.1.1 (h.2 i)⟩
theorem BF.gr {w w' : World} {b : Nat} {v0 v1 v2 v3 v4 : Value} (h : BF w b v0 v1 v2 v3 v4) {X : Nat → Prop} (hg : Gr X w w') (hn : ¬ X b) : BF w' b v0 v1 v2 v3 v4 := by
  refine ⟨⟨Nat.lt_of_lt_of_le h.1.1 hg.size, hg.cellEq hn h.1.2.1, hg.cellEq hn h.1.2.2.1, hg.cellEq hn h.1.2.2.2.1, hg.cellEq hn h.1.2.2.2.2.1, hg.cellEq hn h.1.2.2.2.2.2⟩, fun i => ?_⟩
  rw [hg.frozen h.1.1 hn]; exact h.2 i
theorem BF.set2 {w : World} {b : Nat} {v0 v1 v2 v3 v4 : Value} (h : BF w b v0 v1 v2 v3 v4) (u : Value) : BF (w.setCell ⟨b, 2, none⟩ u) b v0 v1 u v3 v4 := by
  obtain ⟨⟨h0, h1, h2, h3, h4, h5⟩, h6⟩ := h
  refine ⟨⟨by simpa [World.setCell] using h0, ?_, ?_, ?_, ?_, ?_⟩, fun i => ?_⟩ <;> simp [go_sem, *]
theorem BF.set3 {w : World} {b : Nat} {v0 v1 v2 v3 v4 : Value} (h : BF w b v0 v1 v2 v3 v4) (u : Value) : BF (w.setCell ⟨b, 3, none⟩ u) b v0 v1 v2 u v4 := by
  obtain ⟨⟨h0, h1, h2, h3, h4, h5⟩, h6⟩ := h
  refine ⟨⟨by simpa [World.setCell] using h0, ?_, ?_, ?_, ?_, ?_⟩, fun i => ?_⟩ <;> simp [go_sem, *]
theorem BF.set4 {w : World} {b : Nat} {v0 v1 v2 v3 v4 : Value} (h : BF w b v0 v1 v2 v3 v4) (u : Value) : BF (w.setCell ⟨b, 4, none⟩ u) b v0 v1 v2 v3 u := by
  obtain ⟨⟨h0, h1, h2, h3, h4, h5⟩, h6⟩ := h
  refine ⟨⟨by simpa [World.setCell] using h0, ?_, ?_, ?_, ?_, ?_⟩, fun i => ?_⟩ <;> simp [go_sem, *]
/-- The blocks that the elements of a list that grows keep clear of. -/
def XV (W : World) (v : Value) (k : Nat) : Prop := k < W.heap.size ∨ v.ownBlock = some k
/-- The first u refs renamed. -/
def rsU (f t : ByteArray) (rs : List P2) (u : Nat) : List P2 := (rs.take u).map (renP f t) ++ rs.drop u
theorem rsU_len (f t : ByteArray) (rs : List P2) (u : Nat) : (rsU f t rs u).length = rs.length := by unfold rsU; simp; omega
theorem rsU_0 (f t : ByteArray) (rs : List P2) : rsU f t rs 0 = rs := by unfold rsU; simp
theorem rsU_all (f t : ByteArray) (rs : List P2) : rsU f t rs rs.length = rs.map (renP f t) := by unfold rsU; simp
theorem rsU_get {f t : ByteArray} {rs : List P2} {u : Nat} {x : P2} (h : rs[u]? = some x) : (rsU f t rs u)[u]? = some x := by
  have hu := (List.getElem?_eq_some_iff.1 h).1
  unfold rsU
  rw [List.getElem?_append_right (by simp; omega), List.getElem?_drop]
  simp [Nat.min_eq_left (Nat.le_of_lt hu), h]
theorem rsU_next {f t : ByteArray} {rs : List P2} {u : Nat} {x : P2} (h : rs[u]? = some x) : rsU f t rs (u + 1) = (rsU f t rs u).set u (renP f t x) := by
  have hu := (List.getElem?_eq_some_iff.1 h).1
  unfold rsU
  rw [take_snoc' h, List.map_append, List.set_append_right _ _ (by simp; omega), List.append_assoc]
  congr 1
  have hd : rs.drop u = x :: rs.drop (u + 1) := by
    rw [List.drop_eq_getElem_cons hu]
    congr 1
    exact (List.getElem?_eq_some_iff.1 h).2
  rw [hd]
  simp [Nat.min_eq_left (Nat.le_of_lt hu)]
theorem rsU_same {f t : ByteArray} {rs : List P2} {u : Nat} {x : P2} (h : rs[u]? = some x) (he : renP f t x = x) : rsU f t rs (u + 1) = rsU f t rs u := by
  rw [rsU_next h, he]
  obtain ⟨h1, h2⟩ := List.getElem?_eq_some_iff.1 (rsU_get (f := f) (t := t) h)
  conv => lhs; rw [← h2]
  exact List.set_getElem_self h1
theorem renP_y {f t : ByteArray} {x y : ByteArray} (h : sq x f = true) : renP f t (x, y) = (t, y) := if_pos h
theorem renP_n {f t : ByteArray} {x y : ByteArray} (h : sq x f = false) : renP f t (x, y) = (x, y) := if_neg (by rw [h]; simp)

/-- The new statement, behind its last store. -/
theorem el_ok {n m' bb rl al : Nat} {W w4 w5 w6 : World} {v u5 u6 : Value} {kd : Int} {nmv : ByteArray} {rs' ats : List P2} {bd' : List St} {q2 q5 q6 : Option Addr} {c2 c5 c6 bl : Nat} (hn : n = m' + 1) (hkw : (Lit.int .i64 kd).wf = true) (hnm : nmv.size ≤ maxLen)
    (hs4 : SlX (fun k => k ≤ bb) rP2 2 w4 q2 c2 rs') (hrl : rs'.length = rl) (hg45 : Grew w4 w5) (hs5 : SlX (fun k => k ≤ bb) rP2 2 w5 q5 c5 ats) (hal : ats.length = al) (hb5 : bb < w5.heap.size) (hg56 : Grew (w5.setCell ⟨bb, 3, none⟩ u5) w6)
    (hs6 : SlX (fun k => k < (w5.setCell ⟨bb, 3, none⟩ u5).heap.size) (rStX (fun k => k < (w5.setCell ⟨bb, 3, none⟩ u5).heap.size) m') 5 w6 q6 c6 bd') (hbl : bd'.length = bl) (hX : ∀ k, XV W v k → k ≤ bb) :
    rStX (XV W v) n (w6.setCell ⟨bb, 4, none⟩ u6) [.int .i64 kd, .string nmv, .slice q2 rl c2, .slice q5 al c5, .slice q6 bl c6] (.mk kd nmv rs' ats bd') := by
  subst hn hrl hal hbl
  have hsz : (w5.setCell ⟨bb, 3, none⟩ u5).heap.size = w5.heap.size := by simp [World.setCell]
  have g3 : Gr (fun k => k = bb) w6 (w6.setCell ⟨bb, 4, none⟩ u6) := (Gr.refl (fun k => k = bb) w6).setCell (b := bb) rfl u6
  have g1 : Gr (fun k => k = bb) w5 (w6.setCell ⟨bb, 4, none⟩ u6) := (((Gr.refl (fun k => k = bb) w5).setCell (b := bb) rfl u5).over hg56).trans g3
  have g0 : Gr (fun k => k = bb) w4 (w6.setCell ⟨bb, 4, none⟩ u6) := (Gr.of_grew _ hg45).trans g1
  refine ⟨hkw, hnm, q2, c2, q5, c5, q6, c6, rfl, hs4.move g0 (fun k _ h => Nat.le_of_eq h) (fun k _ h => hX k h) (fun _ _ h => h), hs5.move g1 (fun k _ h => Nat.le_of_eq h) (fun k _ h => hX k h) (fun _ _ h => h),
    hs6.move g3 (fun k _ h => by rw [hsz]; omega) (fun k _ h => by have := hX k h; rw [hsz]; omega) (rStX.move g3 (fun k _ h => by rw [hsz]; omega) (fun k _ h => by have := hX k h; rw [hsz]; omega) m')⟩
theorem XV_le {W wr : World} {v : Value} {B : Nat} {α : Type} {R : List Value → α → Prop} {xs : List α} (hO : OwnSl layS R wr B v xs) (hg : Grew W wr) : ∀ k, XV W v k → k ≤ wr.heap.size := fun k hk => by
  rcases hk with h | h
  · have := hg.below.size; omega
  · have := (hO.lt h).2; omega

theorem old_ok {n B : Nat} {W wr w7 : World} {v : Value} {xs : List St} (hO : OwnSl layS (rStX (XV W v) n wr) wr B v xs) (hg : Grew wr w7) : OwnSl layS (rStX (XV W v) n w7) w7 B v xs :=
  (hO.imp fun ce x _ h => rStX.move (Y := fun _ => False) (Gr.of_grew _ hg) (fun _ _ h => h.elim) (fun _ _ h => h) n ce x h).grew hg
theorem app_ok {n B : Nat} {W w7 w7' w8 : World} {v v8 : Value} {ys : List St} (hO8 : OwnSl layS (rStX (XV W v) n w7) w8 B v8 ys) (hg7 : Grew w7 w7') (hg8 : w7'.grownBy w8 v.ownBlock) (hx8 : ∀ k, v8.ownBlock = some k → v.ownBlock = some k ∨ w7'.heap.size ≤ k) :
    OwnSl layS (rStX (XV W v8) n w8) w8 B v8 ys :=
  hO8.imp fun ce x _ h => rStX.move (Y := fun k => v.ownBlock = some k) ((Gr.of_grew _ hg7).trans ((Gr.of_grownBy hg8).mono fun k _ e => e.symm)) (fun k _ h => Or.inr h) (fun k hk h => by
    rcases h with h | h
    · exact Or.inl h
    · rcases hx8 k h with h' | h'
      · exact Or.inr h'
      · have := hg7.below.size; omega) n ce x h
theorem end_ok {n : Nat} {W w w' : World} {v : Value} {xs : List St} (hO : OwnSl layS (rStX (XV W v) n w) w W.heap.size v xs) (hg : Grew w w') : ∃ q c, v = .slice q xs.length c ∧ SlX (fun k => k < W.heap.size) (rStX (fun k => k < W.heap.size) n) 5 w' q c xs := by
  obtain ⟨q, c, hv, hs, hb⟩ := hO.slatB
  refine ⟨q, c, hv, ?_⟩
  have h1 : SlX (fun k => k < W.heap.size) (rStX (XV W v) n) 5 w q c xs := ⟨hs, fun _ a ha h => by have := (hb a ha).1; dsimp only at h; omega⟩
  exact h1.move (Y := fun _ => False) (Gr.of_grew _ hg) (fun _ _ h => h.elim) (fun _ _ h => h) (rStX.move (Y := fun _ => False) (Gr.of_grew _ hg) (fun _ _ h => h.elim) (fun k _ h => Or.inl h) n)

set_option maxHeartbeats 8000000 in
set_option maxRecDepth 4000 in
theorem renamed_p (f t : ByteArray) (ht : t.size ≤ maxLen) : ∀ (n : Nat) (p : Option Addr) (m cap : Nat) (l : List St) (w0 W : World) (_ : Sts n w0 p cap l) (_ : l.length = m) (_ : cntL l ≤ 600) (_ : smL l) (_ : Grew w0 W),
    Calls Try.prog 34 #[.slice p m cap, .string f, .string t] W fun e w' => (∃ q c, e = .returned (.slice q m c) ∧ SlX (fun k => k < W.heap.size) (rStX (fun k => k < W.heap.size) n) 5 w' q c (renL f t l)) ∧ Grew W w' := by
  intro n
  induction n using Nat.strongRecOn with
  | ind n ih =>
  intro p m cap l w0 W hS hm hct hsm hg0
  subst hm
  have hmc := len_lt hS
  have HS := Lib.hid hS
  have Ih := Lib.hid ih
  have Hg0 := Lib.hid hg0
  have Hct := Lib.hid hct
  have Hsm := Lib.hid hsm
  have Ht := Lib.hid ht
  clear ih hS hg0 hct hsm ht
  go_enter Try.func34, Try.ntmps34
  go_wp2
  go_loopw [7, 9, 10, 13, 35] (fun out _ _ i _ wr => ∃ k : Nat, k ≤ l.length ∧ i = .int .i64 k ∧ OwnSl layS (rStX (XV W out) n wr) wr W.heap.size out (renL f t (l.take k)) ∧ Grew W wr) (fun _ _ _ i _ _ => l.length - (intOf i).toNat)
  case atStart => exact ⟨0, Nat.zero_le _, rfl, by simp only [List.take_zero, renL]; exact OwnSl.none layS _ W W.heap.size, by (repeat (first | exact Grew.refl _ | refine Grew.over ?_ _ | refine Grew.alloc ?_ _ | refine Grew.drew ?_ | refine Grew.drewN ?_ _))⟩
  case round =>
    obtain ⟨k, hk, rfl, hO, hg⟩ := hrel
    have HO := Lib.hid hO
    have Hg := Lib.hid hg
    have Hg1 := Lib.hid (Hg0.out.trans hg)
    clear hO hg
    by_cases hlt : k < l.length
    · obtain ⟨b, o, kd, nm, rs, ats, bd, rp, rc, ap, ac, bp, bc, m', hm', rfl, hb, hx, hkw, hnm, c0, c1, c2, c3, c4, hR, hA, hB⟩ := sts_el HS.out hlt
      replace c0 := Hg1.out.cellEq c0
      replace c1 := Hg1.out.cellEq c1
      replace c2 := Hg1.out.cellEq c2
      replace c3 := Hg1.out.cellEq c3
      replace c4 := Hg1.out.cellEq c4
      replace hb := Nat.lt_of_lt_of_le hb Hg1.out.below.size
      have hm1 : m' < n := by omega
      have Hm' := Lib.hid hm'
      have Hx := Lib.hid hx
      have HB := Lib.hid hB
      have HR := Lib.hid hR
      have HA := Lib.hid hA
      have Hkw := Lib.hid hkw
      have Hnm := Lib.hid hnm
      have hsz : Hid (rs.length ≤ 40 ∧ ats.length ≤ 40 ∧ smL bd ∧ cntL bd ≤ 600 ∧ (l.take k).length ≤ 600) := Lib.hid (by
        have h1 := cnt_pre l 0
        have h2 := cnt_pre (l.take k) 0
        have h3 := cnt_pre bd (inn kd 0)
        obtain ⟨rest, hr⟩ := pre_split hx 0
        rw [hr] at h1
        simp at h1
        have h4 := Hct.out
        have h5 : smL (l.take (k + 1)) := by
          have := Hsm.out
          rw [← List.take_append_drop (k + 1) l, smL_app] at this
          exact this.1
        rw [take_snoc' hx, smL_app] at h5
        simp only [smL] at h5
        exact ⟨h5.2.1, h5.2.2.1, h5.2.2.2.1, by omega, by have := cnt_len (l.take k); omega⟩)
      have Hlen := Lib.hid (show (renL f t (l.take k)).length ≤ 600 by rw [renL_len]; exact hsz.out.2.2.2.2)
      have hr40 := hsz.out.1
      have ha40 := hsz.out.2.1
      clear hx hB hR hA hkw hm' hnm
      obtain ⟨nmv, hnv⟩ : ∃ nmv, renN f t kd nm = nmv := ⟨_, rfl⟩
      have Hnv := Lib.hid hnv
      have hcs : (kd = 1 ∧ (nm.toList == f.toList) = true ∧ t = nmv) ∨ (kd = 1 ∧ (nm.toList == f.toList) = false ∧ nm = nmv) ∨ ((kd == 1) = false ∧ nm = nmv) := by
        unfold renN at hnv
        by_cases h1 : kd = 1
        · cases h2 : sq nm f
          · right; left; rw [if_neg (by rw [h2]; simp)] at hnv; exact ⟨h1, sq_raw h2, hnv⟩
          · left; rw [if_pos ⟨h1, h2⟩] at hnv; exact ⟨h1, sq_raw h2, hnv⟩
        · right; right; rw [if_neg (fun h => h1 h.1)] at hnv; exact ⟨beq_eq_false_iff_ne.2 h1, hnv⟩
      have Hnmv := Lib.hid (show nmv.size ≤ maxLen by rw [← hnv]; unfold renN; split; exact Ht.out; exact Hnm.out)
      clear hnv
      rcases hcs with ⟨rfl, q1, rfl⟩ | ⟨rfl, q1, rfl⟩ | ⟨q1, rfl⟩
      all_goals
        go_wp2_with (go_at_call 48; apply Calls.mono; (with_reducible exact clone_ref _ _ _ rs _ (HR.out.grew stable_p2 (Hg1.out.trans (by (repeat (first | exact Grew.refl _ | refine Grew.over ?_ _ | refine Grew.alloc ?_ _ | refine Grew.drew ?_ | refine Grew.drewN ?_ _))))) rfl (by omega)); rintro e w2 ⟨⟨q2, cc2, rfl, hs2, hf2⟩, hg2⟩; have HB2 := Lib.hid (BF.box.grew hg2); have Hs2 := Lib.hid hs2; have Hf2 := Lib.hid hf2; have Hg2 := Lib.hid (Grew.trans (show Grew wr _ by (repeat (first | exact Grew.refl _ | refine Grew.over ?_ _ | refine Grew.alloc ?_ _ | refine Grew.drew ?_ | refine Grew.drewN ?_ _))) hg2); obtain ⟨⟨x0, x1, x2, x3, x4, x5⟩, xf⟩ := HB2.out; have xf2 := xf 2; clear xf hs2 hf2 hg2)
        clear x0 x1 x2 x3 x4 x5 xf2
        have Hx2 := Lib.hid (show SlX (fun k => k ≤ wr.heap.size) rP2 2 w2 q2 cc2 rs from ⟨Hs2.out, fun h0 a ha hle => by
          obtain ⟨g, hg, hge, -, -⟩ := Hf2.out h0
          rw [hg] at ha
          cases ha
          simp [go_sem] at hge
          dsimp only at hle
          omega⟩)
        obtain ⟨w3, hw3⟩ : ∃ w3, w2.setCell ⟨wr.heap.size, 2, none⟩ (.slice q2 rs.length cc2) = w3 := ⟨_, rfl⟩
        have HB3 := Lib.hid (HB2.out.set2 (.slice q2 rs.length cc2))
        have Hg3 := Lib.hid (show Grew wr (w2.setCell ⟨wr.heap.size, 2, none⟩ (.slice q2 rs.length cc2)) from Hg2.out.setCell (Nat.le_refl _) _)
        have Hx3 := Lib.hid (Hx2.out.move (w' := w2.setCell ⟨wr.heap.size, 2, none⟩ (.slice q2 rs.length cc2)) (Y := fun k => k = wr.heap.size) (X' := fun k => k ≤ wr.heap.size) (R' := rP2) ((Gr.refl (fun k => k = wr.heap.size) w2).setCell (b := wr.heap.size) rfl (.slice q2 rs.length cc2)) (fun k _ h => Nat.le_of_eq h) (fun k _ h => h) (fun _ _ h => h))
        have Hf3 := Lib.hid (show 0 < rs.length → ∃ g, q2 = some ⟨g, 0, none⟩ ∧ wr.heap.size < g ∧ ∀ i, (w2.setCell ⟨wr.heap.size, 2, none⟩ (.slice q2 rs.length cc2)).frozen? ⟨g, i, none⟩ = false from fun h0 => by
          obtain ⟨g, hg, hge, -, hf⟩ := Hf2.out h0
          simp [go_sem] at hge
          exact ⟨g, hg, by omega, fun i => by simp [go_sem, hf]⟩)
        rw [hw3] at HB3 Hg3 Hx3 Hf3 ⊢
        clear hw3
        obtain ⟨bb, hbb⟩ : ∃ bb, wr.heap.size = bb := ⟨_, rfl⟩
        rw [hbb] at HB3 Hx3 Hf3 ⊢
        have Hbb := Lib.hid hbb
        clear hbb
        go_loopw [10, 35] (fun _ i wv => ∃ u : Nat, u ≤ rs.length ∧ i = .int .i64 u ∧ SlX (fun k => k ≤ bb) rP2 2 wv q2 cc2 (rsU f t rs u) ∧ (0 < rs.length → ∃ g, q2 = some ⟨g, 0, none⟩ ∧ bb < g ∧ ∀ i, wv.frozen? ⟨g, i, none⟩ = false) ∧ Gr (fun k => bb < k) w3 wv) (fun _ i _ => rs.length - (intOf i).toNat)
        case atStart => exact ⟨0, Nat.zero_le _, rfl, by rw [rsU_0]; exact Hx3.out, Hf3.out, Gr.of_grew _ (by (repeat (first | exact Grew.refl _ | refine Grew.over ?_ _ | refine Grew.alloc ?_ _ | refine Grew.drew ?_ | refine Grew.drewN ?_ _)))⟩
        case round =>
          obtain ⟨u, hu, rfl, hxv, hfv, hgv⟩ := hrel
          have Hxv := Lib.hid hxv
          have Hfv := Lib.hid hfv
          have Hgv := Lib.hid hgv
          have HBv := Lib.hid (HB3.out.gr hgv (Nat.lt_irrefl _))
          have Hgw := Lib.hid (Hg3.out.gr (fun k hk => Nat.le_trans (Nat.le_of_eq Hbb.out) (Nat.le_of_lt hk)) hgv)
          obtain ⟨⟨x0, x1, x2, x3, x4, x5⟩, -⟩ := HBv.out
          clear hxv hfv hgv
          by_cases hult : u < rs.length
          · obtain ⟨g, rfl, hgg, hfz⟩ := Hfv.out (by omega)
            obtain ⟨b9, oo, s1, y1, hpe, hb9, e1, hs1, -, f1, f2⟩ := p2_el Hxv.out.1 (i := u) (by rw [rsU_len]; exact hult)
            cases hpe
            rw [Nat.zero_add] at f1 f2
            have hz := hfz (u * 2)
            have Hfz := Lib.hid hfz
            have E1 := Lib.hid e1
            have Ers : Hid (rs[u]? = some (s1, y1)) := Lib.hid (by
              have h1 := rsU_get (f := f) (t := t) (List.getElem?_eq_getElem hult)
              rw [E1.out] at h1
              rw [List.getElem?_eq_getElem hult, Option.some.inj h1])
            clear e1 hfz
            cases hq : sq s1 f
            · have hq' := sq_raw hq
              have Hn1 := Lib.hid (rsU_same (f := f) (t := t) Ers.out (renP_n hq))
              clear hq
              go_wp2
              go_roundw
              case rel => exact ⟨u + 1, hult, by go_num, by rw [Hn1.out]; exact Hxv.out.move (Y := fun _ => False) (Gr.of_grew _ (by (repeat (first | exact Grew.refl _ | refine Grew.over ?_ _ | refine Grew.alloc ?_ _ | refine Grew.drew ?_ | refine Grew.drewN ?_ _)))) (fun _ _ h => h.elim) (fun _ _ h => h) (fun _ _ h => h), fun h0 => ⟨g, rfl, hgg, Hfz.out⟩, Hgv.out.over (by (repeat (first | exact Grew.refl _ | refine Grew.over ?_ _ | refine Grew.alloc ?_ _ | refine Grew.drew ?_ | refine Grew.drewN ?_ _)))⟩
              case measure => simp [intOf]; omega
            · have hq' := sq_raw hq
              have Hn1 := Lib.hid (show rsU f t rs (u + 1) = (rsU f t rs u).set u (t, y1) by rw [rsU_next Ers.out, renP_y hq])
              have Hst := Lib.hid (p2_set Hxv.out.1 E1.out Ht.out)
              clear hq
              go_wp2
              go_roundw
              case rel => exact ⟨u + 1, hult, by go_num, by rw [Hn1.out]; exact ⟨Hst.out, fun _ a ha hle => by cases ha; dsimp only at hle; omega⟩, fun h0 => ⟨g, rfl, hgg, fun i => by simp [go_sem, Hfz.out]⟩, Hgv.out.setCell hgg _⟩
              case measure => simp [intOf]; omega
          · have hue : u = rs.length := by omega
            rw [hue, rsU_all] at Hxv
            clear Hfv hue
            go_wp2_with (first
              | (go_at_call 49; apply Calls.mono; (with_reducible exact clone_attr _ _ _ ats _ (HA.out.grew stable_p2 ((Hg1.out.trans Hgw.out).trans (by (repeat (first | exact Grew.refl _ | refine Grew.over ?_ _ | refine Grew.alloc ?_ _ | refine Grew.drew ?_ | refine Grew.drewN ?_ _))))) rfl (by omega)); rintro e w5 ⟨⟨q5, c5, rfl, hs5, hf5⟩, hg5⟩; have HB5 := Lib.hid (HBv.out.grew hg5); have Hs5 := Lib.hid (show SlX (fun k => k ≤ bb) rP2 2 w5 q5 c5 ats from ⟨hs5, fun h0 a ha hle => (by obtain ⟨g, hg, hge, -, -⟩ := hf5 h0; rw [hg] at ha; cases ha; dsimp only at hle; omega)⟩); have Hg45 := Lib.hid hg5; have Hg5 := Lib.hid (Hgw.out.trans hg5); obtain ⟨⟨y0, y1, y2, y3, y4, y5⟩, yf⟩ := HB5.out; have yf3 := yf 3; clear yf hs5 hf5 hg5)
              | (go_at_call 34; apply Calls.mono; (with_reducible exact Ih.out _ hm1 _ _ _ bd w0 _ HB.out rfl hsz.out.2.2.2.1 hsz.out.2.2.1 (Hg1.out.trans (Hg5.out.setCell (Nat.le_of_eq Hbb.out) _))); rintro e w6 ⟨⟨q6, c6, rfl, hs6⟩, hg6⟩; have HB6 := Lib.hid ((HB5.out.set3 _).grew hg6); have HEl := Lib.hid (el_ok (W := W) (u6 := .slice q6 bd.length c6) Hm'.out Hkw.out Hnmv.out Hxv.out (List.length_map _) Hg45.out Hs5.out rfl y0 hg6 hs6 (renL_len _ _ _) (fun k hk => Nat.le_trans (XV_le HO.out Hg.out k hk) (Nat.le_of_eq Hbb.out))); have Hg6 := Lib.hid ((Hg5.out.setCell (Nat.le_of_eq Hbb.out) _).trans hg6); have HOl := Lib.hid (old_ok HO.out (show Grew _ (w6.setCell ⟨bb, 4, none⟩ (.slice q6 bd.length c6)) from Hg6.out.setCell (Nat.le_of_eq Hbb.out) _)); have Hg7 := Lib.hid (show Grew W (w6.setCell ⟨bb, 4, none⟩ (.slice q6 bd.length c6)) from Hg.out.trans (Hg6.out.setCell (Nat.le_of_eq Hbb.out) _)); obtain ⟨⟨z0, z1, z2, z3, z4, z5⟩, zf⟩ := HB6.out; have zf4 := zf 4; clear zf hs6 hg6)
              | (at_builtin; refine wp_append_sl rfl layS _ rStX.one _ _ rfl W.heap.size _ (renL f t (l.take k)) _ (HOl.out.grew (by (repeat (first | exact Grew.refl _ | refine Grew.over ?_ _ | refine Grew.alloc ?_ _ | refine Grew.drew ?_ | refine Grew.drewN ?_ _)))) (Grew.trans Hg7.out (by (repeat (first | exact Grew.refl _ | refine Grew.over ?_ _ | refine Grew.alloc ?_ _ | refine Grew.drew ?_ | refine Grew.drewN ?_ _)))).below.size rfl _ _ _ rfl (slat_one _ _ (by simp [cellsAt, go_sem]) rfl (by decide) HEl.out) rfl (by have := Hlen.out; simp only [List.length_singleton, maxLen]; omega) (by have := Hlen.out; simp only [List.length_singleton, layS]; omega) ?_; intro v8 w8 hO8 hg8 hb8 hx8; have HO8 := Lib.hid (app_ok hO8 (by (repeat (first | exact Grew.refl _ | refine Grew.over ?_ _ | refine Grew.alloc ?_ _ | refine Grew.drew ?_ | refine Grew.drewN ?_ _))) hg8 hx8); have Hg8 := Lib.hid ((Hg7.out.trans (by (repeat (first | exact Grew.refl _ | refine Grew.over ?_ _ | refine Grew.alloc ?_ _ | refine Grew.drew ?_ | refine Grew.drewN ?_ _)))).grownBy hg8 hb8); clear hO8 hg8 hb8 hx8))
            have HO9 := Lib.hid (show OwnSl layS (rStX (XV W v8) n w8) w8 W.heap.size v8 (renL f t (l.take (k + 1))) by rw [renL_next Hx.out, Hnv.out]; exact HO8.out)
            go_roundw
            case rel => exact ⟨k + 1, hlt, by go_num, HO9.out, Hg8.out⟩
            case measure => simp [intOf]; omega
    · have htk : l.take k = l := List.take_of_length_le (by omega)
      rw [htk] at HO
      obtain ⟨q, c, rfl, hs⟩ := end_ok HO.out (Grew.refl _)
      have Hs := Lib.hid hs
      clear hs
      rw [renL_len] at HO
      go_wp2
      go_ret
      exact ⟨⟨q, c, by simp [renL_len], (Hs.out : SlX _ _ _ _ _ _ _).move (Y := fun _ => False) (Gr.of_grew _ (by (repeat (first | exact Grew.refl _ | refine Grew.over ?_ _ | refine Grew.alloc ?_ _ | refine Grew.drew ?_ | refine Grew.drewN ?_ _)))) (fun _ _ h => h.elim) (fun _ _ h => h) (fun _ _ h => h)⟩, Hg.out.trans (by (repeat (first | exact Grew.refl _ | refine Grew.over ?_ _ | refine Grew.alloc ?_ _ | refine Grew.drew ?_ | refine Grew.drewN ?_ _)))⟩
end Go.Proofs.Ytbamckfjikpjlaa
