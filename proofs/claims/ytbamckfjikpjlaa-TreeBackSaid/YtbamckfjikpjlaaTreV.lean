/- Rename of the program and of the reference. -/
import Derived.Test.YtbamckfjikpjlaaTreU
import Derived.Test.YtbamckfjikpjlaaTreR
import Derived.Laws.ResultCell
set_option linter.unusedSimpArgs false
set_option linter.unusedVariables false
namespace Go.Proofs.Ytbamckfjikpjlaa
open Go.RowKit
attribute [local go_sem ↓] Go.wp_at_zero Go.wp_at_succ

/-- The error of a renaming. -/
def rnE (name : ByteArray) (l : List St) (f t : ByteArray) : Int :=
  if vlE name l = 0 then (if nameB f = true ∧ nameB t = true then (if memB f (nmsL (pre l 0)) = true then (if memB t (nmsL (pre l 0)) = true ∨ memB t (clsL (pre l 0)) = true then 6 else 0) else 15) else 5) else 1
def rnL (name : ByteArray) (l : List St) (f t : ByteArray) : List St := if rnE name l f t = 0 then renL f t l else []
/-- What a renaming answers. -/
def RnPost (name : ByteArray) (dir : Bool) (l : List St) (f t : ByteArray) (e : Ending) (w : World) : Prop :=
  ∃ q c, e = .returned (.tuple #[.agg #[.string (if rnE name l f t = 0 then name else ⟨#[]⟩), .bool (decide (rnE name l f t = 0) && dir), .slice q (rnL name l f t).length c], .int .i64 (rnE name l f t)]) ∧ Sts 20 w q c (rnL name l f t)
theorem RnPost.err {name : ByteArray} {dir : Bool} {l : List St} {f t : ByteArray} {w : World} {r : Int} (hr : rnE name l f t = r) (h0 : r ≠ 0) : RnPost name dir l f t (.returned (.tuple #[.agg #[.string ⟨#[]⟩, .bool false, .slice none 0 0], .int .i64 r])) w := by
  unfold RnPost rnL
  rw [hr, if_neg h0, if_neg h0, decide_eq_false h0]
  exact ⟨none, 0, rfl, by simp, Nat.zero_le _, fun _ => rfl, fun i x hx => by simp at hx⟩
theorem RnPost.ok {name : ByteArray} {dir : Bool} {l : List St} {f t : ByteArray} {w : World} {q : Option Addr} {n c : Nat} (hr : rnE name l f t = 0) (hn : l.length = n) (hs : Sts 20 w q c (renL f t l)) : RnPost name dir l f t (.returned (.tuple #[.agg #[.string name, .bool dir, .slice q n c], .int .i64 0])) w := by
  unfold RnPost rnL
  rw [hr, if_pos rfl, if_pos rfl, renL_len, hn]
  exact ⟨q, c, by simp, hs⟩
/-- The boxes of a renaming: the tree, the result. -/
def RnB (w : World) (b : Nat) (v0 v1 v2 : Value) : Prop :=
  b + 1 < w.heap.size ∧ (w.cell? ⟨b, 0, none⟩ = some v0 ∧ w.cell? ⟨b, 1, none⟩ = some v1 ∧ w.cell? ⟨b, 2, none⟩ = some v2 ∧ w.frozen? ⟨b, 2, none⟩ = false) ∧
  w.cell? ⟨b + 1, 0, none⟩ = some (.string ⟨#[]⟩) ∧ w.cell? ⟨b + 1, 1, none⟩ = some (.bool false) ∧ w.cell? ⟨b + 1, 2, none⟩ = some (.slice none 0 0) ∧ w.frozen? ⟨b + 1, 0, none⟩ = false ∧ w.frozen? ⟨b + 1, 1, none⟩ = false ∧ w.frozen? ⟨b + 1, 2, none⟩ = false
theorem RnB.grew {w w' : World} {b : Nat} {v0 v1 v2 : Value} (h : RnB w b v0 v1 v2) (hg : Grew w w') : RnB w' b v0 v1 v2 := by
  obtain ⟨h0, ⟨h1, h2, h3, h4⟩, h5, h6, h7, h8, h9, h10⟩ := h
  exact ⟨Nat.lt_of_lt_of_le h0 hg.below.size, ⟨hg.cellEq h1, hg.cellEq h2, hg.cellEq h3, hg.frozenEq (by omega) h4⟩, hg.cellEq h5, hg.cellEq h6, hg.cellEq h7, hg.frozenEq h0 h8, hg.frozenEq h0 h9, hg.frozenEq h0 h10⟩
theorem RnB.start (w : World) (v0 v1 v2 : Value) (t : TypeId) : RnB ((w.alloc (.cells #[v0, v1, v2] t)).alloc (.cells #[.string ⟨#[]⟩, .bool false, .slice none 0 0] t)) w.heap.size v0 v1 v2 := by
  refine ⟨by simp [go_sem], ⟨?_, ?_, ?_, ?_⟩, ?_, ?_, ?_, ?_, ?_, ?_⟩ <;> simp [go_sem]

/-- The new tree behind the stores of the result. -/
theorem rn_sts {n b B c : Nat} {w1 wf : World} {q : Option Addr} {L : List St} (hs : SlX (fun k => k < B) (rStX (fun k => k < B) n) 5 w1 q c L) (hb : b + 1 < B) (hg : Gr (fun k => k = b ∨ k = b + 1) w1 wf) : Sts n wf q c L := by
  have hY : ∀ k, k < w1.heap.size → (k = b ∨ k = b + 1) → k < B := fun k _ h => by omega
  exact (hs.move hg hY (fun _ _ h => h) (rStX.move hg hY (fun _ _ h => h) n)).1.imp fun cs x _ => rStX.st n cs x
theorem namesp_e {name : ByteArray} {dir : Bool} {p : Option Addr} {n cap : Nat} {l : List St} {w0 w : World} {N : List ByteArray} (he : namesL name l = N) (hS : Sts 20 w0 p cap l) (hg : Grew w0 w) (hn : l.length = n) (hc : cntL l ≤ 600) (hsm : smL l) :
    Calls Try.prog 11 #[.agg #[.string name, .bool dir, .slice p n cap]] w fun e w' => (∃ q c, e = .returned (.slice q N.length c) ∧ Strs w' q c N) ∧ Grew w w' := he ▸ names_p name dir p n cap l w (hS.grew (stable_st _) hg) hn hc hsm
theorem clustp_e {name : ByteArray} {dir : Bool} {p : Option Addr} {n cap : Nat} {l : List St} {w0 w : World} {N : List ByteArray} (he : clustL name l = N) (hS : Sts 20 w0 p cap l) (hg : Grew w0 w) (hn : l.length = n) (hc : cntL l ≤ 600) :
    Calls Try.prog 13 #[.agg #[.string name, .bool dir, .slice p n cap]] w fun e w' => (∃ q c, e = .returned (.slice q N.length c) ∧ Strs w' q c N) ∧ Grew w w' := he ▸ clusters_p name dir p n cap l w (hS.grew (stable_st _) hg) hn hc
theorem namesr_e {name : ByteArray} {dir : Bool} {p : Option Addr} {n cap : Nat} {l : List St} {w0 w : World} {N : List ByteArray} (he : namesL name l = N) (hS : Sts 20 w0 p cap l) (hg : Grew w0 w) (hn : l.length = n) (hc : cntL l ≤ 600) (hd : depL l ≤ 20) (hsm : smL l) :
    Calls Try.prog 12 #[.agg #[.string name, .bool dir, .slice p n cap]] w fun e w' => (∃ q c, e = .returned (.slice q N.length c) ∧ Strs w' q c N) ∧ Grew w w' := he ▸ names_r name dir p n cap l w (hS.grew (stable_st _) hg) hn hc hd hsm
theorem clustr_e {name : ByteArray} {dir : Bool} {p : Option Addr} {n cap : Nat} {l : List St} {w0 w : World} {N : List ByteArray} (he : clustL name l = N) (hS : Sts 20 w0 p cap l) (hg : Grew w0 w) (hn : l.length = n) (hc : cntL l ≤ 600) (hd : depL l ≤ 20) :
    Calls Try.prog 14 #[.agg #[.string name, .bool dir, .slice p n cap]] w fun e w' => (∃ q c, e = .returned (.slice q N.length c) ∧ Strs w' q c N) ∧ Grew w w' := he ▸ clusters_r name dir p n cap l w (hS.grew (stable_st _) hg) hn hc hd
/-- What decides on a renaming. -/
theorem rn_cases {name : ByteArray} {l : List St} {f t : ByteArray} {N C : List ByteArray} (he : vlE name l = 0) (hN : namesL name l = N) (hC : clustL name l = C) :
    (nameB f = false ∧ rnE name l f t = 5) ∨ (nameB f = true ∧ nameB t = false ∧ rnE name l f t = 5) ∨ (nameB f = true ∧ nameB t = true ∧ memB f N = false ∧ rnE name l f t = 15) ∨
    (nameB f = true ∧ nameB t = true ∧ memB f N = true ∧ memB t N = true ∧ rnE name l f t = 6) ∨ (nameB f = true ∧ nameB t = true ∧ memB f N = true ∧ memB t N = false ∧ memB t C = true ∧ rnE name l f t = 6) ∨
    (nameB f = true ∧ nameB t = true ∧ memB f N = true ∧ memB t N = false ∧ memB t C = false ∧ rnE name l f t = 0) := by
  have e1 : nmsL (pre l 0) = N := by rw [← hN]; exact (if_pos he).symm
  have e2 : clsL (pre l 0) = C := by rw [← hC]; exact (if_pos he).symm
  unfold rnE
  rw [he, e1, e2]
  cases nameB f <;> cases nameB t <;> cases memB f N <;> cases memB t N <;> cases memB t C <;> simp

set_option maxHeartbeats 4000000 in
theorem rename_p (name : ByteArray) (dir : Bool) (p : Option Addr) (n cap : Nat) (l : List St) (f t : ByteArray) (w : World) (hS : Sts 20 w p cap l) (hn : l.length = n) (hc : cntL l ≤ 600) (hsm : smL l) (ht : t.size ≤ maxLen) :
    Calls Try.prog 15 #[.agg #[.string name, .bool dir, .slice p n cap], .string f, .string t] w fun e w' => RnPost name dir l f t e w' ∧ Grew w w' := by
  have HS := Lib.hid hS
  have Hb := Lib.hid (RnB.start w (.string name) (.bool dir) (.slice p n cap) 24)
  clear hS
  obtain ⟨e0, he⟩ : ∃ e, vlE name l = e := ⟨_, rfl⟩
  have He := Lib.hid he
  clear he
  by_cases h0 : e0 = 0
  case neg =>
    have hr := Lib.hid (show rnE name l f t = 1 from if_neg (by rw [He.out]; exact h0))
    have h0' : (e0 == 0) = false := beq_eq_false_iff_ne.2 h0
    have h0'' : (e0 != 0) = true := bne_iff_ne.2 h0
    go_enter Try.func15, Try.ntmps15
    go_wp2_with (go_at_call 18; apply Calls.mono; (with_reducible exact validp_e He.out HS.out (by (repeat (first | exact Grew.refl _ | refine Grew.over ?_ _ | refine Grew.alloc ?_ _ | refine Grew.drew ?_ | refine Grew.drewN ?_ _))) hn hc); rintro e w1 ⟨rfl, hg1⟩; have Hg1 := Lib.hid (show Grew w w1 from Grew.trans (by (repeat (first | exact Grew.refl _ | refine Grew.over ?_ _ | refine Grew.alloc ?_ _ | refine Grew.drew ?_ | refine Grew.drewN ?_ _))) hg1); obtain ⟨k0, ⟨k1, k2, k3, k4⟩, k5, k6, k7, k8, k9, k10⟩ := Hb.out.grew hg1; clear hg1)
    refine bodyPost_ret (v := .tuple #[.agg #[.string ⟨#[]⟩, .bool false, .slice none 0 0], .int .i64 1]) (by rw [results_cell_tmp rfl]; simp [go_sem, *]) rfl ⟨RnPost.err hr.out (by decide), ?_⟩
    exact ((Hg1.out.setCell (Nat.le_succ _) _).setCell (Nat.le_succ _) _).setCell (Nat.le_succ _) _
  subst h0
  obtain ⟨N, hN⟩ : ∃ N, namesL name l = N := ⟨_, rfl⟩
  obtain ⟨C, hC⟩ : ∃ C, clustL name l = C := ⟨_, rfl⟩
  have HN := Lib.hid hN
  have HC := Lib.hid hC
  have Hsm := Lib.hid hsm
  have HG := Lib.hid (Grew.refl ((w.alloc (.cells #[.string name, .bool dir, .slice p n cap] 24)).alloc (.cells #[.string ⟨#[]⟩, .bool false, .slice none 0 0] 24)))
  have hcs := rn_cases (f := f) (t := t) He.out hN hC
  clear hN hC hsm
  rcases hcs with ⟨hnf, hr⟩ | ⟨hnf, hnt, hr⟩ | ⟨hnf, hnt, hmf, hr⟩ | ⟨hnf, hnt, hmf, hmt, hr⟩ | ⟨hnf, hnt, hmf, hmt, hmc, hr⟩ | ⟨hnf, hnt, hmf, hmt, hmc, hr⟩
  · try replace hnf := Lib.hid hnf
    try replace hnt := Lib.hid hnt
    try replace hmf := Lib.hid hmf
    try replace hmt := Lib.hid hmt
    try replace hmc := Lib.hid hmc
    replace hr := Lib.hid hr
    go_enter Try.func15, Try.ntmps15
    go_wp2_with (first
      | (go_at_call 18; apply Calls.mono; (with_reducible exact validp_e He.out HS.out (Grew.trans (by (repeat (first | exact Grew.refl _ | refine Grew.over ?_ _ | refine Grew.alloc ?_ _ | refine Grew.drew ?_ | refine Grew.drewN ?_ _))) HG.out) hn hc); rintro e w1 ⟨rfl, hg1⟩; have HG := Lib.hid (HG.out.trans (Grew.trans (by (repeat (first | exact Grew.refl _ | refine Grew.over ?_ _ | refine Grew.alloc ?_ _ | refine Grew.drew ?_ | refine Grew.drewN ?_ _))) hg1)); obtain ⟨k0, ⟨k1, k2, k3, k4⟩, k5, k6, k7, k8, k9, k10⟩ := Hb.out.grew HG.out; clear hg1)
      | (go_at_call 33; apply Calls.mono; (with_reducible exact isname_e hnf.out); rintro e w' ⟨rfl, rfl⟩)
      | (go_at_call 33; apply Calls.mono; (with_reducible exact isname_e hnt.out); rintro e w' ⟨rfl, rfl⟩)
      | (go_at_call 11; apply Calls.mono; (with_reducible exact namesp_e HN.out HS.out (Grew.trans (by (repeat (first | exact Grew.refl _ | refine Grew.over ?_ _ | refine Grew.alloc ?_ _ | refine Grew.drew ?_ | refine Grew.drewN ?_ _))) HG.out) hn hc Hsm.out); rintro e w1 ⟨⟨qN, cN, rfl, hsN⟩, hg1⟩; have HG := Lib.hid (HG.out.trans (Grew.trans (by (repeat (first | exact Grew.refl _ | refine Grew.over ?_ _ | refine Grew.alloc ?_ _ | refine Grew.drew ?_ | refine Grew.drewN ?_ _))) hg1)); obtain ⟨k0, ⟨k1, k2, k3, k4⟩, k5, k6, k7, k8, k9, k10⟩ := Hb.out.grew HG.out; have HsN := Lib.hid hsN; clear hg1 hsN)
      | (go_at_call 13; apply Calls.mono; (with_reducible exact clustp_e HC.out HS.out (Grew.trans (by (repeat (first | exact Grew.refl _ | refine Grew.over ?_ _ | refine Grew.alloc ?_ _ | refine Grew.drew ?_ | refine Grew.drewN ?_ _))) HG.out) hn hc); rintro e w1 ⟨⟨qC, cC, rfl, hsC⟩, hg1⟩; have HG := Lib.hid (HG.out.trans (Grew.trans (by (repeat (first | exact Grew.refl _ | refine Grew.over ?_ _ | refine Grew.alloc ?_ _ | refine Grew.drew ?_ | refine Grew.drewN ?_ _))) hg1)); obtain ⟨k0, ⟨k1, k2, k3, k4⟩, k5, k6, k7, k8, k9, k10⟩ := Hb.out.grew HG.out; have HsC := Lib.hid hsC; clear hg1 hsC)
      | (go_at_call 27; apply Calls.mono; (with_reducible exact conts_e hmc.out HsC.out rfl); rintro e w1 ⟨rfl, hg1⟩; have HG := Lib.hid (HG.out.trans (Grew.trans (by (repeat (first | exact Grew.refl _ | refine Grew.over ?_ _ | refine Grew.alloc ?_ _ | refine Grew.drew ?_ | refine Grew.drewN ?_ _))) hg1)); obtain ⟨k0, ⟨k1, k2, k3, k4⟩, k5, k6, k7, k8, k9, k10⟩ := Hb.out.grew HG.out; clear hg1)
      | (go_at_call 27; apply Calls.mono; (with_reducible exact conts_e hmf.out HsN.out rfl); rintro e w1 ⟨rfl, hg1⟩; have HG := Lib.hid (HG.out.trans (Grew.trans (by (repeat (first | exact Grew.refl _ | refine Grew.over ?_ _ | refine Grew.alloc ?_ _ | refine Grew.drew ?_ | refine Grew.drewN ?_ _))) hg1)); obtain ⟨k0, ⟨k1, k2, k3, k4⟩, k5, k6, k7, k8, k9, k10⟩ := Hb.out.grew HG.out; have HsN := Lib.hid (HsN.out.grew stable_str hg1); clear hg1)
      | (go_at_call 27; apply Calls.mono; (with_reducible exact conts_e hmt.out HsN.out rfl); rintro e w1 ⟨rfl, hg1⟩; have HG := Lib.hid (HG.out.trans (Grew.trans (by (repeat (first | exact Grew.refl _ | refine Grew.over ?_ _ | refine Grew.alloc ?_ _ | refine Grew.drew ?_ | refine Grew.drewN ?_ _))) hg1)); obtain ⟨k0, ⟨k1, k2, k3, k4⟩, k5, k6, k7, k8, k9, k10⟩ := Hb.out.grew HG.out; have HsN := Lib.hid (HsN.out.grew stable_str hg1); clear hg1)
      | (go_at_call 34; apply Calls.mono; (with_reducible exact renamed_p f t ht 20 _ _ _ l w _ HS.out hn hc Hsm.out (Grew.trans (by (repeat (first | exact Grew.refl _ | refine Grew.over ?_ _ | refine Grew.alloc ?_ _ | refine Grew.drew ?_ | refine Grew.drewN ?_ _))) HG.out)); rintro e w1 ⟨⟨q6, c6, rfl, hs6⟩, hg1⟩; have hbw := k0; have HG := Lib.hid (HG.out.trans (Grew.trans (by (repeat (first | exact Grew.refl _ | refine Grew.over ?_ _ | refine Grew.alloc ?_ _ | refine Grew.drew ?_ | refine Grew.drewN ?_ _))) hg1)); obtain ⟨k0, ⟨k1, k2, k3, k4⟩, k5, k6, k7, k8, k9, k10⟩ := Hb.out.grew HG.out; have Hs6 := Lib.hid hs6; have Hbw := Lib.hid hbw; clear hg1 hs6 hbw))
    refine bodyPost_ret (v := .tuple #[.agg #[.string ⟨#[]⟩, .bool false, .slice none 0 0], .int .i64 5]) (by rw [results_cell_tmp rfl]; simp [go_sem, *]) rfl ⟨RnPost.err hr.out (by decide), ?_⟩
    exact (((Grew.trans (by (repeat (first | exact Grew.refl _ | refine Grew.over ?_ _ | refine Grew.alloc ?_ _ | refine Grew.drew ?_ | refine Grew.drewN ?_ _))) HG.out).setCell (Nat.le_succ _) _).setCell (Nat.le_succ _) _).setCell (Nat.le_succ _) _
  · try replace hnf := Lib.hid hnf
    try replace hnt := Lib.hid hnt
    try replace hmf := Lib.hid hmf
    try replace hmt := Lib.hid hmt
    try replace hmc := Lib.hid hmc
    replace hr := Lib.hid hr
    go_enter Try.func15, Try.ntmps15
    go_wp2_with (first
      | (go_at_call 18; apply Calls.mono; (with_reducible exact validp_e He.out HS.out (Grew.trans (by (repeat (first | exact Grew.refl _ | refine Grew.over ?_ _ | refine Grew.alloc ?_ _ | refine Grew.drew ?_ | refine Grew.drewN ?_ _))) HG.out) hn hc); rintro e w1 ⟨rfl, hg1⟩; have HG := Lib.hid (HG.out.trans (Grew.trans (by (repeat (first | exact Grew.refl _ | refine Grew.over ?_ _ | refine Grew.alloc ?_ _ | refine Grew.drew ?_ | refine Grew.drewN ?_ _))) hg1)); obtain ⟨k0, ⟨k1, k2, k3, k4⟩, k5, k6, k7, k8, k9, k10⟩ := Hb.out.grew HG.out; clear hg1)
      | (go_at_call 33; apply Calls.mono; (with_reducible exact isname_e hnf.out); rintro e w' ⟨rfl, rfl⟩)
      | (go_at_call 33; apply Calls.mono; (with_reducible exact isname_e hnt.out); rintro e w' ⟨rfl, rfl⟩)
      | (go_at_call 11; apply Calls.mono; (with_reducible exact namesp_e HN.out HS.out (Grew.trans (by (repeat (first | exact Grew.refl _ | refine Grew.over ?_ _ | refine Grew.alloc ?_ _ | refine Grew.drew ?_ | refine Grew.drewN ?_ _))) HG.out) hn hc Hsm.out); rintro e w1 ⟨⟨qN, cN, rfl, hsN⟩, hg1⟩; have HG := Lib.hid (HG.out.trans (Grew.trans (by (repeat (first | exact Grew.refl _ | refine Grew.over ?_ _ | refine Grew.alloc ?_ _ | refine Grew.drew ?_ | refine Grew.drewN ?_ _))) hg1)); obtain ⟨k0, ⟨k1, k2, k3, k4⟩, k5, k6, k7, k8, k9, k10⟩ := Hb.out.grew HG.out; have HsN := Lib.hid hsN; clear hg1 hsN)
      | (go_at_call 13; apply Calls.mono; (with_reducible exact clustp_e HC.out HS.out (Grew.trans (by (repeat (first | exact Grew.refl _ | refine Grew.over ?_ _ | refine Grew.alloc ?_ _ | refine Grew.drew ?_ | refine Grew.drewN ?_ _))) HG.out) hn hc); rintro e w1 ⟨⟨qC, cC, rfl, hsC⟩, hg1⟩; have HG := Lib.hid (HG.out.trans (Grew.trans (by (repeat (first | exact Grew.refl _ | refine Grew.over ?_ _ | refine Grew.alloc ?_ _ | refine Grew.drew ?_ | refine Grew.drewN ?_ _))) hg1)); obtain ⟨k0, ⟨k1, k2, k3, k4⟩, k5, k6, k7, k8, k9, k10⟩ := Hb.out.grew HG.out; have HsC := Lib.hid hsC; clear hg1 hsC)
      | (go_at_call 27; apply Calls.mono; (with_reducible exact conts_e hmc.out HsC.out rfl); rintro e w1 ⟨rfl, hg1⟩; have HG := Lib.hid (HG.out.trans (Grew.trans (by (repeat (first | exact Grew.refl _ | refine Grew.over ?_ _ | refine Grew.alloc ?_ _ | refine Grew.drew ?_ | refine Grew.drewN ?_ _))) hg1)); obtain ⟨k0, ⟨k1, k2, k3, k4⟩, k5, k6, k7, k8, k9, k10⟩ := Hb.out.grew HG.out; clear hg1)
      | (go_at_call 27; apply Calls.mono; (with_reducible exact conts_e hmf.out HsN.out rfl); rintro e w1 ⟨rfl, hg1⟩; have HG := Lib.hid (HG.out.trans (Grew.trans (by (repeat (first | exact Grew.refl _ | refine Grew.over ?_ _ | refine Grew.alloc ?_ _ | refine Grew.drew ?_ | refine Grew.drewN ?_ _))) hg1)); obtain ⟨k0, ⟨k1, k2, k3, k4⟩, k5, k6, k7, k8, k9, k10⟩ := Hb.out.grew HG.out; have HsN := Lib.hid (HsN.out.grew stable_str hg1); clear hg1)
      | (go_at_call 27; apply Calls.mono; (with_reducible exact conts_e hmt.out HsN.out rfl); rintro e w1 ⟨rfl, hg1⟩; have HG := Lib.hid (HG.out.trans (Grew.trans (by (repeat (first | exact Grew.refl _ | refine Grew.over ?_ _ | refine Grew.alloc ?_ _ | refine Grew.drew ?_ | refine Grew.drewN ?_ _))) hg1)); obtain ⟨k0, ⟨k1, k2, k3, k4⟩, k5, k6, k7, k8, k9, k10⟩ := Hb.out.grew HG.out; have HsN := Lib.hid (HsN.out.grew stable_str hg1); clear hg1)
      | (go_at_call 34; apply Calls.mono; (with_reducible exact renamed_p f t ht 20 _ _ _ l w _ HS.out hn hc Hsm.out (Grew.trans (by (repeat (first | exact Grew.refl _ | refine Grew.over ?_ _ | refine Grew.alloc ?_ _ | refine Grew.drew ?_ | refine Grew.drewN ?_ _))) HG.out)); rintro e w1 ⟨⟨q6, c6, rfl, hs6⟩, hg1⟩; have hbw := k0; have HG := Lib.hid (HG.out.trans (Grew.trans (by (repeat (first | exact Grew.refl _ | refine Grew.over ?_ _ | refine Grew.alloc ?_ _ | refine Grew.drew ?_ | refine Grew.drewN ?_ _))) hg1)); obtain ⟨k0, ⟨k1, k2, k3, k4⟩, k5, k6, k7, k8, k9, k10⟩ := Hb.out.grew HG.out; have Hs6 := Lib.hid hs6; have Hbw := Lib.hid hbw; clear hg1 hs6 hbw))
    refine bodyPost_ret (v := .tuple #[.agg #[.string ⟨#[]⟩, .bool false, .slice none 0 0], .int .i64 5]) (by rw [results_cell_tmp rfl]; simp [go_sem, *]) rfl ⟨RnPost.err hr.out (by decide), ?_⟩
    exact (((Grew.trans (by (repeat (first | exact Grew.refl _ | refine Grew.over ?_ _ | refine Grew.alloc ?_ _ | refine Grew.drew ?_ | refine Grew.drewN ?_ _))) HG.out).setCell (Nat.le_succ _) _).setCell (Nat.le_succ _) _).setCell (Nat.le_succ _) _
  · try replace hnf := Lib.hid hnf
    try replace hnt := Lib.hid hnt
    try replace hmf := Lib.hid hmf
    try replace hmt := Lib.hid hmt
    try replace hmc := Lib.hid hmc
    replace hr := Lib.hid hr
    go_enter Try.func15, Try.ntmps15
    go_wp2_with (first
      | (go_at_call 18; apply Calls.mono; (with_reducible exact validp_e He.out HS.out (Grew.trans (by (repeat (first | exact Grew.refl _ | refine Grew.over ?_ _ | refine Grew.alloc ?_ _ | refine Grew.drew ?_ | refine Grew.drewN ?_ _))) HG.out) hn hc); rintro e w1 ⟨rfl, hg1⟩; have HG := Lib.hid (HG.out.trans (Grew.trans (by (repeat (first | exact Grew.refl _ | refine Grew.over ?_ _ | refine Grew.alloc ?_ _ | refine Grew.drew ?_ | refine Grew.drewN ?_ _))) hg1)); obtain ⟨k0, ⟨k1, k2, k3, k4⟩, k5, k6, k7, k8, k9, k10⟩ := Hb.out.grew HG.out; clear hg1)
      | (go_at_call 33; apply Calls.mono; (with_reducible exact isname_e hnf.out); rintro e w' ⟨rfl, rfl⟩)
      | (go_at_call 33; apply Calls.mono; (with_reducible exact isname_e hnt.out); rintro e w' ⟨rfl, rfl⟩)
      | (go_at_call 11; apply Calls.mono; (with_reducible exact namesp_e HN.out HS.out (Grew.trans (by (repeat (first | exact Grew.refl _ | refine Grew.over ?_ _ | refine Grew.alloc ?_ _ | refine Grew.drew ?_ | refine Grew.drewN ?_ _))) HG.out) hn hc Hsm.out); rintro e w1 ⟨⟨qN, cN, rfl, hsN⟩, hg1⟩; have HG := Lib.hid (HG.out.trans (Grew.trans (by (repeat (first | exact Grew.refl _ | refine Grew.over ?_ _ | refine Grew.alloc ?_ _ | refine Grew.drew ?_ | refine Grew.drewN ?_ _))) hg1)); obtain ⟨k0, ⟨k1, k2, k3, k4⟩, k5, k6, k7, k8, k9, k10⟩ := Hb.out.grew HG.out; have HsN := Lib.hid hsN; clear hg1 hsN)
      | (go_at_call 13; apply Calls.mono; (with_reducible exact clustp_e HC.out HS.out (Grew.trans (by (repeat (first | exact Grew.refl _ | refine Grew.over ?_ _ | refine Grew.alloc ?_ _ | refine Grew.drew ?_ | refine Grew.drewN ?_ _))) HG.out) hn hc); rintro e w1 ⟨⟨qC, cC, rfl, hsC⟩, hg1⟩; have HG := Lib.hid (HG.out.trans (Grew.trans (by (repeat (first | exact Grew.refl _ | refine Grew.over ?_ _ | refine Grew.alloc ?_ _ | refine Grew.drew ?_ | refine Grew.drewN ?_ _))) hg1)); obtain ⟨k0, ⟨k1, k2, k3, k4⟩, k5, k6, k7, k8, k9, k10⟩ := Hb.out.grew HG.out; have HsC := Lib.hid hsC; clear hg1 hsC)
      | (go_at_call 27; apply Calls.mono; (with_reducible exact conts_e hmc.out HsC.out rfl); rintro e w1 ⟨rfl, hg1⟩; have HG := Lib.hid (HG.out.trans (Grew.trans (by (repeat (first | exact Grew.refl _ | refine Grew.over ?_ _ | refine Grew.alloc ?_ _ | refine Grew.drew ?_ | refine Grew.drewN ?_ _))) hg1)); obtain ⟨k0, ⟨k1, k2, k3, k4⟩, k5, k6, k7, k8, k9, k10⟩ := Hb.out.grew HG.out; clear hg1)
      | (go_at_call 27; apply Calls.mono; (with_reducible exact conts_e hmf.out HsN.out rfl); rintro e w1 ⟨rfl, hg1⟩; have HG := Lib.hid (HG.out.trans (Grew.trans (by (repeat (first | exact Grew.refl _ | refine Grew.over ?_ _ | refine Grew.alloc ?_ _ | refine Grew.drew ?_ | refine Grew.drewN ?_ _))) hg1)); obtain ⟨k0, ⟨k1, k2, k3, k4⟩, k5, k6, k7, k8, k9, k10⟩ := Hb.out.grew HG.out; have HsN := Lib.hid (HsN.out.grew stable_str hg1); clear hg1)
      | (go_at_call 27; apply Calls.mono; (with_reducible exact conts_e hmt.out HsN.out rfl); rintro e w1 ⟨rfl, hg1⟩; have HG := Lib.hid (HG.out.trans (Grew.trans (by (repeat (first | exact Grew.refl _ | refine Grew.over ?_ _ | refine Grew.alloc ?_ _ | refine Grew.drew ?_ | refine Grew.drewN ?_ _))) hg1)); obtain ⟨k0, ⟨k1, k2, k3, k4⟩, k5, k6, k7, k8, k9, k10⟩ := Hb.out.grew HG.out; have HsN := Lib.hid (HsN.out.grew stable_str hg1); clear hg1)
      | (go_at_call 34; apply Calls.mono; (with_reducible exact renamed_p f t ht 20 _ _ _ l w _ HS.out hn hc Hsm.out (Grew.trans (by (repeat (first | exact Grew.refl _ | refine Grew.over ?_ _ | refine Grew.alloc ?_ _ | refine Grew.drew ?_ | refine Grew.drewN ?_ _))) HG.out)); rintro e w1 ⟨⟨q6, c6, rfl, hs6⟩, hg1⟩; have hbw := k0; have HG := Lib.hid (HG.out.trans (Grew.trans (by (repeat (first | exact Grew.refl _ | refine Grew.over ?_ _ | refine Grew.alloc ?_ _ | refine Grew.drew ?_ | refine Grew.drewN ?_ _))) hg1)); obtain ⟨k0, ⟨k1, k2, k3, k4⟩, k5, k6, k7, k8, k9, k10⟩ := Hb.out.grew HG.out; have Hs6 := Lib.hid hs6; have Hbw := Lib.hid hbw; clear hg1 hs6 hbw))
    refine bodyPost_ret (v := .tuple #[.agg #[.string ⟨#[]⟩, .bool false, .slice none 0 0], .int .i64 15]) (by rw [results_cell_tmp rfl]; simp [go_sem, *]) rfl ⟨RnPost.err hr.out (by decide), ?_⟩
    exact (((Grew.trans (by (repeat (first | exact Grew.refl _ | refine Grew.over ?_ _ | refine Grew.alloc ?_ _ | refine Grew.drew ?_ | refine Grew.drewN ?_ _))) HG.out).setCell (Nat.le_succ _) _).setCell (Nat.le_succ _) _).setCell (Nat.le_succ _) _
  · try replace hnf := Lib.hid hnf
    try replace hnt := Lib.hid hnt
    try replace hmf := Lib.hid hmf
    try replace hmt := Lib.hid hmt
    try replace hmc := Lib.hid hmc
    replace hr := Lib.hid hr
    go_enter Try.func15, Try.ntmps15
    go_wp2_with (first
      | (go_at_call 18; apply Calls.mono; (with_reducible exact validp_e He.out HS.out (Grew.trans (by (repeat (first | exact Grew.refl _ | refine Grew.over ?_ _ | refine Grew.alloc ?_ _ | refine Grew.drew ?_ | refine Grew.drewN ?_ _))) HG.out) hn hc); rintro e w1 ⟨rfl, hg1⟩; have HG := Lib.hid (HG.out.trans (Grew.trans (by (repeat (first | exact Grew.refl _ | refine Grew.over ?_ _ | refine Grew.alloc ?_ _ | refine Grew.drew ?_ | refine Grew.drewN ?_ _))) hg1)); obtain ⟨k0, ⟨k1, k2, k3, k4⟩, k5, k6, k7, k8, k9, k10⟩ := Hb.out.grew HG.out; clear hg1)
      | (go_at_call 33; apply Calls.mono; (with_reducible exact isname_e hnf.out); rintro e w' ⟨rfl, rfl⟩)
      | (go_at_call 33; apply Calls.mono; (with_reducible exact isname_e hnt.out); rintro e w' ⟨rfl, rfl⟩)
      | (go_at_call 11; apply Calls.mono; (with_reducible exact namesp_e HN.out HS.out (Grew.trans (by (repeat (first | exact Grew.refl _ | refine Grew.over ?_ _ | refine Grew.alloc ?_ _ | refine Grew.drew ?_ | refine Grew.drewN ?_ _))) HG.out) hn hc Hsm.out); rintro e w1 ⟨⟨qN, cN, rfl, hsN⟩, hg1⟩; have HG := Lib.hid (HG.out.trans (Grew.trans (by (repeat (first | exact Grew.refl _ | refine Grew.over ?_ _ | refine Grew.alloc ?_ _ | refine Grew.drew ?_ | refine Grew.drewN ?_ _))) hg1)); obtain ⟨k0, ⟨k1, k2, k3, k4⟩, k5, k6, k7, k8, k9, k10⟩ := Hb.out.grew HG.out; have HsN := Lib.hid hsN; clear hg1 hsN)
      | (go_at_call 13; apply Calls.mono; (with_reducible exact clustp_e HC.out HS.out (Grew.trans (by (repeat (first | exact Grew.refl _ | refine Grew.over ?_ _ | refine Grew.alloc ?_ _ | refine Grew.drew ?_ | refine Grew.drewN ?_ _))) HG.out) hn hc); rintro e w1 ⟨⟨qC, cC, rfl, hsC⟩, hg1⟩; have HG := Lib.hid (HG.out.trans (Grew.trans (by (repeat (first | exact Grew.refl _ | refine Grew.over ?_ _ | refine Grew.alloc ?_ _ | refine Grew.drew ?_ | refine Grew.drewN ?_ _))) hg1)); obtain ⟨k0, ⟨k1, k2, k3, k4⟩, k5, k6, k7, k8, k9, k10⟩ := Hb.out.grew HG.out; have HsC := Lib.hid hsC; clear hg1 hsC)
      | (go_at_call 27; apply Calls.mono; (with_reducible exact conts_e hmc.out HsC.out rfl); rintro e w1 ⟨rfl, hg1⟩; have HG := Lib.hid (HG.out.trans (Grew.trans (by (repeat (first | exact Grew.refl _ | refine Grew.over ?_ _ | refine Grew.alloc ?_ _ | refine Grew.drew ?_ | refine Grew.drewN ?_ _))) hg1)); obtain ⟨k0, ⟨k1, k2, k3, k4⟩, k5, k6, k7, k8, k9, k10⟩ := Hb.out.grew HG.out; clear hg1)
      | (go_at_call 27; apply Calls.mono; (with_reducible exact conts_e hmf.out HsN.out rfl); rintro e w1 ⟨rfl, hg1⟩; have HG := Lib.hid (HG.out.trans (Grew.trans (by (repeat (first | exact Grew.refl _ | refine Grew.over ?_ _ | refine Grew.alloc ?_ _ | refine Grew.drew ?_ | refine Grew.drewN ?_ _))) hg1)); obtain ⟨k0, ⟨k1, k2, k3, k4⟩, k5, k6, k7, k8, k9, k10⟩ := Hb.out.grew HG.out; have HsN := Lib.hid (HsN.out.grew stable_str hg1); clear hg1)
      | (go_at_call 27; apply Calls.mono; (with_reducible exact conts_e hmt.out HsN.out rfl); rintro e w1 ⟨rfl, hg1⟩; have HG := Lib.hid (HG.out.trans (Grew.trans (by (repeat (first | exact Grew.refl _ | refine Grew.over ?_ _ | refine Grew.alloc ?_ _ | refine Grew.drew ?_ | refine Grew.drewN ?_ _))) hg1)); obtain ⟨k0, ⟨k1, k2, k3, k4⟩, k5, k6, k7, k8, k9, k10⟩ := Hb.out.grew HG.out; have HsN := Lib.hid (HsN.out.grew stable_str hg1); clear hg1)
      | (go_at_call 34; apply Calls.mono; (with_reducible exact renamed_p f t ht 20 _ _ _ l w _ HS.out hn hc Hsm.out (Grew.trans (by (repeat (first | exact Grew.refl _ | refine Grew.over ?_ _ | refine Grew.alloc ?_ _ | refine Grew.drew ?_ | refine Grew.drewN ?_ _))) HG.out)); rintro e w1 ⟨⟨q6, c6, rfl, hs6⟩, hg1⟩; have hbw := k0; have HG := Lib.hid (HG.out.trans (Grew.trans (by (repeat (first | exact Grew.refl _ | refine Grew.over ?_ _ | refine Grew.alloc ?_ _ | refine Grew.drew ?_ | refine Grew.drewN ?_ _))) hg1)); obtain ⟨k0, ⟨k1, k2, k3, k4⟩, k5, k6, k7, k8, k9, k10⟩ := Hb.out.grew HG.out; have Hs6 := Lib.hid hs6; have Hbw := Lib.hid hbw; clear hg1 hs6 hbw))
    refine bodyPost_ret (v := .tuple #[.agg #[.string ⟨#[]⟩, .bool false, .slice none 0 0], .int .i64 6]) (by rw [results_cell_tmp rfl]; simp [go_sem, *]) rfl ⟨RnPost.err hr.out (by decide), ?_⟩
    exact (((Grew.trans (by (repeat (first | exact Grew.refl _ | refine Grew.over ?_ _ | refine Grew.alloc ?_ _ | refine Grew.drew ?_ | refine Grew.drewN ?_ _))) HG.out).setCell (Nat.le_succ _) _).setCell (Nat.le_succ _) _).setCell (Nat.le_succ _) _
  · try replace hnf := Lib.hid hnf
    try replace hnt := Lib.hid hnt
    try replace hmf := Lib.hid hmf
    try replace hmt := Lib.hid hmt
    try replace hmc := Lib.hid hmc
    replace hr := Lib.hid hr
    go_enter Try.func15, Try.ntmps15
    go_wp2_with (first
      | (go_at_call 18; apply Calls.mono; (with_reducible exact validp_e He.out HS.out (Grew.trans (by (repeat (first | exact Grew.refl _ | refine Grew.over ?_ _ | refine Grew.alloc ?_ _ | refine Grew.drew ?_ | refine Grew.drewN ?_ _))) HG.out) hn hc); rintro e w1 ⟨rfl, hg1⟩; have HG := Lib.hid (HG.out.trans (Grew.trans (by (repeat (first | exact Grew.refl _ | refine Grew.over ?_ _ | refine Grew.alloc ?_ _ | refine Grew.drew ?_ | refine Grew.drewN ?_ _))) hg1)); obtain ⟨k0, ⟨k1, k2, k3, k4⟩, k5, k6, k7, k8, k9, k10⟩ := Hb.out.grew HG.out; clear hg1)
      | (go_at_call 33; apply Calls.mono; (with_reducible exact isname_e hnf.out); rintro e w' ⟨rfl, rfl⟩)
      | (go_at_call 33; apply Calls.mono; (with_reducible exact isname_e hnt.out); rintro e w' ⟨rfl, rfl⟩)
      | (go_at_call 11; apply Calls.mono; (with_reducible exact namesp_e HN.out HS.out (Grew.trans (by (repeat (first | exact Grew.refl _ | refine Grew.over ?_ _ | refine Grew.alloc ?_ _ | refine Grew.drew ?_ | refine Grew.drewN ?_ _))) HG.out) hn hc Hsm.out); rintro e w1 ⟨⟨qN, cN, rfl, hsN⟩, hg1⟩; have HG := Lib.hid (HG.out.trans (Grew.trans (by (repeat (first | exact Grew.refl _ | refine Grew.over ?_ _ | refine Grew.alloc ?_ _ | refine Grew.drew ?_ | refine Grew.drewN ?_ _))) hg1)); obtain ⟨k0, ⟨k1, k2, k3, k4⟩, k5, k6, k7, k8, k9, k10⟩ := Hb.out.grew HG.out; have HsN := Lib.hid hsN; clear hg1 hsN)
      | (go_at_call 13; apply Calls.mono; (with_reducible exact clustp_e HC.out HS.out (Grew.trans (by (repeat (first | exact Grew.refl _ | refine Grew.over ?_ _ | refine Grew.alloc ?_ _ | refine Grew.drew ?_ | refine Grew.drewN ?_ _))) HG.out) hn hc); rintro e w1 ⟨⟨qC, cC, rfl, hsC⟩, hg1⟩; have HG := Lib.hid (HG.out.trans (Grew.trans (by (repeat (first | exact Grew.refl _ | refine Grew.over ?_ _ | refine Grew.alloc ?_ _ | refine Grew.drew ?_ | refine Grew.drewN ?_ _))) hg1)); obtain ⟨k0, ⟨k1, k2, k3, k4⟩, k5, k6, k7, k8, k9, k10⟩ := Hb.out.grew HG.out; have HsC := Lib.hid hsC; clear hg1 hsC)
      | (go_at_call 27; apply Calls.mono; (with_reducible exact conts_e hmc.out HsC.out rfl); rintro e w1 ⟨rfl, hg1⟩; have HG := Lib.hid (HG.out.trans (Grew.trans (by (repeat (first | exact Grew.refl _ | refine Grew.over ?_ _ | refine Grew.alloc ?_ _ | refine Grew.drew ?_ | refine Grew.drewN ?_ _))) hg1)); obtain ⟨k0, ⟨k1, k2, k3, k4⟩, k5, k6, k7, k8, k9, k10⟩ := Hb.out.grew HG.out; clear hg1)
      | (go_at_call 27; apply Calls.mono; (with_reducible exact conts_e hmf.out HsN.out rfl); rintro e w1 ⟨rfl, hg1⟩; have HG := Lib.hid (HG.out.trans (Grew.trans (by (repeat (first | exact Grew.refl _ | refine Grew.over ?_ _ | refine Grew.alloc ?_ _ | refine Grew.drew ?_ | refine Grew.drewN ?_ _))) hg1)); obtain ⟨k0, ⟨k1, k2, k3, k4⟩, k5, k6, k7, k8, k9, k10⟩ := Hb.out.grew HG.out; have HsN := Lib.hid (HsN.out.grew stable_str hg1); clear hg1)
      | (go_at_call 27; apply Calls.mono; (with_reducible exact conts_e hmt.out HsN.out rfl); rintro e w1 ⟨rfl, hg1⟩; have HG := Lib.hid (HG.out.trans (Grew.trans (by (repeat (first | exact Grew.refl _ | refine Grew.over ?_ _ | refine Grew.alloc ?_ _ | refine Grew.drew ?_ | refine Grew.drewN ?_ _))) hg1)); obtain ⟨k0, ⟨k1, k2, k3, k4⟩, k5, k6, k7, k8, k9, k10⟩ := Hb.out.grew HG.out; have HsN := Lib.hid (HsN.out.grew stable_str hg1); clear hg1)
      | (go_at_call 34; apply Calls.mono; (with_reducible exact renamed_p f t ht 20 _ _ _ l w _ HS.out hn hc Hsm.out (Grew.trans (by (repeat (first | exact Grew.refl _ | refine Grew.over ?_ _ | refine Grew.alloc ?_ _ | refine Grew.drew ?_ | refine Grew.drewN ?_ _))) HG.out)); rintro e w1 ⟨⟨q6, c6, rfl, hs6⟩, hg1⟩; have hbw := k0; have HG := Lib.hid (HG.out.trans (Grew.trans (by (repeat (first | exact Grew.refl _ | refine Grew.over ?_ _ | refine Grew.alloc ?_ _ | refine Grew.drew ?_ | refine Grew.drewN ?_ _))) hg1)); obtain ⟨k0, ⟨k1, k2, k3, k4⟩, k5, k6, k7, k8, k9, k10⟩ := Hb.out.grew HG.out; have Hs6 := Lib.hid hs6; have Hbw := Lib.hid hbw; clear hg1 hs6 hbw))
    refine bodyPost_ret (v := .tuple #[.agg #[.string ⟨#[]⟩, .bool false, .slice none 0 0], .int .i64 6]) (by rw [results_cell_tmp rfl]; simp [go_sem, *]) rfl ⟨RnPost.err hr.out (by decide), ?_⟩
    exact (((Grew.trans (by (repeat (first | exact Grew.refl _ | refine Grew.over ?_ _ | refine Grew.alloc ?_ _ | refine Grew.drew ?_ | refine Grew.drewN ?_ _))) HG.out).setCell (Nat.le_succ _) _).setCell (Nat.le_succ _) _).setCell (Nat.le_succ _) _
  · replace hnf := Lib.hid hnf
    replace hnt := Lib.hid hnt
    replace hmf := Lib.hid hmf
    replace hmt := Lib.hid hmt
    replace hmc := Lib.hid hmc
    replace hr := Lib.hid hr
    go_enter Try.func15, Try.ntmps15
    go_wp2_with (first
      | (go_at_call 18; apply Calls.mono; (with_reducible exact validp_e He.out HS.out (Grew.trans (by (repeat (first | exact Grew.refl _ | refine Grew.over ?_ _ | refine Grew.alloc ?_ _ | refine Grew.drew ?_ | refine Grew.drewN ?_ _))) HG.out) hn hc); rintro e w1 ⟨rfl, hg1⟩; have HG := Lib.hid (HG.out.trans (Grew.trans (by (repeat (first | exact Grew.refl _ | refine Grew.over ?_ _ | refine Grew.alloc ?_ _ | refine Grew.drew ?_ | refine Grew.drewN ?_ _))) hg1)); obtain ⟨k0, ⟨k1, k2, k3, k4⟩, k5, k6, k7, k8, k9, k10⟩ := Hb.out.grew HG.out; clear hg1)
      | (go_at_call 33; apply Calls.mono; (with_reducible exact isname_e hnf.out); rintro e w' ⟨rfl, rfl⟩)
      | (go_at_call 33; apply Calls.mono; (with_reducible exact isname_e hnt.out); rintro e w' ⟨rfl, rfl⟩)
      | (go_at_call 11; apply Calls.mono; (with_reducible exact namesp_e HN.out HS.out (Grew.trans (by (repeat (first | exact Grew.refl _ | refine Grew.over ?_ _ | refine Grew.alloc ?_ _ | refine Grew.drew ?_ | refine Grew.drewN ?_ _))) HG.out) hn hc Hsm.out); rintro e w1 ⟨⟨qN, cN, rfl, hsN⟩, hg1⟩; have HG := Lib.hid (HG.out.trans (Grew.trans (by (repeat (first | exact Grew.refl _ | refine Grew.over ?_ _ | refine Grew.alloc ?_ _ | refine Grew.drew ?_ | refine Grew.drewN ?_ _))) hg1)); obtain ⟨k0, ⟨k1, k2, k3, k4⟩, k5, k6, k7, k8, k9, k10⟩ := Hb.out.grew HG.out; have HsN := Lib.hid hsN; clear hg1 hsN)
      | (go_at_call 13; apply Calls.mono; (with_reducible exact clustp_e HC.out HS.out (Grew.trans (by (repeat (first | exact Grew.refl _ | refine Grew.over ?_ _ | refine Grew.alloc ?_ _ | refine Grew.drew ?_ | refine Grew.drewN ?_ _))) HG.out) hn hc); rintro e w1 ⟨⟨qC, cC, rfl, hsC⟩, hg1⟩; have HG := Lib.hid (HG.out.trans (Grew.trans (by (repeat (first | exact Grew.refl _ | refine Grew.over ?_ _ | refine Grew.alloc ?_ _ | refine Grew.drew ?_ | refine Grew.drewN ?_ _))) hg1)); obtain ⟨k0, ⟨k1, k2, k3, k4⟩, k5, k6, k7, k8, k9, k10⟩ := Hb.out.grew HG.out; have HsC := Lib.hid hsC; clear hg1 hsC)
      | (go_at_call 27; apply Calls.mono; (with_reducible exact conts_e hmc.out HsC.out rfl); rintro e w1 ⟨rfl, hg1⟩; have HG := Lib.hid (HG.out.trans (Grew.trans (by (repeat (first | exact Grew.refl _ | refine Grew.over ?_ _ | refine Grew.alloc ?_ _ | refine Grew.drew ?_ | refine Grew.drewN ?_ _))) hg1)); obtain ⟨k0, ⟨k1, k2, k3, k4⟩, k5, k6, k7, k8, k9, k10⟩ := Hb.out.grew HG.out; clear hg1)
      | (go_at_call 27; apply Calls.mono; (with_reducible exact conts_e hmf.out HsN.out rfl); rintro e w1 ⟨rfl, hg1⟩; have HG := Lib.hid (HG.out.trans (Grew.trans (by (repeat (first | exact Grew.refl _ | refine Grew.over ?_ _ | refine Grew.alloc ?_ _ | refine Grew.drew ?_ | refine Grew.drewN ?_ _))) hg1)); obtain ⟨k0, ⟨k1, k2, k3, k4⟩, k5, k6, k7, k8, k9, k10⟩ := Hb.out.grew HG.out; have HsN := Lib.hid (HsN.out.grew stable_str hg1); clear hg1)
      | (go_at_call 27; apply Calls.mono; (with_reducible exact conts_e hmt.out HsN.out rfl); rintro e w1 ⟨rfl, hg1⟩; have HG := Lib.hid (HG.out.trans (Grew.trans (by (repeat (first | exact Grew.refl _ | refine Grew.over ?_ _ | refine Grew.alloc ?_ _ | refine Grew.drew ?_ | refine Grew.drewN ?_ _))) hg1)); obtain ⟨k0, ⟨k1, k2, k3, k4⟩, k5, k6, k7, k8, k9, k10⟩ := Hb.out.grew HG.out; have HsN := Lib.hid (HsN.out.grew stable_str hg1); clear hg1)
      | (go_at_call 34; apply Calls.mono; (with_reducible exact renamed_p f t ht 20 _ _ _ l w _ HS.out hn hc Hsm.out (Grew.trans (by (repeat (first | exact Grew.refl _ | refine Grew.over ?_ _ | refine Grew.alloc ?_ _ | refine Grew.drew ?_ | refine Grew.drewN ?_ _))) HG.out)); rintro e w1 ⟨⟨q6, c6, rfl, hs6⟩, hg1⟩; have hbw := k0; have HG := Lib.hid (HG.out.trans (Grew.trans (by (repeat (first | exact Grew.refl _ | refine Grew.over ?_ _ | refine Grew.alloc ?_ _ | refine Grew.drew ?_ | refine Grew.drewN ?_ _))) hg1)); obtain ⟨k0, ⟨k1, k2, k3, k4⟩, k5, k6, k7, k8, k9, k10⟩ := Hb.out.grew HG.out; have Hs6 := Lib.hid hs6; have Hbw := Lib.hid hbw; clear hg1 hs6 hbw))
    refine bodyPost_ret (v := .tuple #[.agg #[.string name, .bool dir, .slice q6 n c6], .int .i64 0]) (by rw [results_cell_tmp rfl]; simp [go_sem, *]) rfl ⟨RnPost.ok hr.out hn ?_, ?_⟩
    · exact rn_sts Hs6.out Hbw.out (((((Gr.refl _ w1).setCell (Or.inl rfl) _).setCell (Or.inr rfl) _).setCell (Or.inr rfl) _).setCell (Or.inr rfl) _)
    · exact ((((Grew.trans (by (repeat (first | exact Grew.refl _ | refine Grew.over ?_ _ | refine Grew.alloc ?_ _ | refine Grew.drew ?_ | refine Grew.drewN ?_ _))) HG.out).setCell (Nat.le_refl _) _).setCell (Nat.le_succ _) _).setCell (Nat.le_succ _) _).setCell (Nat.le_succ _) _
end Go.Proofs.Ytbamckfjikpjlaa
