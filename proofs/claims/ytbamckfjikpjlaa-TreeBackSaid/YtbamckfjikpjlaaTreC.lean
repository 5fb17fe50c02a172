/- The number of a tree's statements, as the laws bound it; equality of lists of texts. -/
import Derived.Test.YtbamckfjikpjlaaTreB
set_option linter.unusedSimpArgs false
set_option linter.unusedVariables false
namespace Go.Proofs.Ytbamckfjikpjlaa
open Go.RowKit
attribute [local go_sem ↓] Go.wp_at_zero Go.wp_at_succ

theorem len_lt {α : Type} {R : World → List Value → α → Prop} {sz : Nat} {w : World} {p : Option Addr} {cap : Nat} {xs : List α} (h : SlAt R sz w p cap xs) : xs.length ≤ 9223372036854775807 := by
  have h1 := h.1
  have h2 := h.2.1
  unfold maxLen at h2
  omega
/-- A statement in memory. -/
theorem sts_el {n : Nat} {w : World} {p : Option Addr} {cap : Nat} {l : List St} {i : Nat} (h : Sts n w p cap l) (hi : i < l.length) :
    ∃ b o k nm rs ats bd rp rc ap ac bp bc m, n = m + 1 ∧ p = some ⟨b, o, none⟩ ∧ b < w.heap.size ∧ l[i]? = some (.mk k nm rs ats bd) ∧ (Lit.int .i64 k).wf = true ∧ nm.size ≤ maxLen ∧
      w.cell? ⟨b, o + i * 5, none⟩ = some (.int .i64 k) ∧ w.cell? ⟨b, o + i * 5 + 1, none⟩ = some (.string nm) ∧ w.cell? ⟨b, o + i * 5 + 2, none⟩ = some (.slice rp rs.length rc) ∧
      w.cell? ⟨b, o + i * 5 + 3, none⟩ = some (.slice ap ats.length ac) ∧ w.cell? ⟨b, o + i * 5 + 4, none⟩ = some (.slice bp bd.length bc) ∧
      P2s w rp rc rs ∧ P2s w ap ac ats ∧ Sts m w bp bc bd := by
  obtain ⟨h1, h2, h3, h4⟩ := h
  obtain ⟨b, o, ce, g1, g2, g3, g4, g5⟩ := h4 i _ (List.getElem?_eq_getElem hi)
  cases n with
  | zero => exact g4.elim
  | succ m =>
    revert g4
    cases hx : l[i] with
    | mk k nm rs ats bd =>
      rintro ⟨e1, e2, rp, rc, ap, ac, bp, bc, e3, e4, e5, e6⟩
      subst e3
      exact ⟨b, o, k, nm, rs, ats, bd, rp, rc, ap, ac, bp, bc, m, rfl, g1, g2, by rw [List.getElem?_eq_getElem hi, hx], e1, e2, g5 0 (by omega), g5 1 (by omega), g5 2 (by omega), g5 3 (by omega), g5 4 (by omega), e4, e5, e6⟩

set_option maxHeartbeats 4000000 in
theorem stmts_p : ∀ (n : Nat) (p : Option Addr) (m cap : Nat) (l : List St) (most d : Nat) (w : World) (_ : Sts n w p cap l) (_ : l.length = m) (_ : most ≤ 600) (_ : d ≤ 21),
    Calls Try.prog 25 #[.slice p m cap, .int .i64 most, .int .i64 d] w fun e w' => (∃ r : Int, e = .returned (.int .i64 r) ∧ (r < 0 ∨ (r = cntL l ∧ cntL l ≤ most ∧ depL l + d ≤ 20 ∧ smL l))) ∧ Grew w w' := by
  intro n
  induction n using Nat.strongRecOn with
  | ind n ih =>
  intro p m cap l most d w hS hm hmo hd
  subst hm
  have hml := hS.1
  have hmc := len_lt hS
  by_cases h20 : d ≤ 20
  case neg =>
    go_enter Try.func25, Try.ntmps25
    go_wp2
    go_ret
    exact ⟨⟨-1, rfl, Or.inl (by omega)⟩, by (repeat (first | exact Grew.refl _ | refine Grew.over ?_ _ | refine Grew.alloc ?_ _ | refine Grew.drew ?_ | refine Grew.drewN ?_ _))⟩
  have HS := Lib.hid hS
  have Ih := Lib.hid ih
  clear ih hS
  go_enter Try.func25, Try.ntmps25
  go_wp2
  go_loopw [6, 7, 8, 9] (fun _ c i _ wr => ∃ k : Nat, k ≤ l.length ∧ i = .int .i64 k ∧ c = .int .i64 (cntL (l.take k)) ∧ cntL (l.take k) ≤ most ∧ depL (l.take k) + d ≤ 20 ∧ smL (l.take k) ∧ Grew w wr) (fun _ _ i _ _ => l.length - (intOf i).toNat)
  case atStart => exact ⟨0, Nat.zero_le _, rfl, by simp [cntL], by simp [cntL], by simp [depL]; omega, by simp [smL], by (repeat (first | exact Grew.refl _ | refine Grew.over ?_ _ | refine Grew.alloc ?_ _ | refine Grew.drew ?_ | refine Grew.drewN ?_ _))⟩
  case round =>
    obtain ⟨k, hk, rfl, rfl, hcm, hdm, hsm, hg⟩ := hrel
    have Hdm := Lib.hid hdm
    have Hsm := Lib.hid hsm
    have Hg := Lib.hid hg
    obtain ⟨c, hc⟩ : ∃ c, cntL (l.take k) = c := ⟨_, rfl⟩
    rw [hc] at hcm ⊢
    have Hc := Lib.hid hc
    clear hdm hsm hg hc
    by_cases hlt : k < l.length
    · obtain ⟨b, o, kd, nm, rs, ats, bd, rp, rc, ap, ac, bp, bc, m', hm', rfl, hb, hx, hkw, hnm, c0, c1, c2, c3, c4, hR, hA, hB⟩ := sts_el (HS.out.grew (stable_st _) Hg.out) hlt
      have hm1 : m' < n := by omega
      clear hm'
      have Hx := Lib.hid hx
      have HB := Lib.hid hB
      have hrl := hR.1
      have hal := hA.1
      have hbl := hB.1
      clear hx hB hR hA hkw
      by_cases q1 : c + 1 ≤ most
      case neg =>
        go_wp2
        go_ret
        exact ⟨⟨-1, rfl, Or.inl (by omega)⟩, Hg.out.trans (by (repeat (first | exact Grew.refl _ | refine Grew.over ?_ _ | refine Grew.alloc ?_ _ | refine Grew.drew ?_ | refine Grew.drewN ?_ _)))⟩
      by_cases q2 : rs.length ≤ 40
      case neg =>
        go_wp2
        go_ret
        exact ⟨⟨-1, rfl, Or.inl (by omega)⟩, Hg.out.trans (by (repeat (first | exact Grew.refl _ | refine Grew.over ?_ _ | refine Grew.alloc ?_ _ | refine Grew.drew ?_ | refine Grew.drewN ?_ _)))⟩
      by_cases q3 : ats.length ≤ 40
      case neg =>
        go_wp2
        go_ret
        exact ⟨⟨-1, rfl, Or.inl (by omega)⟩, Hg.out.trans (by (repeat (first | exact Grew.refl _ | refine Grew.over ?_ _ | refine Grew.alloc ?_ _ | refine Grew.drew ?_ | refine Grew.drewN ?_ _)))⟩
      have e1 : ((most - (c + 1) : Nat) : Int) = (most : Int) - ((c : Int) + 1) := by omega
      have e2 : ((d + 1 : Nat) : Int) = (d : Int) + 1 := by omega
      go_wp2_with (go_at_call 25; apply Calls.mono; (rw [← e1, ← e2]; with_reducible exact Ih.out _ hm1 _ _ _ _ _ _ _ (HB.out.grew (stable_st _) (by (repeat (first | exact Grew.refl _ | refine Grew.over ?_ _ | refine Grew.alloc ?_ _ | refine Grew.drew ?_ | refine Grew.drewN ?_ _)))) rfl (by omega) (by omega)); rintro e w2 ⟨⟨r, rfl, hr⟩, hg2⟩; have Hg2 := Lib.hid (Hg.out.trans (Grew.trans (by (repeat (first | exact Grew.refl _ | refine Grew.over ?_ _ | refine Grew.alloc ?_ _ | refine Grew.drew ?_ | refine Grew.drewN ?_ _))) hg2)); clear hg2; (rcases hr with hr | ⟨rfl, hr1, hr2, hr3⟩))
      · go_ret
        exact ⟨⟨-1, rfl, Or.inl (by omega)⟩, Hg2.out⟩
      · have ht := take_snoc' Hx.out
        have Hc' : Hid (cntL (l.take (k + 1)) = c + 1 + cntL bd) := Lib.hid (by rw [ht, cntL_app, Hc.out]; simp only [cntL]; omega)
        have Hd' : Hid (depL (l.take (k + 1)) + d ≤ 20) := Lib.hid (by have := Hdm.out; rw [ht, depL_app]; simp only [depL]; omega)
        have Hs' : Hid (smL (l.take (k + 1))) := Lib.hid (by rw [ht, smL_app]; simp only [smL]; exact ⟨Hsm.out, q2, q3, hr3, trivial⟩)
        clear ht hr2 hr3
        go_roundw
        case rel => exact ⟨k + 1, by omega, by go_num, by rw [Hc'.out]; go_num, by rw [Hc'.out]; omega, Hd'.out, Hs'.out, Hg2.out⟩
        case measure => simp [intOf]; omega
    · have ht : l.take k = l := List.take_of_length_le (by omega)
      rw [ht] at Hc Hdm Hsm
      go_wp2
      go_ret
      exact ⟨⟨_, rfl, Or.inr ⟨by rw [Hc.out], by rw [Hc.out]; exact hcm, Hdm.out, Hsm.out⟩⟩, Hg.out.trans (by (repeat (first | exact Grew.refl _ | refine Grew.over ?_ _ | refine Grew.alloc ?_ _ | refine Grew.drew ?_ | refine Grew.drewN ?_ _)))⟩

theorem stmts_0 (n : Nat) (p : Option Addr) (m cap : Nat) (l : List St) (w : World) (h : Sts n w p cap l) (hm : l.length = m) :
    Calls Try.prog 25 #[.slice p m cap, .int .i64 600, .int .i64 0] w fun e w' => (∃ r : Int, e = .returned (.int .i64 r) ∧ (r < 0 ∨ (r = cntL l ∧ cntL l ≤ 600 ∧ depL l ≤ 20 ∧ smL l))) ∧ Grew w w' :=
  stmts_p n p m cap l 600 0 w h hm (by omega) (by omega)
theorem few_p (name : ByteArray) (dir : Bool) (p : Option Addr) (n cap : Nat) (l : List St) (f : Nat) (w : World) (hS : Sts f w p cap l) (hn : l.length = n) :
    Calls Try.prog 8 #[.agg #[.string name, .bool dir, .slice p n cap]] w fun e w' => (∃ b : Bool, e = .returned (.bool b) ∧ (b = false ∨ (b = true ∧ cntL l ≤ 600 ∧ depL l ≤ 20 ∧ smL l))) ∧ Grew w w' := by
  have HS := Lib.hid hS
  clear hS
  go_enter Try.func8, Try.ntmps8
  go_wp2_with (go_at_call 25; apply Calls.mono; (with_reducible exact stmts_0 _ _ _ _ l _ (HS.out.grew (stable_st _) (by (repeat (first | exact Grew.refl _ | refine Grew.over ?_ _ | refine Grew.alloc ?_ _ | refine Grew.drew ?_ | refine Grew.drewN ?_ _)))) hn); rintro e w2 ⟨⟨r, rfl, hr⟩, hg2⟩; have Hg2 := Lib.hid (Grew.trans (by (repeat (first | exact Grew.refl _ | refine Grew.over ?_ _ | refine Grew.alloc ?_ _ | refine Grew.drew ?_ | refine Grew.drewN ?_ _))) hg2); clear hg2; (rcases hr with hr | ⟨rfl, hr1, hr2, hr3⟩))
  · go_ret
    exact ⟨⟨false, ret_bool (by simp; omega), Or.inl rfl⟩, Grew.trans (by (repeat (first | exact Grew.refl _ | refine Grew.over ?_ _ | refine Grew.alloc ?_ _ | refine Grew.drew ?_ | refine Grew.drewN ?_ _))) Hg2.out⟩
  · go_ret
    exact ⟨⟨true, ret_bool (by simp), Or.inr ⟨rfl, hr1, hr2, hr3⟩⟩, Grew.trans (by (repeat (first | exact Grew.refl _ | refine Grew.over ?_ _ | refine Grew.alloc ?_ _ | refine Grew.drew ?_ | refine Grew.drewN ?_ _))) Hg2.out⟩

/-- Two texts, as the walk compares them. -/
def sq (a b : ByteArray) : Bool := a.toList == b.toList
theorem sq_iff {a b : ByteArray} : sq a b = true ↔ a = b := by
  unfold sq
  rw [beq_iff_eq, ByteArray.toList_eq, ByteArray.toList_eq]
  exact ⟨fun h => ByteArray.ext (Array.toList_inj.mp h), fun h => by rw [h]⟩
theorem sq_self (a : ByteArray) : sq a a = true := sq_iff.2 rfl
theorem sq_dec (a b : ByteArray) : sq a b = decide (a = b) := by rw [Bool.eq_iff_iff, sq_iff, decide_eq_true_iff]
theorem sq_raw {a b : ByteArray} {r : Bool} (h : sq a b = r) : (a.toList == b.toList) = r := h
theorem strs_el {w : World} {p : Option Addr} {cap : Nat} {l : List ByteArray} {i : Nat} (h : Strs w p cap l) (hi : i < l.length) :
    ∃ b o s, p = some ⟨b, o, none⟩ ∧ b < w.heap.size ∧ l[i]? = some s ∧ s.size ≤ maxLen ∧ w.cell? ⟨b, o + i, none⟩ = some (.string s) := by
  obtain ⟨h1, h2, h3, h4⟩ := h
  obtain ⟨b, o, ce, g1, g2, g3, ⟨rfl, g4⟩, g5⟩ := h4 i _ (List.getElem?_eq_getElem hi)
  have := g5 0 (by omega)
  rw [Nat.mul_one, Nat.add_zero] at this
  exact ⟨b, o, _, g1, g2, List.getElem?_eq_getElem hi, g4, this⟩

set_option maxHeartbeats 1000000 in
theorem same_l (p q : Option Addr) (n c m d : Nat) (x y : List ByteArray) (w : World) (hx : Strs w p c x) (hy : Strs w q d y) (hn : x.length = n) (hm : y.length = m) :
    Calls Try.prog 10 #[.slice p n c, .slice q m d] w fun e w' => e = .returned (.bool (decide (x = y))) ∧ Grew w w' := by
  subst hn hm
  obtain ⟨r, hr⟩ : ∃ r, decide (x = y) = r := ⟨_, rfl⟩
  have Hr := Lib.hid hr
  have Hx := Lib.hid hx
  have Hy := Lib.hid hy
  have hxl := len_lt hx
  have hyl := len_lt hy
  rw [hr]
  clear hr hx hy
  by_cases hl : x.length = y.length
  case neg =>
    have H := Lib.hid (Hr.out.symm.trans (decide_eq_false (fun h => hl (by rw [h]))))
    go_enter Try.func10, Try.ntmps10
    go_wp2
    go_ret
    exact ⟨ret_bool H.out.symm, by (repeat (first | exact Grew.refl _ | refine Grew.over ?_ _ | refine Grew.alloc ?_ _ | refine Grew.drew ?_ | refine Grew.drewN ?_ _))⟩
  go_enter Try.func10, Try.ntmps10
  go_wp2
  go_loopw [4, 5] (fun _ i wr => ∃ k : Nat, k ≤ x.length ∧ i = .int .i64 k ∧ (∀ j, j < k → x[j]? = y[j]?) ∧ Grew w wr) (fun _ i _ => x.length - (intOf i).toNat)
  case atStart => exact ⟨0, Nat.zero_le _, rfl, fun j hj => by omega, by (repeat (first | exact Grew.refl _ | refine Grew.over ?_ _ | refine Grew.alloc ?_ _ | refine Grew.drew ?_ | refine Grew.drewN ?_ _))⟩
  case round =>
    obtain ⟨k, hk, rfl, hall, hg⟩ := hrel
    have Hall := Lib.hid hall
    have Hg := Lib.hid hg
    clear hall hg
    by_cases hlt : k < x.length
    · have hlt' : k < y.length := by omega
      obtain ⟨b, o, s, rfl, hb, e1, hs, c1⟩ := strs_el (Hx.out.grew stable_str Hg.out) hlt
      obtain ⟨b', o', s', rfl, hb', e2, hs', c2⟩ := strs_el (Hy.out.grew stable_str Hg.out) hlt'
      have E1 := Lib.hid e1
      have E2 := Lib.hid e2
      clear e1 e2
      cases hq : sq s s'
      · have H := Lib.hid (Hr.out.symm.trans (decide_eq_false (fun h => by
          have h1 := E1.out
          rw [h, E2.out] at h1
          cases h1
          rw [sq_self] at hq
          cases hq)))
        have hq' := sq_raw hq
        clear hq
        go_wp2
        refine wp_region_over (by kernel_rfl) (by kernel_rfl) ?_; (repeat (go_big_quiet_step (fail))); refine wpQuiet_nil ?_; rintro _ ⟨x, rfl⟩
        go_wp2
        go_ret
        exact ⟨ret_bool H.out.symm, Hg.out.trans (by (repeat (first | exact Grew.refl _ | refine Grew.over ?_ _ | refine Grew.alloc ?_ _ | refine Grew.drew ?_ | refine Grew.drewN ?_ _)))⟩
      · have hq' := sq_raw hq
        have H := Lib.hid (show x[k]? = y[k]? by rw [E1.out, E2.out, sq_iff.1 hq])
        clear hq
        go_wp2
        refine wp_region_over (by kernel_rfl) (by kernel_rfl) ?_; (repeat (go_big_quiet_step (fail))); refine wpQuiet_nil ?_; rintro _ ⟨x, rfl⟩
        go_wp2
        go_roundw
        case rel => exact ⟨k + 1, hlt, by go_num, fun j hj => (by
          rcases Nat.lt_succ_iff_lt_or_eq.1 hj with h | h
          · exact Hall.out j h
          · rw [h]; exact H.out), Hg.out.trans (by (repeat (first | exact Grew.refl _ | refine Grew.over ?_ _ | refine Grew.alloc ?_ _ | refine Grew.drew ?_ | refine Grew.drewN ?_ _)))⟩
        case measure => simp [intOf]; omega
    · have H := Lib.hid (Hr.out.symm.trans (decide_eq_true (List.ext_getElem? fun j => by
        by_cases hj : j < k
        · exact Hall.out j hj
        · rw [List.getElem?_eq_none (by omega), List.getElem?_eq_none (by omega)])))
      go_wp2
      go_ret
      exact ⟨ret_bool H.out.symm, Hg.out.trans (by (repeat (first | exact Grew.refl _ | refine Grew.over ?_ _ | refine Grew.alloc ?_ _ | refine Grew.drew ?_ | refine Grew.drewN ?_ _)))⟩
end Go.Proofs.Ytbamckfjikpjlaa
