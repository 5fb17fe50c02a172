/- Valid of the program. -/
import Derived.Test.YtbamckfjikpjlaaTreH
import Derived.Test.YtbamckfjikpjlaaTreF
set_option linter.unusedSimpArgs false
set_option linter.unusedVariables false
namespace Go.Proofs.Ytbamckfjikpjlaa
open Go.RowKit
attribute [local go_sem ↓] Go.wp_at_zero Go.wp_at_succ

def stE : St × Nat → Int
  | (.mk k nm rs ats bd, lv) => ckE k nm rs ats bd.length lv
/-- The first error of a tree. -/
def vlE (name : ByteArray) (l : List St) : Int := if nameB name = false then 5 else if 512 < cntL l then 2 else fst0 ((pre l 0).map stE)

set_option maxHeartbeats 1000000 in
theorem valid1_p (w0 : World) (c : Nat) (k : Int) (nm : ByteArray) (rs ats : List P2) (rp : Option Addr) (rc : Nat) (ap : Option Addr) (ac : Nat) (bp : Option Addr) (bl bc lv : Nat) (v : Int) (X : Nat → Prop) (W : World) (hl : lv ≤ 1000) (hI : Cap1 w0 c (.int .i64 v) X W)
    (hR : P2s W rp rc rs) (hA : P2s W ap ac ats) :
    Calls Try.prog 38 #[.agg #[.int .i64 k, .string nm, .slice rp rs.length rc, .slice ap ats.length ac, .slice bp bl bc], .int .i64 lv, .pointer (some ⟨c, 0, none⟩)] W fun e w' => e = .returned (.bool (decide (ckE k nm rs ats bl lv = 0))) ∧ Cap1 w0 c (.int .i64 (ckE k nm rs ats bl lv)) X w' ∧ Gr X W w' := by
  have HI := Lib.hid hI
  obtain ⟨h1, h2, h3, h4, h5⟩ := hI
  have HR := Lib.hid hR
  have HA := Lib.hid hA
  obtain ⟨r, hr⟩ : ∃ r, ckE k nm rs ats bl lv = r := ⟨_, rfl⟩
  have Hr := Lib.hid hr
  rw [hr]
  clear h1 hR hA hr
  obtain ⟨d, hd⟩ : ∃ d, decide (r = 0) = d := ⟨_, rfl⟩
  rw [hd]
  have hd' : (r == 0) = d := by rw [← hd]; rfl
  clear hd
  go_enter Try.func38, Try.ntmps38
  go_wp2_with (go_at_call 39; apply Calls.mono; (with_reducible exact check_p k nm rp ap bp _ rc _ ac bl bc lv rs ats _ (HR.out.grew stable_p2 (by (repeat (first | exact Grew.refl _ | refine Grew.over ?_ _ | refine Grew.alloc ?_ _ | refine Grew.drew ?_ | refine Grew.drewN ?_ _)))) rfl (HA.out.grew stable_p2 (by (repeat (first | exact Grew.refl _ | refine Grew.over ?_ _ | refine Grew.alloc ?_ _ | refine Grew.drew ?_ | refine Grew.drewN ?_ _)))) rfl hl); rw [Hr.out]; rintro e w1 ⟨rfl, hg1⟩; have Hg1 := Lib.hid (show Grew W w1 from Grew.trans (by (repeat (first | exact Grew.refl _ | refine Grew.over ?_ _ | refine Grew.alloc ?_ _ | refine Grew.drew ?_ | refine Grew.drewN ?_ _))) hg1); have q1 := Hg1.out.cellEq h4; have q2 := Hg1.out.frozenEq h3 h5; clear hg1)
  go_ret
  obtain ⟨g1, g2⟩ := (HI.out.grew Hg1.out).set (.int .i64 r)
  exact ⟨rfl, g1, (Gr.of_grew X Hg1.out).trans g2⟩
def vI (w0 : World) (c : Nat) (done : List (St × Nat)) (X : Nat → Prop) (W : World) : Prop := Cap1 w0 c (.int .i64 0) X W ∧ ∀ y ∈ done, stE y = 0
def vS (c : Nat) (b : List (St × Nat)) (W : World) : Prop := ∃ r, r ≠ 0 ∧ W.cell? ⟨c, 0, none⟩ = some (.int .i64 r) ∧ ∃ b' x, b = b' ++ [x] ∧ (∀ y ∈ b', stE y = 0) ∧ stE x = r
theorem fst0_pre {a F : List (St × Nat)} {x : St × Nat} (h : a ++ [x] <+: F) (ha : ∀ y ∈ a, stE y = 0) (hx : stE x ≠ 0) : fst0 (F.map stE) = stE x := by
  obtain ⟨z, rfl⟩ := h
  rw [List.append_assoc, List.map_append, List.singleton_append, List.map_cons]
  exact fst0_app_hit (fun y hy => by obtain ⟨z, hz, rfl⟩ := List.mem_map.1 hy; exact ha z hz) hx

set_option maxHeartbeats 2000000 in
theorem valid_p (name : ByteArray) (dir : Bool) (p : Option Addr) (n cap : Nat) (l : List St) (w : World) (hS : Sts 20 w p cap l) (hn : l.length = n) (hc : cntL l ≤ 600) :
    Calls Try.prog 18 #[.agg #[.string name, .bool dir, .slice p n cap]] w fun e w' => e = .returned (.int .i64 (vlE name l)) ∧ Grew w w' := by
  have HS := Lib.hid hS
  clear hS
  obtain ⟨r, hr⟩ : ∃ r, vlE name l = r := ⟨_, rfl⟩
  have Hr := Lib.hid hr
  rw [hr]
  clear hr
  cases hnb : nameB name
  · have H := Lib.hid (Hr.out.symm.trans (if_pos hnb))
    have Hnb := Lib.hid hnb
    clear hnb
    go_enter Try.func18, Try.ntmps18
    go_wp2_with (go_at_call 33; apply Calls.mono; (with_reducible exact isname_e Hnb.out); rintro e w' ⟨rfl, rfl⟩)
    go_ret
    exact ⟨ret_int H.out.symm, by (repeat (first | exact Grew.refl _ | refine Grew.over ?_ _ | refine Grew.alloc ?_ _ | refine Grew.drew ?_ | refine Grew.drewN ?_ _))⟩
  have Hnb := Lib.hid hnb
  clear hnb
  by_cases h512 : cntL l ≤ 512
  case neg =>
    have H := Lib.hid (Hr.out.symm.trans ((if_neg (by rw [Hnb.out]; simp)).trans (if_pos (by omega))))
    go_enter Try.func18, Try.ntmps18
    go_wp2_with (first
      | (go_at_call 33; apply Calls.mono; (with_reducible exact isname_e Hnb.out); rintro e w' ⟨rfl, rfl⟩)
      | (go_at_call 20; apply Calls.mono; (with_reducible exact count_p _ _ _ _ _ l _ (HS.out.grew (stable_st _) (by (repeat (first | exact Grew.refl _ | refine Grew.over ?_ _ | refine Grew.alloc ?_ _ | refine Grew.drew ?_ | refine Grew.drewN ?_ _)))) hn hc); rintro e w1 ⟨rfl, hg1⟩; have Hg1 := Lib.hid (show Grew w w1 from Grew.trans (by (repeat (first | exact Grew.refl _ | refine Grew.over ?_ _ | refine Grew.alloc ?_ _ | refine Grew.drew ?_ | refine Grew.drewN ?_ _))) hg1); clear hg1))
    go_ret
    exact ⟨ret_int H.out.symm, Hg1.out⟩
  have Hr' := Lib.hid (Hr.out.symm.trans ((if_neg (by rw [Hnb.out]; simp)).trans (if_neg (by omega))))
  have hp : Hid (∀ (w1 : World), Grew w w1 → ∀ (W : World), Grew w1 W → W.heap.size = w1.heap.size + 1 → (W.cell? ⟨w1.heap.size, 0, none⟩ = some (.int .i64 0)) → (W.frozen? ⟨w1.heap.size, 0, none⟩ = false) →
      Calls Try.prog 28 #[.slice p n cap, .int .i64 0, .func (.func 38) #[] #[.pointer (some ⟨w1.heap.size, 0, none⟩)]] W fun e w' => ∃ b, e = .returned (.bool b) ∧ w'.cell? ⟨w1.heap.size, 0, none⟩ = some (.int .i64 r) ∧ Grew w w') := Lib.hid (by
    intro w1 hgw W hg hs hc0 hf0
    have := visit_valid (.pointer (some ⟨w1.heap.size, 0, none⟩)) w1 (vI w1 w1.heap.size) (vS w1.heap.size) (pre l 0)
      (fun done X W W' h hg => ⟨h.1.grew hg, h.2⟩) (fun done X W h => Cap1.x h.1)
      (fun done X W m lv k nm rs ats bd rp rc ap ac bp bc hlv hpre hI hg _ _ hR hA _ => by
        refine (valid1_p w1 _ k nm rs ats rp rc ap ac bp bd.length bc lv 0 X W hlv hI.1 hR hA).mono ?_
        rintro e w' ⟨rfl, h1, h2⟩
        by_cases h0 : ckE k nm rs ats bd.length lv = 0
        · left
          rw [decide_eq_true h0]
          rw [h0] at h1
          refine ⟨rfl, X, ⟨h1, fun y hy => ?_⟩, h2, fun k hk => Or.inl hk⟩
          rw [List.mem_append] at hy
          rcases hy with hy | hy
          · exact hI.2 y hy
          · simp at hy; subst hy; exact h0
        · right
          rw [decide_eq_false h0]
          exact ⟨rfl, ⟨_, _, List.prefix_refl _, by simp, rfl, _, h0, h1.2.2.2.1, done, _, rfl, hI.2, rfl⟩, h2⟩)
      20 p n cap l 0 [] (fun k => k = w1.heap.size) W (HS.out.grew (stable_st _) hgw) hn (by omega) (by simp) hg ⟨⟨fun k => Iff.rfl, by omega, by omega, hc0, hf0⟩, fun y hy => by simp at hy⟩
    refine this.mono ?_
    rintro e w' (⟨rfl, X', ⟨⟨i1, i2, i3, i4, i5⟩, i6⟩, h2, h3⟩ | ⟨rfl, ⟨a, b, ha, hne, rfl, r', hr', hcc, b', x, hb', hz, hx⟩, h2⟩)
    · refine ⟨true, rfl, ?_, (hgw.trans hg).gr (fun k hk => by have := hgw.below.size; omega) h2⟩
      rw [i4, Hr'.out, fst0_miss]
      intro y hy
      obtain ⟨z, hz, rfl⟩ := List.mem_map.1 hy
      exact i6 z hz
    · refine ⟨false, rfl, ?_, (hgw.trans hg).gr (fun k hk => by have := hgw.below.size; omega) h2⟩
      subst hb'
      rw [hcc, Hr'.out, fst0_pre ha hz (by rw [hx]; exact hr'), hx])
  go_enter Try.func18, Try.ntmps18
  go_wp2_with (first
    | (go_at_call 33; apply Calls.mono; (with_reducible exact isname_e Hnb.out); rintro e w' ⟨rfl, rfl⟩)
    | (go_at_call 28; apply Calls.mono; (with_reducible exact hp.out w1 Hg1.out _ (by (repeat (first | exact Grew.refl _ | refine Grew.over ?_ _ | refine Grew.alloc ?_ _ | refine Grew.drew ?_ | refine Grew.drewN ?_ _))) (by simp [go_sem]) (by simp [go_sem]) (by simp [go_sem])); rintro e w2 ⟨b, rfl, hc2, hg2⟩)
    | (go_at_call 20; apply Calls.mono; (with_reducible exact count_p _ _ _ _ _ l _ (HS.out.grew (stable_st _) (by (repeat (first | exact Grew.refl _ | refine Grew.over ?_ _ | refine Grew.alloc ?_ _ | refine Grew.drew ?_ | refine Grew.drewN ?_ _)))) hn hc); rintro e w1 ⟨rfl, hg1⟩; have Hg1 := Lib.hid (show Grew w w1 from Grew.trans (by (repeat (first | exact Grew.refl _ | refine Grew.over ?_ _ | refine Grew.alloc ?_ _ | refine Grew.drew ?_ | refine Grew.drewN ?_ _))) hg1); have Hg10 := Lib.hid hg1; have y2 := hg1.cellEq (b := w.heap.size) (i := 2) (v := .slice p n cap) (by simp [go_sem]); have y3 : w.heap.size < w1.heap.size := Nat.lt_of_lt_of_le (by simp [go_sem]) hg1.below.size; clear hg1))
  go_ret
  exact ⟨rfl, hg2⟩
end Go.Proofs.Ytbamckfjikpjlaa
