/- TreeChecks and TreeEquals. -/
import Derived.Test.YtbamckfjikpjlaaTreY
import Derived.Test.YtbamckfjikpjlaaTreO
set_option linter.unusedSimpArgs false
set_option linter.unusedVariables false
namespace Go.Proofs.Ytbamckfjikpjlaa
open Go.RowKit
attribute [local go_sem ↓] Go.wp_at_zero Go.wp_at_succ

theorem fst0_zero {l : List Int} (h : fst0 l = 0) : ∀ y ∈ l, y = 0 := by
  induction l with
  | nil => intro y hy; simp at hy
  | cons x l ih =>
    intro y hy
    unfold fst0 at h
    split at h
    · rename_i hx
      rcases List.mem_cons.1 hy with rfl | hy
      · exact hx
      · exact ih h y hy
    · rename_i hx; exact absurd h hx
theorem stE_lv {x : St × Nat} (h : stE x = 0) (hk : kdS x.1 = 5) : x.2 < 6 := by
  obtain ⟨⟨k, nm, rs, ats, bd⟩, lv⟩ := x
  have hk' : k = 5 := hk
  subst hk'
  have h' : ckE 5 nm rs ats bd.length lv = 0 := h
  unfold ckE at h'
  split at h'
  · omega
  · split at h'
    · omega
    · rename_i h2
      dsimp only
      omega
theorem mx_le {l : List (St × Nat)} (h : ∀ x ∈ l, kdS x.1 = 5 → x.2 < 6) : mxL l ≤ 6 := by
  suffices ∀ a, a ≤ 6 → l.foldl mxF a ≤ 6 from this 0 (by omega)
  induction l with
  | nil => exact fun a ha => ha
  | cons x l ih =>
    intro a ha
    refine ih (fun y hy => h y (by simp [hy])) _ ?_
    unfold mxF
    split
    · have := h x (by simp) (by assumption); omega
    · exact ha
theorem valid_facts {name : ByteArray} {l : List St} (h : vlE name l = 0) : nameB name = true ∧ cntL l ≤ 512 ∧ (∀ x ∈ pre l 0, stE x = 0) := by
  unfold vlE at h
  split at h
  · omega
  · rename_i h1
    split at h
    · omega
    · rename_i h2
      refine ⟨by simpa using h1, by omega, fun x hx => fst0_zero h _ (List.mem_map.2 ⟨x, hx, rfl⟩)⟩
theorem valid_mx {name : ByteArray} {l : List St} (h : vlE name l = 0) : mxL (pre l 0) ≤ 6 := mx_le fun x hx hk => stE_lv ((valid_facts h).2.2 x hx) hk

theorem depthp_e {name : ByteArray} {dir : Bool} {p : Option Addr} {n cap : Nat} {l : List St} {w0 w : World} {m : Nat} (hm : mxL (pre l 0) = m) (hS : Sts 20 w0 p cap l) (hg : Grew w0 w) (hn : l.length = n) (hd : depL l ≤ 20) :
    Calls Try.prog 19 #[.agg #[.string name, .bool dir, .slice p n cap]] w fun e w' => e = .returned (.int .i64 m) ∧ Grew w w' := hm ▸ depth_p name dir p n cap l w (hS.grew (stable_st _) hg) hn hd
theorem depthr_e {name : ByteArray} {dir : Bool} {p : Option Addr} {n cap : Nat} {l : List St} {w0 w : World} {m : Nat} (hm : mxL (pre l 0) = m) (hS : Sts 20 w0 p cap l) (hg : Grew w0 w) (hn : l.length = n) (hc : cntL l ≤ 600) (hd : depL l ≤ 20) :
    Calls Try.prog 23 #[.agg #[.string name, .bool dir, .slice p n cap]] w fun e w' => e = .returned (.int .i64 m) ∧ Grew w w' := hm ▸ depth_r name dir p n cap l w (hS.grew (stable_st _) hg) hn hc hd
theorem countp_e {name : ByteArray} {dir : Bool} {p : Option Addr} {n cap : Nat} {l : List St} {w0 w : World} (hS : Sts 20 w0 p cap l) (hg : Grew w0 w) (hn : l.length = n) (hc : cntL l ≤ 600) :
    Calls Try.prog 20 #[.agg #[.string name, .bool dir, .slice p n cap]] w fun e w' => e = .returned (.int .i64 (cntL l)) ∧ Grew w w' := count_p name dir p n cap l w (hS.grew (stable_st _) hg) hn hc
theorem countr_e {name : ByteArray} {dir : Bool} {p : Option Addr} {n cap : Nat} {l : List St} {w0 w : World} (hS : Sts 20 w0 p cap l) (hg : Grew w0 w) (hn : l.length = n) (hc : cntL l ≤ 600) :
    Calls Try.prog 22 #[.agg #[.string name, .bool dir, .slice p n cap]] w fun e w' => e = .returned (.int .i64 (cntL l)) ∧ Grew w w' := count_r name dir p n cap l w (hS.grew (stable_st _) hg) hn hc

theorem Equalp_e {na nb : ByteArray} {da db : Bool} {p q : Option Addr} {m c k d : Nat} {x y : List St} {w0 w : World} {r : Bool} (hr : tEq na da x nb db y = r) (hx : Sts 20 w0 p c x) (hy : Sts 20 w0 q d y) (hg : Grew w0 w) (hm : x.length = m) (hk : y.length = k) :
    Calls Try.prog 24 #[.agg #[.string na, .bool da, .slice p m c], .agg #[.string nb, .bool db, .slice q k d]] w fun e w' => e = .returned (.bool r) ∧ Grew w w' := hr ▸ Equal_p 20 na nb da db p q m c k d x y w (hx.grew (stable_st _) hg) (hy.grew (stable_st _) hg) hm hk
theorem Equalr_e {na nb : ByteArray} {da db : Bool} {p q : Option Addr} {m c k d : Nat} {x y : List St} {w0 w : World} {r : Bool} (hr : tEq na da x nb db y = r) (hx : Sts 20 w0 p c x) (hy : Sts 20 w0 q d y) (hg : Grew w0 w) (hm : x.length = m) (hk : y.length = k) :
    Calls Try.prog 17 #[.agg #[.string na, .bool da, .slice p m c], .agg #[.string nb, .bool db, .slice q k d]] w fun e w' => e = .returned (.bool r) ∧ Grew w w' := hr ▸ Equal_r 20 na nb da db p q m c k d x y w (hx.grew (stable_st _) hg) (hy.grew (stable_st _) hg) hm hk
theorem lEq_comm (a b : List St) : lEq a b = lEq b a := by
  cases h : lEq b a
  · exact lEq_n fun e => lEq_not h e.symm
  · exact lEq_y (lEq_of h).symm
theorem tEq_comm (na : ByteArray) (da : Bool) (a : List St) (nb : ByteArray) (db : Bool) (b : List St) : tEq na da a nb db b = tEq nb db b na da a := by
  unfold tEq
  rw [lEq_comm a b, sq_dec, sq_dec, decide_eq_decide.2 (⟨Eq.symm, Eq.symm⟩ : na = nb ↔ nb = na)]
  cases da <;> cases db <;> rfl
theorem tEq_self (na : ByteArray) (da : Bool) (a : List St) : tEq na da a na da a = true := by
  unfold tEq
  rw [sq_self, lEq_y rfl]
  cases da <;> rfl
theorem T3.box2 (w : World) (v0 v1 v2 u0 u1 u2 : Value) (t s : TypeId) : T3 ((w.alloc (.cells #[v0, v1, v2] t)).alloc (.cells #[u0, u1, u2] s)) (w.heap.size + 1) u0 u1 u2 := by
  refine ⟨by simp [go_sem], ?_, ?_, ?_⟩ <;> simp [go_sem]

set_option maxHeartbeats 4000000 in
theorem checks_l (N : Nat) (name : ByteArray) (dir : Bool) (p : Option Addr) (n cap : Nat) (l : List St) (w : World) (hS : Sts N w p cap l) (hn : l.length = n) :
    Calls Try.prog 5 #[.agg #[.string name, .bool dir, .slice p n cap]] w fun e w' => e = .returned (.bool true) ∧ Grew w w' := by
  have HS := Lib.hid hS
  clear hS
  have hfew := fun W hW => few_p name dir p n cap l N W (HS.out.grew (stable_st _) hW) hn
  have Hfew := Lib.hid (hfew : ∀ W, Grew w W → _)
  clear hfew
  obtain ⟨e0, he⟩ : ∃ e, vlE name l = e := ⟨_, rfl⟩
  have He := Lib.hid he
  by_cases h0 : e0 = 0
  · subst h0
    have hm := Lib.hid (valid_mx he)
    have hc512 := Lib.hid (valid_facts he).2.1
    obtain ⟨mx, hmx⟩ : ∃ m, mxL (pre l 0) = m := ⟨_, rfl⟩
    have Hmx := Lib.hid hmx
    have hm6 : mx ≤ 6 := by rw [← hmx]; exact hm.out
    have hc5 := hc512.out
    clear he hmx
    go_enter Try.func5, Try.ntmps5
    go_wp2_with (first
      | (go_at_call 8; apply Calls.mono; (with_reducible exact Hfew.out _ (by (repeat (first | exact Grew.refl _ | refine Grew.over ?_ _ | refine Grew.alloc ?_ _ | refine Grew.drew ?_ | refine Grew.drewN ?_ _)))); rintro e w1 ⟨⟨b, rfl, hbb⟩, hg1⟩; have Hg1 := Lib.hid (show Grew w w1 from Grew.trans (by (repeat (first | exact Grew.refl _ | refine Grew.over ?_ _ | refine Grew.alloc ?_ _ | refine Grew.drew ?_ | refine Grew.drewN ?_ _))) hg1); obtain ⟨a0, a1, a2, a3⟩ := (T3.box w (.string name) (.bool dir) (.slice p n cap) 24).grew hg1; have Ha := Lib.hid (show T3 w1 w.heap.size (.string name) (.bool dir) (.slice p n cap) from ⟨a0, a1, a2, a3⟩); clear hg1; rcases hbb with rfl | ⟨rfl, h1, h2, h3⟩)
      | (go_at_call 9; apply Calls.mono; (with_reducible exact awake_l _); rintro e w2 ⟨rfl, hg2⟩; have Hg1 := Lib.hid (Hg1.out.trans (Grew.trans (by (repeat (first | exact Grew.refl _ | refine Grew.over ?_ _ | refine Grew.alloc ?_ _ | refine Grew.drew ?_ | refine Grew.drewN ?_ _))) hg2)); clear hg2)
      | (go_at_call 18; apply Calls.mono; (with_reducible exact validp_e He.out (Sts.dep HS.out h2) Hg1.out hn h1); rintro e w2 ⟨rfl, hg2⟩; have Hg1 := Lib.hid (Hg1.out.trans (Grew.trans (by (repeat (first | exact Grew.refl _ | refine Grew.over ?_ _ | refine Grew.alloc ?_ _ | refine Grew.drew ?_ | refine Grew.drewN ?_ _))) hg2)); have Ha := Lib.hid (Ha.out.grew hg2); obtain ⟨a0, a1, a2, a3⟩ := Ha.out; clear hg2)
      | (go_at_call 19; apply Calls.mono; (with_reducible exact depthp_e Hmx.out (Sts.dep HS.out h2) Hg1.out hn h2); rintro e w2 ⟨rfl, hg2⟩; have Hg1 := Lib.hid (Hg1.out.trans (Grew.trans (by (repeat (first | exact Grew.refl _ | refine Grew.over ?_ _ | refine Grew.alloc ?_ _ | refine Grew.drew ?_ | refine Grew.drewN ?_ _))) hg2)); have Ha := Lib.hid (Ha.out.grew hg2); obtain ⟨a0, a1, a2, a3⟩ := Ha.out; clear hg2)
      | (go_at_call 20; apply Calls.mono; (with_reducible exact countp_e (Sts.dep HS.out h2) Hg1.out hn h1); rintro e w2 ⟨rfl, hg2⟩; have Hg1 := Lib.hid (Hg1.out.trans (Grew.trans (by (repeat (first | exact Grew.refl _ | refine Grew.over ?_ _ | refine Grew.alloc ?_ _ | refine Grew.drew ?_ | refine Grew.drewN ?_ _))) hg2)); have Ha := Lib.hid (Ha.out.grew hg2); obtain ⟨a0, a1, a2, a3⟩ := Ha.out; clear hg2))
    · go_ret
      exact ⟨rfl, Hg1.out⟩
    · refine wp_region_over (by kernel_rfl) (by kernel_rfl) ?_; (repeat (go_big_quiet_step (first | (go_at_call 21; apply over_call; with_reducible exact validr_e He.out (Sts.dep HS.out h2) (Hg1.out.trans (by (repeat (first | exact Grew.refl _ | refine Grew.over ?_ _ | refine Grew.alloc ?_ _ | refine Grew.drew ?_ | refine Grew.drewN ?_ _)))) hn h1 h2) | (go_at_call 20; apply over_call; with_reducible exact countp_e (Sts.dep HS.out h2) (Hg1.out.trans (by (repeat (first | exact Grew.refl _ | refine Grew.over ?_ _ | refine Grew.alloc ?_ _ | refine Grew.drew ?_ | refine Grew.drewN ?_ _)))) hn h1) | (go_at_call 22; apply over_call; with_reducible exact countr_e (Sts.dep HS.out h2) (Hg1.out.trans (by (repeat (first | exact Grew.refl _ | refine Grew.over ?_ _ | refine Grew.alloc ?_ _ | refine Grew.drew ?_ | refine Grew.drewN ?_ _)))) hn h1) | (go_at_call 19; apply over_call; with_reducible exact depthp_e Hmx.out (Sts.dep HS.out h2) (Hg1.out.trans (by (repeat (first | exact Grew.refl _ | refine Grew.over ?_ _ | refine Grew.alloc ?_ _ | refine Grew.drew ?_ | refine Grew.drewN ?_ _)))) hn h2) | (go_at_call 23; apply over_call; with_reducible exact depthr_e Hmx.out (Sts.dep HS.out h2) (Hg1.out.trans (by (repeat (first | exact Grew.refl _ | refine Grew.over ?_ _ | refine Grew.alloc ?_ _ | refine Grew.drew ?_ | refine Grew.drewN ?_ _)))) hn h1 h2) | (go_at_call 9; apply over_call; with_reducible exact awake_l _)))); refine wpQuiet_nil ?_; rintro _ ⟨x, rfl⟩
      go_wp2
      go_ret
      exact ⟨rfl, Hg1.out.trans (by (repeat (first | exact Grew.refl _ | refine Grew.over ?_ _ | refine Grew.alloc ?_ _ | refine Grew.drew ?_ | refine Grew.drewN ?_ _)))⟩
  · have h0' : (e0 == 0) = false := beq_eq_false_iff_ne.2 h0
    have h0'' : (e0 != 0) = true := bne_iff_ne.2 h0
    obtain ⟨mx, hmx⟩ : ∃ m, mxL (pre l 0) = m := ⟨_, rfl⟩
    have Hmx := Lib.hid hmx
    clear he hmx
    go_enter Try.func5, Try.ntmps5
    go_wp2_with (first
      | (go_at_call 8; apply Calls.mono; (with_reducible exact Hfew.out _ (by (repeat (first | exact Grew.refl _ | refine Grew.over ?_ _ | refine Grew.alloc ?_ _ | refine Grew.drew ?_ | refine Grew.drewN ?_ _)))); rintro e w1 ⟨⟨b, rfl, hbb⟩, hg1⟩; have Hg1 := Lib.hid (show Grew w w1 from Grew.trans (by (repeat (first | exact Grew.refl _ | refine Grew.over ?_ _ | refine Grew.alloc ?_ _ | refine Grew.drew ?_ | refine Grew.drewN ?_ _))) hg1); obtain ⟨a0, a1, a2, a3⟩ := (T3.box w (.string name) (.bool dir) (.slice p n cap) 24).grew hg1; have Ha := Lib.hid (show T3 w1 w.heap.size (.string name) (.bool dir) (.slice p n cap) from ⟨a0, a1, a2, a3⟩); clear hg1; rcases hbb with rfl | ⟨rfl, h1, h2, h3⟩)
      | (go_at_call 9; apply Calls.mono; (with_reducible exact awake_l _); rintro e w2 ⟨rfl, hg2⟩; have Hg1 := Lib.hid (Hg1.out.trans (Grew.trans (by (repeat (first | exact Grew.refl _ | refine Grew.over ?_ _ | refine Grew.alloc ?_ _ | refine Grew.drew ?_ | refine Grew.drewN ?_ _))) hg2)); clear hg2)
      | (go_at_call 18; apply Calls.mono; (with_reducible exact validp_e He.out (Sts.dep HS.out h2) Hg1.out hn h1); rintro e w2 ⟨rfl, hg2⟩; have Hg1 := Lib.hid (Hg1.out.trans (Grew.trans (by (repeat (first | exact Grew.refl _ | refine Grew.over ?_ _ | refine Grew.alloc ?_ _ | refine Grew.drew ?_ | refine Grew.drewN ?_ _))) hg2)); have Ha := Lib.hid (Ha.out.grew hg2); obtain ⟨a0, a1, a2, a3⟩ := Ha.out; clear hg2)
      | (go_at_call 19; apply Calls.mono; (with_reducible exact depthp_e Hmx.out (Sts.dep HS.out h2) Hg1.out hn h2); rintro e w2 ⟨rfl, hg2⟩; have Hg1 := Lib.hid (Hg1.out.trans (Grew.trans (by (repeat (first | exact Grew.refl _ | refine Grew.over ?_ _ | refine Grew.alloc ?_ _ | refine Grew.drew ?_ | refine Grew.drewN ?_ _))) hg2)); have Ha := Lib.hid (Ha.out.grew hg2); obtain ⟨a0, a1, a2, a3⟩ := Ha.out; clear hg2)
      | (go_at_call 20; apply Calls.mono; (with_reducible exact countp_e (Sts.dep HS.out h2) Hg1.out hn h1); rintro e w2 ⟨rfl, hg2⟩; have Hg1 := Lib.hid (Hg1.out.trans (Grew.trans (by (repeat (first | exact Grew.refl _ | refine Grew.over ?_ _ | refine Grew.alloc ?_ _ | refine Grew.drew ?_ | refine Grew.drewN ?_ _))) hg2)); have Ha := Lib.hid (Ha.out.grew hg2); obtain ⟨a0, a1, a2, a3⟩ := Ha.out; clear hg2))
    · go_ret
      exact ⟨rfl, Hg1.out⟩
    · refine wp_region_over (by kernel_rfl) (by kernel_rfl) ?_; (repeat (go_big_quiet_step (first | (go_at_call 21; apply over_call; with_reducible exact validr_e He.out (Sts.dep HS.out h2) (Hg1.out.trans (by (repeat (first | exact Grew.refl _ | refine Grew.over ?_ _ | refine Grew.alloc ?_ _ | refine Grew.drew ?_ | refine Grew.drewN ?_ _)))) hn h1 h2) | (go_at_call 20; apply over_call; with_reducible exact countp_e (Sts.dep HS.out h2) (Hg1.out.trans (by (repeat (first | exact Grew.refl _ | refine Grew.over ?_ _ | refine Grew.alloc ?_ _ | refine Grew.drew ?_ | refine Grew.drewN ?_ _)))) hn h1) | (go_at_call 22; apply over_call; with_reducible exact countr_e (Sts.dep HS.out h2) (Hg1.out.trans (by (repeat (first | exact Grew.refl _ | refine Grew.over ?_ _ | refine Grew.alloc ?_ _ | refine Grew.drew ?_ | refine Grew.drewN ?_ _)))) hn h1) | (go_at_call 19; apply over_call; with_reducible exact depthp_e Hmx.out (Sts.dep HS.out h2) (Hg1.out.trans (by (repeat (first | exact Grew.refl _ | refine Grew.over ?_ _ | refine Grew.alloc ?_ _ | refine Grew.drew ?_ | refine Grew.drewN ?_ _)))) hn h2) | (go_at_call 23; apply over_call; with_reducible exact depthr_e Hmx.out (Sts.dep HS.out h2) (Hg1.out.trans (by (repeat (first | exact Grew.refl _ | refine Grew.over ?_ _ | refine Grew.alloc ?_ _ | refine Grew.drew ?_ | refine Grew.drewN ?_ _)))) hn h1 h2) | (go_at_call 9; apply over_call; with_reducible exact awake_l _)))); refine wpQuiet_nil ?_; rintro _ ⟨x, rfl⟩
      go_wp2
      go_ret
      exact ⟨rfl, Hg1.out.trans (by (repeat (first | exact Grew.refl _ | refine Grew.over ?_ _ | refine Grew.alloc ?_ _ | refine Grew.drew ?_ | refine Grew.drewN ?_ _)))⟩

set_option maxHeartbeats 4000000 in
theorem equals_l (N M : Nat) (na nb : ByteArray) (da db : Bool) (p q : Option Addr) (n m cap c2 : Nat) (l k : List St) (w : World) (hS : Sts N w p cap l) (hn : l.length = n) (hT : Sts M w q c2 k) (hm : k.length = m) :
    Calls Try.prog 6 #[.agg #[.string na, .bool da, .slice p n cap], .agg #[.string nb, .bool db, .slice q m c2]] w fun e w' => e = .returned (.bool true) ∧ Grew w w' := by
  have HS := Lib.hid hS
  have HT := Lib.hid hT
  clear hS hT
  have Hfew := Lib.hid (fun W (hW : Grew w W) => few_p na da p n cap l N W (HS.out.grew (stable_st _) hW) hn)
  have Hfew2 := Lib.hid (fun W (hW : Grew w W) => few_p nb db q m c2 k M W (HT.out.grew (stable_st _) hW) hm)
  obtain ⟨r, hr⟩ : ∃ r, tEq na da l nb db k = r := ⟨_, rfl⟩
  have Hr := Lib.hid hr
  have Hr2 := Lib.hid ((tEq_comm nb db k na da l).trans hr)
  have Hy := Lib.hid (tEq_self na da l)
  clear hr
  cases r
  all_goals
    go_enter Try.func6, Try.ntmps6
    go_wp2_with (first
      | (go_at_call 8; apply Calls.mono; (with_reducible exact Hfew.out _ (by (repeat (first | exact Grew.refl _ | refine Grew.over ?_ _ | refine Grew.alloc ?_ _ | refine Grew.drew ?_ | refine Grew.drewN ?_ _)))); rintro e w1 ⟨⟨b, rfl, hbb⟩, hg1⟩; have Hg1 := Lib.hid (show Grew w w1 from Grew.trans (by (repeat (first | exact Grew.refl _ | refine Grew.over ?_ _ | refine Grew.alloc ?_ _ | refine Grew.drew ?_ | refine Grew.drewN ?_ _))) hg1); have Ha := Lib.hid (((T3.box w (.string na) (.bool da) (.slice p n cap) 24).grew (by (repeat (first | exact Grew.refl _ | refine Grew.over ?_ _ | refine Grew.alloc ?_ _ | refine Grew.drew ?_ | refine Grew.drewN ?_ _)))).grew hg1); have Hb := Lib.hid ((T3.box2 w (.string na) (.bool da) (.slice p n cap) (.string nb) (.bool db) (.slice q m c2) 24 24).grew hg1); obtain ⟨a0, a1, a2, a3⟩ := Ha.out; obtain ⟨b0, b1, b2, b3⟩ := Hb.out; clear hg1; rcases hbb with rfl | ⟨rfl, h1, h2, h3⟩)
      | (go_at_call 8; apply Calls.mono; (with_reducible exact Hfew2.out _ Hg1.out); rintro e w2 ⟨⟨b, rfl, hbb⟩, hg2⟩; have Hg1 := Lib.hid (Hg1.out.trans (Grew.trans (by (repeat (first | exact Grew.refl _ | refine Grew.over ?_ _ | refine Grew.alloc ?_ _ | refine Grew.drew ?_ | refine Grew.drewN ?_ _))) hg2)); have Ha := Lib.hid (Ha.out.grew hg2); have Hb := Lib.hid (Hb.out.grew hg2); obtain ⟨a0, a1, a2, a3⟩ := Ha.out; obtain ⟨b0, b1, b2, b3⟩ := Hb.out; clear hg2; rcases hbb with rfl | ⟨rfl, k1, k2, k3⟩)
      | (go_at_call 9; apply Calls.mono; (with_reducible exact awake_l _); rintro e w2 ⟨rfl, hg2⟩; have Hg1 := Lib.hid (Hg1.out.trans (Grew.trans (by (repeat (first | exact Grew.refl _ | refine Grew.over ?_ _ | refine Grew.alloc ?_ _ | refine Grew.drew ?_ | refine Grew.drewN ?_ _))) hg2)); clear hg2))
    · go_ret
      exact ⟨rfl, Hg1.out⟩
    · go_ret
      exact ⟨rfl, Hg1.out⟩
    · refine wp_region_over (by kernel_rfl) (by kernel_rfl) ?_; (repeat (go_big_quiet_step (first | (go_at_call 24; apply over_call; with_reducible exact Equalp_e Hr.out (Sts.dep HS.out h2) (Sts.dep HT.out k2) (Hg1.out.trans (by (repeat (first | exact Grew.refl _ | refine Grew.over ?_ _ | refine Grew.alloc ?_ _ | refine Grew.drew ?_ | refine Grew.drewN ?_ _)))) hn hm) | (go_at_call 17; apply over_call; with_reducible exact Equalr_e Hr.out (Sts.dep HS.out h2) (Sts.dep HT.out k2) (Hg1.out.trans (by (repeat (first | exact Grew.refl _ | refine Grew.over ?_ _ | refine Grew.alloc ?_ _ | refine Grew.drew ?_ | refine Grew.drewN ?_ _)))) hn hm) | (go_at_call 24; apply over_call; with_reducible exact Equalp_e Hr2.out (Sts.dep HT.out k2) (Sts.dep HS.out h2) (Hg1.out.trans (by (repeat (first | exact Grew.refl _ | refine Grew.over ?_ _ | refine Grew.alloc ?_ _ | refine Grew.drew ?_ | refine Grew.drewN ?_ _)))) hm hn) | (go_at_call 24; apply over_call; with_reducible exact Equalp_e Hy.out (Sts.dep HS.out h2) (Sts.dep HS.out h2) (Hg1.out.trans (by (repeat (first | exact Grew.refl _ | refine Grew.over ?_ _ | refine Grew.alloc ?_ _ | refine Grew.drew ?_ | refine Grew.drewN ?_ _)))) hn hn) | (go_at_call 9; apply over_call; with_reducible exact awake_l _)))); refine wpQuiet_nil ?_; rintro _ ⟨x, rfl⟩
      go_wp2
      go_ret
      exact ⟨rfl, Hg1.out.trans (by (repeat (first | exact Grew.refl _ | refine Grew.over ?_ _ | refine Grew.alloc ?_ _ | refine Grew.drew ?_ | refine Grew.drewN ?_ _)))⟩
end Go.Proofs.Ytbamckfjikpjlaa
