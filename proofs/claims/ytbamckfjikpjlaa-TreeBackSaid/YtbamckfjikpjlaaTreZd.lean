/- TreeBack: the walk. -/
import Derived.Test.YtbamckfjikpjlaaTreZc
set_option linter.unusedSimpArgs false
set_option linter.unusedVariables false
namespace Go.Proofs.Ytbamckfjikpjlaa
open Go.RowKit
attribute [local go_sem ↓] Go.wp_at_zero Go.wp_at_succ

section
variable {P : Program} {Q : Exit → Act → World → Prop} {md : Region.Mode} {S : World → Prop} {s : Nat}
/-- An operation is taken first; S holds behind each operation. -/
theorem wpAnyT_takeV {l : List Oper} {i : Nat} {oi : Oper} {v : Value} {fuel : Nat} {listed : Array Bool} {a : Act} {w : World} (hi : l[i]? = some oi)
    (hn : Region.noSelect l.toArray = true) (hf : Region.free md l.toArray listed i = true) (hr : (Region.ready md l.toArray listed).contains i = true) (hs : l.length ≤ s)
    (hQ : ∀ c a w, Q (.panic c) (a.put oi.dst v) w → Q (.panic c) a w) (hy : YieldsIf P l.toArray S oi v a) (hS : S w)
    (h : wpAnyT P md l.toArray Q S s fuel (listed.setIfInBounds i true) (a.put oi.dst v) w) : wpAnyT P md l.toArray Q S s (fuel + 1) listed a w :=
  wpAnyT_first (by simpa using hi) (Region.noSelect_spec hn) hQ (fun listed h => by
    obtain ⟨_, os, hos, _⟩ := mem_ready.1 h
    rw [Array.getElem?_eq_none (by simpa using hs)] at hos
    cases hos) fuel listed a w (Region.free_spec (by simpa using hi) hf) (by simpa using hr) hy hS h
end
theorem rename0_e {name : ByteArray} {dir : Bool} {p : Option Addr} {n cap : Nat} {l L : List St} {f t : ByteArray} {w0 w : World} (hr : rnE name l f t = 0) (hL : renL f t l = L)
    (hS : Sts 20 w0 p cap l) (hg : Grew w0 w) (hn : l.length = n) (hc : cntL l ≤ 600) (hsm : smL l) (ht : t.size ≤ maxLen) :
    Calls Try.prog 15 #[.agg #[.string name, .bool dir, .slice p n cap], .string f, .string t] w fun e w' => (∃ q c, e = .returned (.tuple #[.agg #[.string name, .bool dir, .slice q n c], .int .i64 0]) ∧ Sts 20 w' q c L) ∧ Grew w w' := by
  refine (rename_p name dir p n cap l f t w (hS.grew (stable_st _) hg) hn hc hsm ht).mono ?_
  rintro e w' ⟨⟨q, c, he, hs⟩, hg⟩
  unfold rnL at he hs
  rw [hr, if_pos rfl, if_pos rfl, renL_len, hn] at he
  rw [hr, if_pos rfl, hL] at hs
  exact ⟨⟨q, c, by rw [he]; simp, hs⟩, hg⟩
theorem renameN_e {name : ByteArray} {dir : Bool} {p : Option Addr} {n cap : Nat} {l : List St} {f t : ByteArray} {w0 w : World} {r : Int} (hr : rnE name l f t = r)
    (hS : Sts 20 w0 p cap l) (hg : Grew w0 w) (hn : l.length = n) (hc : cntL l ≤ 600) (hsm : smL l) (ht : t.size ≤ maxLen) :
    Calls Try.prog 15 #[.agg #[.string name, .bool dir, .slice p n cap], .string f, .string t] w fun e w' => (∃ nm d q m c, e = .returned (.tuple #[.agg #[.string nm, .bool d, .slice q m c], .int .i64 r])) ∧ Grew w w' := by
  refine (rename_p name dir p n cap l f t w (hS.grew (stable_st _) hg) hn hc hsm ht).mono ?_
  rintro e w' ⟨⟨q, c, he, hs⟩, hg⟩
  rw [hr] at he
  exact ⟨⟨_, _, q, _, c, he⟩, hg⟩

theorem Equalp_2 {na nb : ByteArray} {da db : Bool} {p q : Option Addr} {m c k d : Nat} {x y : List St} {w0 w1 w : World} {r : Bool} (hr : tEq na da x nb db y = r) (hx : Sts 20 w0 p c x) (hy : Sts 20 w1 q d y) (hg : Grew w0 w) (hg' : Grew w1 w) (hm : x.length = m) (hk : y.length = k) :
    Calls Try.prog 24 #[.agg #[.string na, .bool da, .slice p m c], .agg #[.string nb, .bool db, .slice q k d]] w fun e w' => e = .returned (.bool r) ∧ Grew w w' := Equalp_e hr (hx.grew (stable_st _) hg) (hy.grew (stable_st _) hg') (Grew.refl _) hm hk
theorem countk_e {name : ByteArray} {dir : Bool} {p : Option Addr} {n cap k : Nat} {l : List St} {w0 w : World} (hk : cntL l = k) (hS : Sts 20 w0 p cap l) (hg : Grew w0 w) (hn : l.length = n) (hc : cntL l ≤ 600) :
    Calls Try.prog 20 #[.agg #[.string name, .bool dir, .slice p n cap]] w fun e w' => e = .returned (.int .i64 k) ∧ Grew w w' := hk ▸ countp_e hS hg hn hc

set_option maxHeartbeats 8000000 in
set_option maxRecDepth 4000 in
theorem back_l (N : Nat) (name : ByteArray) (dir : Bool) (p : Option Addr) (n cap : Nat) (l : List St) (f t : ByteArray) (w : World) (hS : Sts N w p cap l) (hn : l.length = n) (hfm : f.size ≤ maxLen) (htm : t.size ≤ maxLen) :
    Calls Try.prog 7 #[.agg #[.string name, .bool dir, .slice p n cap], .string f, .string t] w fun e w' => e = .returned (.bool true) ∧ Grew w w' := by
  have HS := Lib.hid hS
  have Hfm := Lib.hid hfm
  have Htm := Lib.hid htm
  clear hS hfm htm
  have Hfew := Lib.hid (fun W (hW : Grew w W) => few_p name dir p n cap l N W (HS.out.grew (stable_st _) hW) hn)
  obtain ⟨CS, hCS⟩ : ∃ r, clustL name l = r := ⟨_, rfl⟩
  have HCS := Lib.hid hCS
  obtain ⟨r, hr⟩ : ∃ r, rnE name l f t = r := ⟨_, rfl⟩
  have Hr := Lib.hid hr
  clear hCS hr
  go_enter Try.func7, Try.ntmps7
  go_wp2_with (first
    | (go_at_call 8; apply Calls.mono; (with_reducible exact Hfew.out _ (by (repeat (first | exact Grew.refl _ | refine Grew.over ?_ _ | refine Grew.alloc ?_ _ | refine Grew.drew ?_ | refine Grew.drewN ?_ _)))); rintro e w1 ⟨⟨b, rfl, hbb⟩, hg1⟩; have Hg1 := Lib.hid (show Grew w w1 from Grew.trans (by (repeat (first | exact Grew.refl _ | refine Grew.over ?_ _ | refine Grew.alloc ?_ _ | refine Grew.drew ?_ | refine Grew.drewN ?_ _))) hg1); have Ha := Lib.hid ((T3.box w (.string name) (.bool dir) (.slice p n cap) 24).grew hg1); obtain ⟨a0, a1, a2, a3⟩ := Ha.out; clear hg1; rcases hbb with rfl | ⟨rfl, h1, h2, h3⟩)
    | (go_at_call 9; apply Calls.mono; (with_reducible exact awake_l _); rintro e w2 ⟨rfl, hg2⟩; have Hg1 := Lib.hid (Hg1.out.trans (Grew.trans (by (repeat (first | exact Grew.refl _ | refine Grew.over ?_ _ | refine Grew.alloc ?_ _ | refine Grew.drew ?_ | refine Grew.drewN ?_ _))) hg2)); clear hg2)
    | (go_at_call 14; apply Calls.mono; (with_reducible exact clustr_e HCS.out (Sts.dep HS.out h2) (Hg1.out.trans (by (repeat (first | exact Grew.refl _ | refine Grew.over ?_ _ | refine Grew.alloc ?_ _ | refine Grew.drew ?_ | refine Grew.drewN ?_ _)))) hn h1 h2); rintro e w2 ⟨⟨qC, cC, rfl, hsC⟩, hg2⟩; have HsC := Lib.hid hsC; have Hg1 := Lib.hid (Hg1.out.trans (Grew.trans (by (repeat (first | exact Grew.refl _ | refine Grew.over ?_ _ | refine Grew.alloc ?_ _ | refine Grew.drew ?_ | refine Grew.drewN ?_ _))) hg2)); have Ha := Lib.hid (Ha.out.grew (Grew.trans (by (repeat (first | exact Grew.refl _ | refine Grew.over ?_ _ | refine Grew.alloc ?_ _ | refine Grew.drew ?_ | refine Grew.drewN ?_ _))) hg2)); obtain ⟨a0, a1, a2, a3⟩ := Ha.out; clear hg2 hsC))
  · go_ret
    exact ⟨rfl, Hg1.out⟩
  have HS2 := Lib.hid (Sts.dep HS.out h2)
  have hcl := len_lt HsC.out
  clear a0 a1 a2 a3
  go_loopw [8] (fun i wr => ∃ k : Nat, k ≤ CS.length ∧ i = .int .i64 k ∧ (∀ (j : Nat) y, j < k → CS[j]? = some y → y ≠ f) ∧ Grew w2 wr) (fun i _ => CS.length - (intOf i).toNat)
  case atStart => exact ⟨0, Nat.zero_le _, rfl, fun j y hj => by omega, by (repeat (first | exact Grew.refl _ | refine Grew.over ?_ _ | refine Grew.alloc ?_ _ | refine Grew.drew ?_ | refine Grew.drewN ?_ _))⟩
  case round =>
    obtain ⟨k, hk, rfl, hall, hg⟩ := hrel
    have Hall := Lib.hid hall
    have Hg := Lib.hid hg
    have Hgw := Lib.hid (Hg1.out.trans hg)
    clear hall hg
    by_cases hlt : k < CS.length
    · obtain ⟨b, o, s, rfl, hb, e1, hs, c1⟩ := strs_el (HsC.out.grew stable_str Hg.out) hlt
      have E1 := Lib.hid e1
      clear e1
      cases hq : sq s f
      · have hq' := sq_raw hq
        have H := Lib.hid (show s ≠ f from fun h => by rw [h, sq_self] at hq; cases hq)
        clear hq
        go_wp2
        go_roundw
        case rel => exact ⟨k + 1, hlt, by go_num, fun j y hj hy => (by
          rcases Nat.lt_succ_iff_lt_or_eq.1 hj with h | h
          · exact Hall.out j y h hy
          · rw [h, E1.out] at hy; cases hy; exact H.out), Hg.out.trans (by (repeat (first | exact Grew.refl _ | refine Grew.over ?_ _ | refine Grew.alloc ?_ _ | refine Grew.drew ?_ | refine Grew.drewN ?_ _)))⟩
        case measure => simp [intOf]; omega
      · have hq' := sq_raw hq
        clear hq
        go_wp2_with (go_at_call 9; apply Calls.mono; (with_reducible exact awake_l _); rintro e w3 ⟨rfl, hg2⟩; have Hg3 := Lib.hid (Hgw.out.trans (Grew.trans (by (repeat (first | exact Grew.refl _ | refine Grew.over ?_ _ | refine Grew.alloc ?_ _ | refine Grew.drew ?_ | refine Grew.drewN ?_ _))) hg2)); clear hg2)
        go_ret
        exact ⟨rfl, Hg3.out⟩
    · have hno : f ∉ CS := fun hm => by
        obtain ⟨j, hj, e⟩ := List.getElem_of_mem hm
        exact Hall.out j _ (by omega) (List.getElem?_eq_getElem hj) e
      have Hno := Lib.hid hno
      have Ha2 := Lib.hid (Ha.out.grew Hg.out)
      obtain ⟨a0, a1, a2, a3⟩ := Ha2.out
      clear hno
      by_cases h0 : r = 0
      case neg =>
        have h0' : (r == 0) = false := beq_eq_false_iff_ne.2 h0
        have h0'' : (r != 0) = true := bne_iff_ne.2 h0
        go_wp2_with (first
          | (go_at_call 15; apply Calls.mono; (with_reducible exact renameN_e Hr.out HS2.out (Hgw.out.trans (by (repeat (first | exact Grew.refl _ | refine Grew.over ?_ _ | refine Grew.alloc ?_ _ | refine Grew.drew ?_ | refine Grew.drewN ?_ _)))) hn h1 h3 Htm.out); rintro e w3 ⟨⟨n3, d3, q3, m3, c3, rfl⟩, hg2⟩; have Hg3 := Lib.hid (Hgw.out.trans (Grew.trans (by (repeat (first | exact Grew.refl _ | refine Grew.over ?_ _ | refine Grew.alloc ?_ _ | refine Grew.drew ?_ | refine Grew.drewN ?_ _))) hg2)); clear hg2)
          | (go_at_call 9; apply Calls.mono; (with_reducible exact awake_l _); rintro e w4 ⟨rfl, hg2⟩; have Hg4 := Lib.hid (Hg3.out.trans (Grew.trans (by (repeat (first | exact Grew.refl _ | refine Grew.over ?_ _ | refine Grew.alloc ?_ _ | refine Grew.drew ?_ | refine Grew.drewN ?_ _))) hg2)); clear hg2))
        go_ret
        exact ⟨rfl, Hg4.out⟩
      subst h0
      obtain ⟨v1, v2, v3, v4, v5, v6⟩ := rn_facts Hr.out
      have hCe : clsL (pre l 0) = CS := by rw [← HCS.out]; exact (if_pos v1).symm
      obtain ⟨y1, y2, y3⟩ := rn_back Hr.out (by rw [hCe]; exact Hno.out)
      obtain ⟨Lu, hLu⟩ : ∃ L, renL f t l = L := ⟨_, rfl⟩
      rw [hLu] at y1 y2 y3
      have HLu := Lib.hid hLu
      have Hy1 := Lib.hid y1
      have Hy2 := Lib.hid y2
      have hun : Lu.length = n := by rw [← hLu, renL_len]; exact hn
      have hu1 : cntL Lu ≤ 600 := by rw [← hLu, cnt_ren]; exact h1
      have hu3 := Lib.hid (show smL Lu by rw [← hLu]; exact sm_ren f t l h3)
      have hu2 : depL Lu ≤ 20 := by rw [← hLu, dep_ren]; exact h2
      have Hye := Lib.hid (show tEq name dir Lu name dir l = false by unfold tEq; rw [lEq_n y3]; simp)
      have Hyc := Lib.hid (show cntL Lu = cntL l by rw [← hLu]; exact cnt_ren f t l)
      have Hym := Lib.hid (show mxL (pre Lu 0) = mxL (pre l 0) by rw [← hLu]; exact mx_at f t l)
      have Hyl := Lib.hid (show clustL name Lu = CS by rw [← hCe, ← hLu, ← cls_at f t l]; exact if_pos (vl_ren v3 v1))
      have Hyn := Lib.hid (show namesL name Lu = (nmsL (pre l 0)).map (gR f t) by rw [← hLu, ← nms_at v5]; exact if_pos (vl_ren v3 v1))
      have Hyt := Lib.hid (show namesL name l = nmsL (pre l 0) from if_pos v1)
      have Hft := Lib.hid (show f ≠ t from fun e => v5 (e ▸ v4))
      obtain ⟨NL, hNL⟩ : ∃ N, nmsL (pre l 0) = N := ⟨_, rfl⟩
      rw [hNL] at Hyn Hyt
      clear v1 v2 v3 v4 v5 v6 hCe y1 y2 y3 hLu hNL
      go_wp2_with (first
        | (go_at_call 15; apply Calls.mono; (with_reducible exact rename0_e Hr.out HLu.out HS2.out (Hgw.out.trans (by (repeat (first | exact Grew.refl _ | refine Grew.over ?_ _ | refine Grew.alloc ?_ _ | refine Grew.drew ?_ | refine Grew.drewN ?_ _)))) hn h1 h3 Htm.out); rintro e w3 ⟨⟨q3, c3, rfl, hs3⟩, hg2⟩; have Hs3 := Lib.hid hs3; have Hg3 := Lib.hid (Hgw.out.trans (Grew.trans (by (repeat (first | exact Grew.refl _ | refine Grew.over ?_ _ | refine Grew.alloc ?_ _ | refine Grew.drew ?_ | refine Grew.drewN ?_ _))) hg2)); have Ha3 := Lib.hid (Ha2.out.grew (Grew.trans (by (repeat (first | exact Grew.refl _ | refine Grew.over ?_ _ | refine Grew.alloc ?_ _ | refine Grew.drew ?_ | refine Grew.drewN ?_ _))) hg2)); obtain ⟨a0, a1, a2, a3⟩ := Ha3.out; clear hg2 hs3)
        | (go_at_call 15; apply Calls.mono; (with_reducible exact rename0_e Hy1.out Hy2.out Hs3.out (by (repeat (first | exact Grew.refl _ | refine Grew.over ?_ _ | refine Grew.alloc ?_ _ | refine Grew.drew ?_ | refine Grew.drewN ?_ _))) hun hu1 hu3.out Hfm.out); rintro e w4 ⟨⟨q4, c4, rfl, hs4⟩, hg2⟩; have Hs4 := Lib.hid hs4; have Hg34 := Lib.hid (show Grew w3 w4 from Grew.trans (by (repeat (first | exact Grew.refl _ | refine Grew.over ?_ _ | refine Grew.alloc ?_ _ | refine Grew.drew ?_ | refine Grew.drewN ?_ _))) hg2); have Hg4 := Lib.hid (Hg3.out.trans (Grew.trans (by (repeat (first | exact Grew.refl _ | refine Grew.over ?_ _ | refine Grew.alloc ?_ _ | refine Grew.drew ?_ | refine Grew.drewN ?_ _))) hg2)); have Ha4 := Lib.hid (Ha3.out.grew (Grew.trans (by (repeat (first | exact Grew.refl _ | refine Grew.over ?_ _ | refine Grew.alloc ?_ _ | refine Grew.drew ?_ | refine Grew.drewN ?_ _))) hg2)); obtain ⟨a0, a1, a2, a3⟩ := Ha4.out; have Hb4 := Lib.hid ((T3.box w3 (.string name) (.bool dir) (.slice q3 n c3) 24).grew hg2); obtain ⟨b0, b1, b2, b3⟩ := Hb4.out; clear hg2 hs4))
      obtain ⟨w5, hw5⟩ : ∃ w5, w4.alloc (.cells #[.string name, .bool dir, .slice q4 n c4] 24) = w5 := ⟨_, rfl⟩
      have Hc5 := Lib.hid (T3.box w4 (.string name) (.bool dir) (.slice q4 n c4) 24)
      have Hg45 := Lib.hid (show Grew w4 (w4.alloc (.cells #[.string name, .bool dir, .slice q4 n c4] 24)) by (repeat (first | exact Grew.refl _ | refine Grew.over ?_ _ | refine Grew.alloc ?_ _ | refine Grew.drew ?_ | refine Grew.drewN ?_ _)))
      rw [hw5] at Hc5 Hg45 ⊢
      have Ha5 := Lib.hid (Ha4.out.grew Hg45.out)
      have Hb5 := Lib.hid (Hb4.out.grew Hg45.out)
      have Hg5 := Lib.hid (Hg4.out.trans Hg45.out)
      have Hg35 := Lib.hid (Hg34.out.trans Hg45.out)
      have Hw5 := Lib.hid (Grew.refl w5)
      clear hw5 a0 a1 a2 a3 b0 b1 b2 b3
      obtain ⟨a0, a1, a2, a3⟩ := Ha5.out
      obtain ⟨b0, b1, b2, b3⟩ := Hb5.out
      obtain ⟨c0, c1, c2, c3'⟩ := Hc5.out
      refine wp_region_T (s := 35) (S := fun w' => (w'.cell? ⟨w.heap.size, 0, none⟩ = some (.string name) ∧ w'.cell? ⟨w.heap.size, 1, none⟩ = some (.bool dir) ∧ w'.cell? ⟨w.heap.size, 2, none⟩ = some (.slice p n cap)) ∧ (w'.cell? ⟨w3.heap.size, 0, none⟩ = some (.string name) ∧ w'.cell? ⟨w3.heap.size, 1, none⟩ = some (.bool dir) ∧ w'.cell? ⟨w3.heap.size, 2, none⟩ = some (.slice q3 n c3)) ∧ (w'.cell? ⟨w4.heap.size, 0, none⟩ = some (.string name) ∧ w'.cell? ⟨w4.heap.size, 1, none⟩ = some (.bool dir) ∧ w'.cell? ⟨w4.heap.size, 2, none⟩ = some (.slice q4 n c4))) (by kernel_rfl) ⟨⟨by simpa using a1, by simpa using a2, by simpa using a3⟩, ⟨by simpa using b1, by simpa using b2, by simpa using b3⟩, ⟨by simpa using c1, by simpa using c2, by simpa using c3'⟩⟩ (fun hH => ?_)
      refine wpAnyT_all (rs := [0]) (by kernel_rfl) (by simp) (AllT.consL (i := 0) rfl (fun K hK => ?_) AllT.nil)
      go_simp
      refine hK.out _ _ ?_ (fun hH => ?_)
      · (first | (simp [go_sem, ↓IntWalk.iteOmega, *]; done) | go_keep)
      clear hK K
      (try simp only [Act.put, List.setIfInBounds_toArray, List.set_cons_zero, List.set_cons_succ])
      refine wpAnyT_all (rs := [1]) (by kernel_rfl) (by simp) (AllT.consL (i := 1) rfl (fun K hK => ?_) AllT.nil)
      go_simp
      refine hK.out _ _ ?_ (fun hH => ?_)
      · (first | (simp [go_sem, ↓IntWalk.iteOmega, *]; done) | go_keep)
      clear hK K
      (try simp only [Act.put, List.setIfInBounds_toArray, List.set_cons_zero, List.set_cons_succ])
      refine wpAnyT_all (rs := [2]) (by kernel_rfl) (by simp) (AllT.consL (i := 2) rfl (fun K hK => ?_) AllT.nil)
      go_simp
      refine hK.out _ _ ?_ (fun hH => ?_)
      · (first | (simp [go_sem, ↓IntWalk.iteOmega, *]; done) | go_keep)
      clear hK K
      (try simp only [Act.put, List.setIfInBounds_toArray, List.set_cons_zero, List.set_cons_succ])
      refine wpAnyT_takeV (i := 3) (v := ?_) rfl (by kernel_rfl) (by kernel_rfl) (by kernel_rfl) (by decide) (fun _ _ _ h => h) (Or.inl ⟨by rfl, ?_⟩) (by assumption) ?_
      rotate_left
      · (intro w hSw; (try dsimp only at hSw); go_simp; (try with_reducible rfl))
      (try simp only [Act.put, List.setIfInBounds_toArray, List.set_cons_zero, List.set_cons_succ])
      refine wpAnyT_takeV (i := 4) (v := ?_) rfl (by kernel_rfl) (by kernel_rfl) (by kernel_rfl) (by decide) (fun _ _ _ h => h) (Or.inl ⟨by rfl, ?_⟩) (by assumption) ?_
      rotate_left
      · (intro w hSw; (try dsimp only at hSw); go_simp; (try with_reducible rfl))
      (try simp only [Act.put, List.setIfInBounds_toArray, List.set_cons_zero, List.set_cons_succ])
      refine wpAnyT_all (rs := [5]) (by kernel_rfl) (by simp) (AllT.consL (i := 5) rfl (fun K hK => ?_) AllT.nil)
      go_simp; go_wp2_with (go_at_call 24; apply Calls.mono; (with_reducible exact Equalp_2 (tEq_self name dir l) Hs4.out HS2.out (Hg45.out.trans (Hw5.out.trans (by (repeat (first | exact Grew.refl _ | refine Grew.over ?_ _ | refine Grew.alloc ?_ _ | refine Grew.drew ?_ | refine Grew.drewN ?_ _))))) (Hg5.out.trans (by (repeat (first | exact Grew.refl _ | refine Grew.over ?_ _ | refine Grew.alloc ?_ _ | refine Grew.drew ?_ | refine Grew.drewN ?_ _)))) hn hn); rintro e w6 ⟨rfl, hg2⟩; have Hg5 := Lib.hid (Hg5.out.trans (Grew.trans (by (repeat (first | exact Grew.refl _ | refine Grew.over ?_ _ | refine Grew.alloc ?_ _ | refine Grew.drew ?_ | refine Grew.drewN ?_ _))) hg2)); have Hw5 := Lib.hid (Hw5.out.trans (Grew.trans (by (repeat (first | exact Grew.refl _ | refine Grew.over ?_ _ | refine Grew.alloc ?_ _ | refine Grew.drew ?_ | refine Grew.drewN ?_ _))) hg2)); have Ha5 := Lib.hid (Ha5.out.grew (Grew.trans (by (repeat (first | exact Grew.refl _ | refine Grew.over ?_ _ | refine Grew.alloc ?_ _ | refine Grew.drew ?_ | refine Grew.drewN ?_ _))) hg2)); have Hb5 := Lib.hid (Hb5.out.grew (Grew.trans (by (repeat (first | exact Grew.refl _ | refine Grew.over ?_ _ | refine Grew.alloc ?_ _ | refine Grew.drew ?_ | refine Grew.drewN ?_ _))) hg2)); have Hc5 := Lib.hid (Hc5.out.grew (Grew.trans (by (repeat (first | exact Grew.refl _ | refine Grew.over ?_ _ | refine Grew.alloc ?_ _ | refine Grew.drew ?_ | refine Grew.drewN ?_ _))) hg2)); obtain ⟨a0, a1, a2, a3⟩ := Ha5.out; obtain ⟨b0, b1, b2, b3⟩ := Hb5.out; obtain ⟨c0, c1, c2, c3'⟩ := Hc5.out; clear hg2)
      refine hK.out _ _ ?_ (fun hH => ?_)
      · (first | (simp [go_sem, ↓IntWalk.iteOmega, *]; done) | go_keep)
      clear hK K
      (try simp only [Act.put, List.setIfInBounds_toArray, List.set_cons_zero, List.set_cons_succ])
      refine wpAnyT_all (rs := [6]) (by kernel_rfl) (by simp) (AllT.consL (i := 6) rfl (fun K hK => ?_) AllT.nil)
      go_simp
      refine hK.out _ _ ?_ (fun hH => ?_)
      · (first | (simp [go_sem, ↓IntWalk.iteOmega, *]; done) | go_keep)
      clear hK K
      (try simp only [Act.put, List.setIfInBounds_toArray, List.set_cons_zero, List.set_cons_succ])
      refine wpAnyT_all (rs := [7]) (by kernel_rfl) (by simp) (AllT.consL (i := 7) rfl (fun K hK => ?_) AllT.nil)
      go_simp
      refine hK.out _ _ ?_ (fun hH => ?_)
      · (first | (simp [go_sem, ↓IntWalk.iteOmega, *]; done) | go_keep)
      clear hK K
      (try simp only [Act.put, List.setIfInBounds_toArray, List.set_cons_zero, List.set_cons_succ])
      refine wpAnyT_all (rs := [8]) (by kernel_rfl) (by simp) (AllT.consL (i := 8) rfl (fun K hK => ?_) AllT.nil)
      go_simp
      refine hK.out _ _ ?_ (fun hH => ?_)
      · (first | (simp [go_sem, ↓IntWalk.iteOmega, *]; done) | go_keep)
      clear hK K
      (try simp only [Act.put, List.setIfInBounds_toArray, List.set_cons_zero, List.set_cons_succ])
      refine wpAnyT_takeV (i := 9) (v := ?_) rfl (by kernel_rfl) (by kernel_rfl) (by kernel_rfl) (by decide) (fun _ _ _ h => h) (Or.inl ⟨by rfl, ?_⟩) (by assumption) ?_
      rotate_left
      · (intro w hSw; (try dsimp only at hSw); go_simp; (try with_reducible rfl))
      (try simp only [Act.put, List.setIfInBounds_toArray, List.set_cons_zero, List.set_cons_succ])
      refine wpAnyT_takeV (i := 10) (v := ?_) rfl (by kernel_rfl) (by kernel_rfl) (by kernel_rfl) (by decide) (fun _ _ _ h => h) (Or.inl ⟨by rfl, ?_⟩) (by assumption) ?_
      rotate_left
      · (intro w hSw; (try dsimp only at hSw); go_simp; (try with_reducible rfl))
      (try simp only [Act.put, List.setIfInBounds_toArray, List.set_cons_zero, List.set_cons_succ])
      refine wpAnyT_all (rs := [11]) (by kernel_rfl) (by simp) (AllT.consL (i := 11) rfl (fun K hK => ?_) AllT.nil)
      go_simp; go_wp2_with (go_at_call 24; apply Calls.mono; (with_reducible exact Equalp_2 Hye.out Hs3.out HS2.out (Hg35.out.trans (Hw5.out.trans (by (repeat (first | exact Grew.refl _ | refine Grew.over ?_ _ | refine Grew.alloc ?_ _ | refine Grew.drew ?_ | refine Grew.drewN ?_ _))))) (Hg5.out.trans (by (repeat (first | exact Grew.refl _ | refine Grew.over ?_ _ | refine Grew.alloc ?_ _ | refine Grew.drew ?_ | refine Grew.drewN ?_ _)))) hun hn); rintro e w6 ⟨rfl, hg2⟩; have Hg5 := Lib.hid (Hg5.out.trans (Grew.trans (by (repeat (first | exact Grew.refl _ | refine Grew.over ?_ _ | refine Grew.alloc ?_ _ | refine Grew.drew ?_ | refine Grew.drewN ?_ _))) hg2)); have Hw5 := Lib.hid (Hw5.out.trans (Grew.trans (by (repeat (first | exact Grew.refl _ | refine Grew.over ?_ _ | refine Grew.alloc ?_ _ | refine Grew.drew ?_ | refine Grew.drewN ?_ _))) hg2)); have Ha5 := Lib.hid (Ha5.out.grew (Grew.trans (by (repeat (first | exact Grew.refl _ | refine Grew.over ?_ _ | refine Grew.alloc ?_ _ | refine Grew.drew ?_ | refine Grew.drewN ?_ _))) hg2)); have Hb5 := Lib.hid (Hb5.out.grew (Grew.trans (by (repeat (first | exact Grew.refl _ | refine Grew.over ?_ _ | refine Grew.alloc ?_ _ | refine Grew.drew ?_ | refine Grew.drewN ?_ _))) hg2)); have Hc5 := Lib.hid (Hc5.out.grew (Grew.trans (by (repeat (first | exact Grew.refl _ | refine Grew.over ?_ _ | refine Grew.alloc ?_ _ | refine Grew.drew ?_ | refine Grew.drewN ?_ _))) hg2)); obtain ⟨a0, a1, a2, a3⟩ := Ha5.out; obtain ⟨b0, b1, b2, b3⟩ := Hb5.out; obtain ⟨c0, c1, c2, c3'⟩ := Hc5.out; clear hg2)
      refine hK.out _ _ ?_ (fun hH => ?_)
      · (first | (simp [go_sem, ↓IntWalk.iteOmega, *]; done) | go_keep)
      clear hK K
      (try simp only [Act.put, List.setIfInBounds_toArray, List.set_cons_zero, List.set_cons_succ])
      refine wpAnyT_all (rs := [12]) (by kernel_rfl) (by simp) (AllT.consL (i := 12) rfl (fun K hK => ?_) AllT.nil)
      go_simp
      refine hK.out _ _ ?_ (fun hH => ?_)
      · (first | (simp [go_sem, ↓IntWalk.iteOmega, *]; done) | go_keep)
      clear hK K
      (try simp only [Act.put, List.setIfInBounds_toArray, List.set_cons_zero, List.set_cons_succ])
      refine wpAnyT_all (rs := [13]) (by kernel_rfl) (by simp) (AllT.consL (i := 13) rfl (fun K hK => ?_) AllT.nil)
      go_simp
      refine hK.out _ _ ?_ (fun hH => ?_)
      · (first | (simp [go_sem, ↓IntWalk.iteOmega, *]; done) | go_keep)
      clear hK K
      (try simp only [Act.put, List.setIfInBounds_toArray, List.set_cons_zero, List.set_cons_succ])
      refine wpAnyT_takeV (i := 14) (v := ?_) rfl (by kernel_rfl) (by kernel_rfl) (by kernel_rfl) (by decide) (fun _ _ _ h => h) (Or.inl ⟨by rfl, ?_⟩) (by assumption) ?_
      rotate_left
      · (intro w hSw; (try dsimp only at hSw); go_simp; (try with_reducible rfl))
      (try simp only [Act.put, List.setIfInBounds_toArray, List.set_cons_zero, List.set_cons_succ])
      refine wpAnyT_takeV (i := 16) (v := ?_) rfl (by kernel_rfl) (by kernel_rfl) (by kernel_rfl) (by decide) (fun _ _ _ h => h) (Or.inl ⟨by rfl, ?_⟩) (by assumption) ?_
      rotate_left
      · (intro w hSw; (try dsimp only at hSw); go_simp; (try with_reducible rfl))
      (try simp only [Act.put, List.setIfInBounds_toArray, List.set_cons_zero, List.set_cons_succ])
      refine wpAnyT_all (rs := [15]) (by kernel_rfl) (by simp) (AllT.consL (i := 15) rfl (fun K hK => ?_) AllT.nil)
      go_simp; go_wp2_with (go_at_call 20; apply Calls.mono; (with_reducible exact countk_e Hyc.out Hs3.out (Hg35.out.trans (Hw5.out.trans (by (repeat (first | exact Grew.refl _ | refine Grew.over ?_ _ | refine Grew.alloc ?_ _ | refine Grew.drew ?_ | refine Grew.drewN ?_ _))))) hun hu1); rintro e w6 ⟨rfl, hg2⟩; have Hg5 := Lib.hid (Hg5.out.trans (Grew.trans (by (repeat (first | exact Grew.refl _ | refine Grew.over ?_ _ | refine Grew.alloc ?_ _ | refine Grew.drew ?_ | refine Grew.drewN ?_ _))) hg2)); have Hw5 := Lib.hid (Hw5.out.trans (Grew.trans (by (repeat (first | exact Grew.refl _ | refine Grew.over ?_ _ | refine Grew.alloc ?_ _ | refine Grew.drew ?_ | refine Grew.drewN ?_ _))) hg2)); have Ha5 := Lib.hid (Ha5.out.grew (Grew.trans (by (repeat (first | exact Grew.refl _ | refine Grew.over ?_ _ | refine Grew.alloc ?_ _ | refine Grew.drew ?_ | refine Grew.drewN ?_ _))) hg2)); have Hb5 := Lib.hid (Hb5.out.grew (Grew.trans (by (repeat (first | exact Grew.refl _ | refine Grew.over ?_ _ | refine Grew.alloc ?_ _ | refine Grew.drew ?_ | refine Grew.drewN ?_ _))) hg2)); have Hc5 := Lib.hid (Hc5.out.grew (Grew.trans (by (repeat (first | exact Grew.refl _ | refine Grew.over ?_ _ | refine Grew.alloc ?_ _ | refine Grew.drew ?_ | refine Grew.drewN ?_ _))) hg2)); obtain ⟨a0, a1, a2, a3⟩ := Ha5.out; obtain ⟨b0, b1, b2, b3⟩ := Hb5.out; obtain ⟨c0, c1, c2, c3'⟩ := Hc5.out; clear hg2)
      refine hK.out _ _ ?_ (fun hH => ?_)
      · (first | (simp [go_sem, ↓IntWalk.iteOmega, *]; done) | go_keep)
      clear hK K
      (try simp only [Act.put, List.setIfInBounds_toArray, List.set_cons_zero, List.set_cons_succ])
      refine wpAnyT_all (rs := [17]) (by kernel_rfl) (by simp) (AllT.consL (i := 17) rfl (fun K hK => ?_) AllT.nil)
      go_simp; go_wp2_with (go_at_call 20; apply Calls.mono; (with_reducible exact countp_e HS2.out (Hg5.out.trans (by (repeat (first | exact Grew.refl _ | refine Grew.over ?_ _ | refine Grew.alloc ?_ _ | refine Grew.drew ?_ | refine Grew.drewN ?_ _)))) hn h1); rintro e w6 ⟨rfl, hg2⟩; have Hg5 := Lib.hid (Hg5.out.trans (Grew.trans (by (repeat (first | exact Grew.refl _ | refine Grew.over ?_ _ | refine Grew.alloc ?_ _ | refine Grew.drew ?_ | refine Grew.drewN ?_ _))) hg2)); have Hw5 := Lib.hid (Hw5.out.trans (Grew.trans (by (repeat (first | exact Grew.refl _ | refine Grew.over ?_ _ | refine Grew.alloc ?_ _ | refine Grew.drew ?_ | refine Grew.drewN ?_ _))) hg2)); have Ha5 := Lib.hid (Ha5.out.grew (Grew.trans (by (repeat (first | exact Grew.refl _ | refine Grew.over ?_ _ | refine Grew.alloc ?_ _ | refine Grew.drew ?_ | refine Grew.drewN ?_ _))) hg2)); have Hb5 := Lib.hid (Hb5.out.grew (Grew.trans (by (repeat (first | exact Grew.refl _ | refine Grew.over ?_ _ | refine Grew.alloc ?_ _ | refine Grew.drew ?_ | refine Grew.drewN ?_ _))) hg2)); have Hc5 := Lib.hid (Hc5.out.grew (Grew.trans (by (repeat (first | exact Grew.refl _ | refine Grew.over ?_ _ | refine Grew.alloc ?_ _ | refine Grew.drew ?_ | refine Grew.drewN ?_ _))) hg2)); obtain ⟨a0, a1, a2, a3⟩ := Ha5.out; obtain ⟨b0, b1, b2, b3⟩ := Hb5.out; obtain ⟨c0, c1, c2, c3'⟩ := Hc5.out; clear hg2)
      refine hK.out _ _ ?_ (fun hH => ?_)
      · (first | (simp [go_sem, ↓IntWalk.iteOmega, *]; done) | go_keep)
      clear hK K
      (try simp only [Act.put, List.setIfInBounds_toArray, List.set_cons_zero, List.set_cons_succ])
      refine wpAnyT_all (rs := [18]) (by kernel_rfl) (by simp) (AllT.consL (i := 18) rfl (fun K hK => ?_) AllT.nil)
      go_simp
      refine hK.out _ _ ?_ (fun hH => ?_)
      · (first | (simp [go_sem, ↓IntWalk.iteOmega, *]; done) | go_keep)
      clear hK K
      (try simp only [Act.put, List.setIfInBounds_toArray, List.set_cons_zero, List.set_cons_succ])
      refine wpAnyT_all (rs := [19]) (by kernel_rfl) (by simp) (AllT.consL (i := 19) rfl (fun K hK => ?_) AllT.nil)
      go_simp
      refine hK.out _ _ ?_ (fun hH => ?_)
      · (first | (simp [go_sem, ↓IntWalk.iteOmega, *]; done) | go_keep)
      clear hK K
      (try simp only [Act.put, List.setIfInBounds_toArray, List.set_cons_zero, List.set_cons_succ])
      refine wpAnyT_all (rs := [20]) (by kernel_rfl) (by simp) (AllT.consL (i := 20) rfl (fun K hK => ?_) AllT.nil)
      go_simp
      refine hK.out _ _ ?_ (fun hH => ?_)
      · (first | (simp [go_sem, ↓IntWalk.iteOmega, *]; done) | go_keep)
      clear hK K
      (try simp only [Act.put, List.setIfInBounds_toArray, List.set_cons_zero, List.set_cons_succ])
      refine wpAnyT_takeV (i := 21) (v := ?_) rfl (by kernel_rfl) (by kernel_rfl) (by kernel_rfl) (by decide) (fun _ _ _ h => h) (Or.inl ⟨by rfl, ?_⟩) (by assumption) ?_
      rotate_left
      · (intro w hSw; (try dsimp only at hSw); go_simp; (try with_reducible rfl))
      (try simp only [Act.put, List.setIfInBounds_toArray, List.set_cons_zero, List.set_cons_succ])
      refine wpAnyT_takeV (i := 23) (v := ?_) rfl (by kernel_rfl) (by kernel_rfl) (by kernel_rfl) (by decide) (fun _ _ _ h => h) (Or.inl ⟨by rfl, ?_⟩) (by assumption) ?_
      rotate_left
      · (intro w hSw; (try dsimp only at hSw); go_simp; (try with_reducible rfl))
      (try simp only [Act.put, List.setIfInBounds_toArray, List.set_cons_zero, List.set_cons_succ])
      refine wpAnyT_all (rs := [22]) (by kernel_rfl) (by simp) (AllT.consL (i := 22) rfl (fun K hK => ?_) AllT.nil)
      go_simp; go_wp2_with (go_at_call 19; apply Calls.mono; (with_reducible exact depthp_e Hym.out Hs3.out (Hg35.out.trans (Hw5.out.trans (by (repeat (first | exact Grew.refl _ | refine Grew.over ?_ _ | refine Grew.alloc ?_ _ | refine Grew.drew ?_ | refine Grew.drewN ?_ _))))) hun hu2); rintro e w6 ⟨rfl, hg2⟩; have Hg5 := Lib.hid (Hg5.out.trans (Grew.trans (by (repeat (first | exact Grew.refl _ | refine Grew.over ?_ _ | refine Grew.alloc ?_ _ | refine Grew.drew ?_ | refine Grew.drewN ?_ _))) hg2)); have Hw5 := Lib.hid (Hw5.out.trans (Grew.trans (by (repeat (first | exact Grew.refl _ | refine Grew.over ?_ _ | refine Grew.alloc ?_ _ | refine Grew.drew ?_ | refine Grew.drewN ?_ _))) hg2)); have Ha5 := Lib.hid (Ha5.out.grew (Grew.trans (by (repeat (first | exact Grew.refl _ | refine Grew.over ?_ _ | refine Grew.alloc ?_ _ | refine Grew.drew ?_ | refine Grew.drewN ?_ _))) hg2)); have Hb5 := Lib.hid (Hb5.out.grew (Grew.trans (by (repeat (first | exact Grew.refl _ | refine Grew.over ?_ _ | refine Grew.alloc ?_ _ | refine Grew.drew ?_ | refine Grew.drewN ?_ _))) hg2)); have Hc5 := Lib.hid (Hc5.out.grew (Grew.trans (by (repeat (first | exact Grew.refl _ | refine Grew.over ?_ _ | refine Grew.alloc ?_ _ | refine Grew.drew ?_ | refine Grew.drewN ?_ _))) hg2)); obtain ⟨a0, a1, a2, a3⟩ := Ha5.out; obtain ⟨b0, b1, b2, b3⟩ := Hb5.out; obtain ⟨c0, c1, c2, c3'⟩ := Hc5.out; clear hg2)
      refine hK.out _ _ ?_ (fun hH => ?_)
      · (first | (simp [go_sem, ↓IntWalk.iteOmega, *]; done) | go_keep)
      clear hK K
      (try simp only [Act.put, List.setIfInBounds_toArray, List.set_cons_zero, List.set_cons_succ])
      refine wpAnyT_all (rs := [24]) (by kernel_rfl) (by simp) (AllT.consL (i := 24) rfl (fun K hK => ?_) AllT.nil)
      go_simp; go_wp2_with (go_at_call 19; apply Calls.mono; (with_reducible exact depthp_e rfl HS2.out (Hg5.out.trans (by (repeat (first | exact Grew.refl _ | refine Grew.over ?_ _ | refine Grew.alloc ?_ _ | refine Grew.drew ?_ | refine Grew.drewN ?_ _)))) hn h2); rintro e w6 ⟨rfl, hg2⟩; have Hg5 := Lib.hid (Hg5.out.trans (Grew.trans (by (repeat (first | exact Grew.refl _ | refine Grew.over ?_ _ | refine Grew.alloc ?_ _ | refine Grew.drew ?_ | refine Grew.drewN ?_ _))) hg2)); have Hw5 := Lib.hid (Hw5.out.trans (Grew.trans (by (repeat (first | exact Grew.refl _ | refine Grew.over ?_ _ | refine Grew.alloc ?_ _ | refine Grew.drew ?_ | refine Grew.drewN ?_ _))) hg2)); have Ha5 := Lib.hid (Ha5.out.grew (Grew.trans (by (repeat (first | exact Grew.refl _ | refine Grew.over ?_ _ | refine Grew.alloc ?_ _ | refine Grew.drew ?_ | refine Grew.drewN ?_ _))) hg2)); have Hb5 := Lib.hid (Hb5.out.grew (Grew.trans (by (repeat (first | exact Grew.refl _ | refine Grew.over ?_ _ | refine Grew.alloc ?_ _ | refine Grew.drew ?_ | refine Grew.drewN ?_ _))) hg2)); have Hc5 := Lib.hid (Hc5.out.grew (Grew.trans (by (repeat (first | exact Grew.refl _ | refine Grew.over ?_ _ | refine Grew.alloc ?_ _ | refine Grew.drew ?_ | refine Grew.drewN ?_ _))) hg2)); obtain ⟨a0, a1, a2, a3⟩ := Ha5.out; obtain ⟨b0, b1, b2, b3⟩ := Hb5.out; obtain ⟨c0, c1, c2, c3'⟩ := Hc5.out; clear hg2)
      refine hK.out _ _ ?_ (fun hH => ?_)
      · (first | (simp [go_sem, ↓IntWalk.iteOmega, *]; done) | go_keep)
      clear hK K
      (try simp only [Act.put, List.setIfInBounds_toArray, List.set_cons_zero, List.set_cons_succ])
      refine wpAnyT_all (rs := [25]) (by kernel_rfl) (by simp) (AllT.consL (i := 25) rfl (fun K hK => ?_) AllT.nil)
      go_simp
      refine hK.out _ _ ?_ (fun hH => ?_)
      · (first | (simp [go_sem, ↓IntWalk.iteOmega, *]; done) | go_keep)
      clear hK K
      (try simp only [Act.put, List.setIfInBounds_toArray, List.set_cons_zero, List.set_cons_succ])
      refine wpAnyT_all (rs := [26]) (by kernel_rfl) (by simp) (AllT.consL (i := 26) rfl (fun K hK => ?_) AllT.nil)
      go_simp
      refine hK.out _ _ ?_ (fun hH => ?_)
      · (first | (simp [go_sem, ↓IntWalk.iteOmega, *]; done) | go_keep)
      clear hK K
      (try simp only [Act.put, List.setIfInBounds_toArray, List.set_cons_zero, List.set_cons_succ])
      refine wpAnyT_all (rs := [27]) (by kernel_rfl) (by simp) (AllT.consL (i := 27) rfl (fun K hK => ?_) AllT.nil)
      go_simp
      refine hK.out _ _ ?_ (fun hH => ?_)
      · (first | (simp [go_sem, ↓IntWalk.iteOmega, *]; done) | go_keep)
      clear hK K
      (try simp only [Act.put, List.setIfInBounds_toArray, List.set_cons_zero, List.set_cons_succ])
      refine wpAnyT_takeV (i := 28) (v := ?_) rfl (by kernel_rfl) (by kernel_rfl) (by kernel_rfl) (by decide) (fun _ _ _ h => h) (Or.inl ⟨by rfl, ?_⟩) (by assumption) ?_
      rotate_left
      · (intro w hSw; (try dsimp only at hSw); go_simp; (try with_reducible rfl))
      (try simp only [Act.put, List.setIfInBounds_toArray, List.set_cons_zero, List.set_cons_succ])
      refine wpAnyT_takeV (i := 30) (v := ?_) rfl (by kernel_rfl) (by kernel_rfl) (by kernel_rfl) (by decide) (fun _ _ _ h => h) (Or.inl ⟨by rfl, ?_⟩) (by assumption) ?_
      rotate_left
      · (intro w hSw; (try dsimp only at hSw); go_simp; (try with_reducible rfl))
      (try simp only [Act.put, List.setIfInBounds_toArray, List.set_cons_zero, List.set_cons_succ])
      refine wpAnyT_all (rs := [29]) (by kernel_rfl) (by simp) (AllT.consL (i := 29) rfl (fun K hK => ?_) AllT.nil)
      go_simp; go_wp2_with (go_at_call 13; apply Calls.mono; (with_reducible exact clustp_e Hyl.out Hs3.out (Hg35.out.trans (Hw5.out.trans (by (repeat (first | exact Grew.refl _ | refine Grew.over ?_ _ | refine Grew.alloc ?_ _ | refine Grew.drew ?_ | refine Grew.drewN ?_ _))))) hun hu1); rintro e w6 ⟨⟨q6, c6, rfl, hs6⟩, hg2⟩; have Hs6 := Lib.hid hs6; have Hg5 := Lib.hid (Hg5.out.trans (Grew.trans (by (repeat (first | exact Grew.refl _ | refine Grew.over ?_ _ | refine Grew.alloc ?_ _ | refine Grew.drew ?_ | refine Grew.drewN ?_ _))) hg2)); have Hw5 := Lib.hid (Hw5.out.trans (Grew.trans (by (repeat (first | exact Grew.refl _ | refine Grew.over ?_ _ | refine Grew.alloc ?_ _ | refine Grew.drew ?_ | refine Grew.drewN ?_ _))) hg2)); have Ha5 := Lib.hid (Ha5.out.grew (Grew.trans (by (repeat (first | exact Grew.refl _ | refine Grew.over ?_ _ | refine Grew.alloc ?_ _ | refine Grew.drew ?_ | refine Grew.drewN ?_ _))) hg2)); have Hb5 := Lib.hid (Hb5.out.grew (Grew.trans (by (repeat (first | exact Grew.refl _ | refine Grew.over ?_ _ | refine Grew.alloc ?_ _ | refine Grew.drew ?_ | refine Grew.drewN ?_ _))) hg2)); have Hc5 := Lib.hid (Hc5.out.grew (Grew.trans (by (repeat (first | exact Grew.refl _ | refine Grew.over ?_ _ | refine Grew.alloc ?_ _ | refine Grew.drew ?_ | refine Grew.drewN ?_ _))) hg2)); obtain ⟨a0, a1, a2, a3⟩ := Ha5.out; obtain ⟨b0, b1, b2, b3⟩ := Hb5.out; obtain ⟨c0, c1, c2, c3'⟩ := Hc5.out; clear hg2)
      refine hK.out _ _ ?_ (fun hH => ?_)
      · (first | (simp [go_sem, ↓IntWalk.iteOmega, *]; done) | go_keep)
      clear hK K
      (try simp only [Act.put, List.setIfInBounds_toArray, List.set_cons_zero, List.set_cons_succ])
      refine wpAnyT_all (rs := [31]) (by kernel_rfl) (by simp) (AllT.consL (i := 31) rfl (fun K hK => ?_) AllT.nil)
      go_simp; go_wp2_with (go_at_call 13; apply Calls.mono; (with_reducible exact clustp_e HCS.out HS2.out (Hg5.out.trans (by (repeat (first | exact Grew.refl _ | refine Grew.over ?_ _ | refine Grew.alloc ?_ _ | refine Grew.drew ?_ | refine Grew.drewN ?_ _)))) hn h1); rintro e w7 ⟨⟨q7, c7, rfl, hs7⟩, hg2⟩; have Hs7 := Lib.hid hs7; have Hs6 := Lib.hid (Hs6.out.grew stable_str (Grew.trans (by (repeat (first | exact Grew.refl _ | refine Grew.over ?_ _ | refine Grew.alloc ?_ _ | refine Grew.drew ?_ | refine Grew.drewN ?_ _))) hg2)); have Hg5 := Lib.hid (Hg5.out.trans (Grew.trans (by (repeat (first | exact Grew.refl _ | refine Grew.over ?_ _ | refine Grew.alloc ?_ _ | refine Grew.drew ?_ | refine Grew.drewN ?_ _))) hg2)); have Hw5 := Lib.hid (Hw5.out.trans (Grew.trans (by (repeat (first | exact Grew.refl _ | refine Grew.over ?_ _ | refine Grew.alloc ?_ _ | refine Grew.drew ?_ | refine Grew.drewN ?_ _))) hg2)); have Ha5 := Lib.hid (Ha5.out.grew (Grew.trans (by (repeat (first | exact Grew.refl _ | refine Grew.over ?_ _ | refine Grew.alloc ?_ _ | refine Grew.drew ?_ | refine Grew.drewN ?_ _))) hg2)); have Hb5 := Lib.hid (Hb5.out.grew (Grew.trans (by (repeat (first | exact Grew.refl _ | refine Grew.over ?_ _ | refine Grew.alloc ?_ _ | refine Grew.drew ?_ | refine Grew.drewN ?_ _))) hg2)); have Hc5 := Lib.hid (Hc5.out.grew (Grew.trans (by (repeat (first | exact Grew.refl _ | refine Grew.over ?_ _ | refine Grew.alloc ?_ _ | refine Grew.drew ?_ | refine Grew.drewN ?_ _))) hg2)); obtain ⟨a0, a1, a2, a3⟩ := Ha5.out; obtain ⟨b0, b1, b2, b3⟩ := Hb5.out; obtain ⟨c0, c1, c2, c3'⟩ := Hc5.out; clear hg2)
      refine hK.out _ _ ?_ (fun hH => ?_)
      · (first | (simp [go_sem, ↓IntWalk.iteOmega, *]; done) | go_keep)
      clear hK K
      (try simp only [Act.put, List.setIfInBounds_toArray, List.set_cons_zero, List.set_cons_succ])
      refine wpAnyT_all (rs := [32]) (by kernel_rfl) (by simp) (AllT.consL (i := 32) rfl (fun K hK => ?_) AllT.nil)
      go_simp; go_wp2_with (go_at_call 10; apply Calls.mono; (with_reducible exact same_yy (Hs6.out.grew stable_str (by (repeat (first | exact Grew.refl _ | refine Grew.over ?_ _ | refine Grew.alloc ?_ _ | refine Grew.drew ?_ | refine Grew.drewN ?_ _)))) (Hs7.out.grew stable_str (by (repeat (first | exact Grew.refl _ | refine Grew.over ?_ _ | refine Grew.alloc ?_ _ | refine Grew.drew ?_ | refine Grew.drewN ?_ _))))); rintro e w6 ⟨rfl, hg2⟩; have Hg5 := Lib.hid (Hg5.out.trans (Grew.trans (by (repeat (first | exact Grew.refl _ | refine Grew.over ?_ _ | refine Grew.alloc ?_ _ | refine Grew.drew ?_ | refine Grew.drewN ?_ _))) hg2)); have Hw5 := Lib.hid (Hw5.out.trans (Grew.trans (by (repeat (first | exact Grew.refl _ | refine Grew.over ?_ _ | refine Grew.alloc ?_ _ | refine Grew.drew ?_ | refine Grew.drewN ?_ _))) hg2)); have Ha5 := Lib.hid (Ha5.out.grew (Grew.trans (by (repeat (first | exact Grew.refl _ | refine Grew.over ?_ _ | refine Grew.alloc ?_ _ | refine Grew.drew ?_ | refine Grew.drewN ?_ _))) hg2)); have Hb5 := Lib.hid (Hb5.out.grew (Grew.trans (by (repeat (first | exact Grew.refl _ | refine Grew.over ?_ _ | refine Grew.alloc ?_ _ | refine Grew.drew ?_ | refine Grew.drewN ?_ _))) hg2)); have Hc5 := Lib.hid (Hc5.out.grew (Grew.trans (by (repeat (first | exact Grew.refl _ | refine Grew.over ?_ _ | refine Grew.alloc ?_ _ | refine Grew.drew ?_ | refine Grew.drewN ?_ _))) hg2)); obtain ⟨a0, a1, a2, a3⟩ := Ha5.out; obtain ⟨b0, b1, b2, b3⟩ := Hb5.out; obtain ⟨c0, c1, c2, c3'⟩ := Hc5.out; clear hg2)
      refine hK.out _ _ ?_ (fun hH => ?_)
      · (first | (simp [go_sem, ↓IntWalk.iteOmega, *]; done) | go_keep)
      clear hK K
      (try simp only [Act.put, List.setIfInBounds_toArray, List.set_cons_zero, List.set_cons_succ])
      refine wpAnyT_all (rs := [33]) (by kernel_rfl) (by simp) (AllT.consL (i := 33) rfl (fun K hK => ?_) AllT.nil)
      go_simp
      refine hK.out _ _ ?_ (fun hH => ?_)
      · (first | (simp [go_sem, ↓IntWalk.iteOmega, *]; done) | go_keep)
      clear hK K
      (try simp only [Act.put, List.setIfInBounds_toArray, List.set_cons_zero, List.set_cons_succ])
      refine wpAnyT_all (rs := [34]) (by kernel_rfl) (by simp) (AllT.consL (i := 34) rfl (fun K hK => ?_) AllT.nil)
      go_simp
      refine hK.out _ _ ?_ (fun hH => ?_)
      · (first | (simp [go_sem, ↓IntWalk.iteOmega, *]; done) | go_keep)
      clear hK K
      (try simp only [Act.put, List.setIfInBounds_toArray, List.set_cons_zero, List.set_cons_succ])
      refine wpAnyT_done (by kernel_rfl) ?_ _
      go_wp2
      refine wp_region_T (s := 6) (S := fun w' => (w'.cell? ⟨w.heap.size, 0, none⟩ = some (.string name) ∧ w'.cell? ⟨w.heap.size, 1, none⟩ = some (.bool dir) ∧ w'.cell? ⟨w.heap.size, 2, none⟩ = some (.slice p n cap)) ∧ (w'.cell? ⟨w3.heap.size, 0, none⟩ = some (.string name) ∧ w'.cell? ⟨w3.heap.size, 1, none⟩ = some (.bool dir) ∧ w'.cell? ⟨w3.heap.size, 2, none⟩ = some (.slice q3 n c3))) (by kernel_rfl) ⟨⟨by simpa using a1, by simpa using a2, by simpa using a3⟩, ⟨by simpa using b1, by simpa using b2, by simpa using b3⟩⟩ (fun hH => ?_)
      refine wpAnyT_takeV (i := 0) (v := ?_) rfl (by kernel_rfl) (by kernel_rfl) (by kernel_rfl) (by decide) (fun _ _ _ h => h) (Or.inl ⟨by rfl, ?_⟩) (by assumption) ?_
      rotate_left
      · (intro w hSw; (try dsimp only at hSw); go_simp; (try with_reducible rfl))
      (try simp only [Act.put, List.setIfInBounds_toArray, List.set_cons_zero, List.set_cons_succ])
      refine wpAnyT_takeV (i := 2) (v := ?_) rfl (by kernel_rfl) (by kernel_rfl) (by kernel_rfl) (by decide) (fun _ _ _ h => h) (Or.inl ⟨by rfl, ?_⟩) (by assumption) ?_
      rotate_left
      · (intro w hSw; (try dsimp only at hSw); go_simp; (try with_reducible rfl))
      (try simp only [Act.put, List.setIfInBounds_toArray, List.set_cons_zero, List.set_cons_succ])
      refine wpAnyT_all (rs := [1]) (by kernel_rfl) (by simp) (AllT.consL (i := 1) rfl (fun K hK => ?_) AllT.nil)
      go_simp; go_wp2_with (go_at_call 11; apply Calls.mono; (with_reducible exact namesp_e Hyt.out HS2.out (Hg5.out.trans (by (repeat (first | exact Grew.refl _ | refine Grew.over ?_ _ | refine Grew.alloc ?_ _ | refine Grew.drew ?_ | refine Grew.drewN ?_ _)))) hn h1 h3); rintro e w8 ⟨⟨q8, c8, rfl, hs8⟩, hg2⟩; have Hs8 := Lib.hid hs8; have Hg5 := Lib.hid (Hg5.out.trans (Grew.trans (by (repeat (first | exact Grew.refl _ | refine Grew.over ?_ _ | refine Grew.alloc ?_ _ | refine Grew.drew ?_ | refine Grew.drewN ?_ _))) hg2)); have Hw5 := Lib.hid (Hw5.out.trans (Grew.trans (by (repeat (first | exact Grew.refl _ | refine Grew.over ?_ _ | refine Grew.alloc ?_ _ | refine Grew.drew ?_ | refine Grew.drewN ?_ _))) hg2)); have Ha5 := Lib.hid (Ha5.out.grew (Grew.trans (by (repeat (first | exact Grew.refl _ | refine Grew.over ?_ _ | refine Grew.alloc ?_ _ | refine Grew.drew ?_ | refine Grew.drewN ?_ _))) hg2)); have Hb5 := Lib.hid (Hb5.out.grew (Grew.trans (by (repeat (first | exact Grew.refl _ | refine Grew.over ?_ _ | refine Grew.alloc ?_ _ | refine Grew.drew ?_ | refine Grew.drewN ?_ _))) hg2)); obtain ⟨a0, a1, a2, a3⟩ := Ha5.out; obtain ⟨b0, b1, b2, b3⟩ := Hb5.out; clear hg2 hs8)
      refine hK.out _ _ ?_ (fun hH => ?_)
      · (first | (simp [go_sem, ↓IntWalk.iteOmega, *]; done) | go_keep)
      clear hK K
      (try simp only [Act.put, List.setIfInBounds_toArray, List.set_cons_zero, List.set_cons_succ])
      refine wpAnyT_all (rs := [3]) (by kernel_rfl) (by simp) (AllT.consL (i := 3) rfl (fun K hK => ?_) AllT.nil)
      go_simp; go_wp2_with (go_at_call 11; apply Calls.mono; (with_reducible exact namesp_e Hyn.out Hs3.out (Hg35.out.trans (Hw5.out.trans (by (repeat (first | exact Grew.refl _ | refine Grew.over ?_ _ | refine Grew.alloc ?_ _ | refine Grew.drew ?_ | refine Grew.drewN ?_ _))))) hun hu1 hu3.out); rintro e w9 ⟨⟨q9, c9, rfl, hs9⟩, hg2⟩; have Hs9 := Lib.hid hs9; have Hs8 := Lib.hid (Hs8.out.grew stable_str (Grew.trans (by (repeat (first | exact Grew.refl _ | refine Grew.over ?_ _ | refine Grew.alloc ?_ _ | refine Grew.drew ?_ | refine Grew.drewN ?_ _))) hg2)); have Hg5 := Lib.hid (Hg5.out.trans (Grew.trans (by (repeat (first | exact Grew.refl _ | refine Grew.over ?_ _ | refine Grew.alloc ?_ _ | refine Grew.drew ?_ | refine Grew.drewN ?_ _))) hg2)); have Hw5 := Lib.hid (Hw5.out.trans (Grew.trans (by (repeat (first | exact Grew.refl _ | refine Grew.over ?_ _ | refine Grew.alloc ?_ _ | refine Grew.drew ?_ | refine Grew.drewN ?_ _))) hg2)); have Ha5 := Lib.hid (Ha5.out.grew (Grew.trans (by (repeat (first | exact Grew.refl _ | refine Grew.over ?_ _ | refine Grew.alloc ?_ _ | refine Grew.drew ?_ | refine Grew.drewN ?_ _))) hg2)); have Hb5 := Lib.hid (Hb5.out.grew (Grew.trans (by (repeat (first | exact Grew.refl _ | refine Grew.over ?_ _ | refine Grew.alloc ?_ _ | refine Grew.drew ?_ | refine Grew.drewN ?_ _))) hg2)); obtain ⟨a0, a1, a2, a3⟩ := Ha5.out; obtain ⟨b0, b1, b2, b3⟩ := Hb5.out; clear hg2 hs9)
      refine hK.out _ _ ?_ (fun hH => ?_)
      · (first | (simp [go_sem, ↓IntWalk.iteOmega, *]; done) | go_keep)
      clear hK K
      (try simp only [Act.put, List.setIfInBounds_toArray, List.set_cons_zero, List.set_cons_succ])
      refine wpAnyT_all (rs := [4]) (by kernel_rfl) (by simp) (AllT.consL (i := 4) rfl (fun K hK => ?_) AllT.nil)
      go_simp
      refine hK.out _ _ ?_ (fun hH => ?_)
      · (first | (simp [go_sem, ↓IntWalk.iteOmega, *]; done) | go_keep)
      clear hK K
      (try simp only [Act.put, List.setIfInBounds_toArray, List.set_cons_zero, List.set_cons_succ])
      refine wpAnyT_all (rs := [5]) (by kernel_rfl) (by simp) (AllT.consL (i := 5) rfl (fun K hK => ?_) AllT.nil)
      go_simp
      refine hK.out _ _ ?_ (fun hH => ?_)
      · (first | (simp [go_sem, ↓IntWalk.iteOmega, *]; done) | go_keep)
      clear hK K
      (try simp only [Act.put, List.setIfInBounds_toArray, List.set_cons_zero, List.set_cons_succ])
      refine wpAnyT_done (by kernel_rfl) ?_ _
      have hlm : (NL.map (gR f t)).length = NL.length := List.length_map _
      have Hlm := Lib.hid hlm
      have hNm := len_lt Hs8.out
      clear hlm a0 a1 a2 a3 b0 b1 b2 b3
      go_wp2
      go_loopw [15] (fun i wr => ∃ k : Nat, k ≤ NL.length ∧ i = .int .i64 k ∧ Grew w9 wr) (fun i _ => NL.length - (intOf i).toNat)
      case atStart => exact ⟨0, Nat.zero_le _, rfl, by (repeat (first | exact Grew.refl _ | refine Grew.over ?_ _ | refine Grew.alloc ?_ _ | refine Grew.drew ?_ | refine Grew.drewN ?_ _))⟩
      case round =>
        obtain ⟨k, hk, rfl, hg⟩ := hrel
        have Hgk := Lib.hid hg
        clear hg
        by_cases hlt : k < NL.length
        · obtain ⟨b, o, s, rfl, hb, e1, hs, k1⟩ := strs_el (Hs8.out.grew stable_str Hgk.out) hlt
          obtain ⟨b', o', s', rfl, hb', e2, hs', k2⟩ := strs_el (Hs9.out.grew stable_str Hgk.out) (i := k) (by rw [Hlm.out]; exact hlt)
          rw [List.getElem?_map, e1] at e2
          have e3 : gR f t s = s' := Option.some.inj e2
          have hft' : (f.toList == t.toList) = false := by rw [← Bool.not_eq_true]; exact fun h => Hft.out (sq_iff.1 h)
          have hft'' : (f.toList != t.toList) = true := by rw [bne, hft']; rfl
          by_cases hsf : s = f
          · rw [gR_y hsf] at e3
            subst e3
            subst hsf
            clear e1 e2
            go_wp2
            refine wp_region_over (by kernel_rfl) (by kernel_rfl) ?_; (repeat (go_big_quiet_step (fail))); refine wpQuiet_nil ?_; rintro _ ⟨x, rfl⟩
            go_wp2
            go_roundw
            case rel => exact ⟨k + 1, hlt, by go_num, Hgk.out.trans (by (repeat (first | exact Grew.refl _ | refine Grew.over ?_ _ | refine Grew.alloc ?_ _ | refine Grew.drew ?_ | refine Grew.drewN ?_ _)))⟩
            case measure => simp [intOf]; omega
          · rw [gR_n hsf] at e3
            subst e3
            have hsf' : (s.toList == f.toList) = false := by rw [← Bool.not_eq_true]; exact fun h => hsf (sq_iff.1 h)
            have hsf'' : (s.toList != f.toList) = true := by rw [bne, hsf']; rfl
            clear e1 e2 hsf
            go_wp2
            refine wp_region_over (by kernel_rfl) (by kernel_rfl) ?_; (repeat (go_big_quiet_step (fail))); refine wpQuiet_nil ?_; rintro _ ⟨x, rfl⟩
            go_wp2
            go_roundw
            case rel => exact ⟨k + 1, hlt, by go_num, Hgk.out.trans (by (repeat (first | exact Grew.refl _ | refine Grew.over ?_ _ | refine Grew.alloc ?_ _ | refine Grew.drew ?_ | refine Grew.drewN ?_ _)))⟩
            case measure => simp [intOf]; omega
        · go_wp2_with (go_at_call 9; apply Calls.mono; (with_reducible exact awake_l _); rintro e w11 ⟨rfl, hg2⟩; have Hg11 := Lib.hid ((Hg5.out.trans Hgk.out).trans (Grew.trans (by (repeat (first | exact Grew.refl _ | refine Grew.over ?_ _ | refine Grew.alloc ?_ _ | refine Grew.drew ?_ | refine Grew.drewN ?_ _))) hg2)); clear hg2)
          go_ret
          exact ⟨rfl, Hg11.out⟩
end Go.Proofs.Ytbamckfjikpjlaa
