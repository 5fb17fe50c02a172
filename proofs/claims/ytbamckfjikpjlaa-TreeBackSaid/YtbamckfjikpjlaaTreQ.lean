/- Names and Clusters of the reference. -/
import Derived.Test.YtbamckfjikpjlaaTreP
set_option linter.unusedSimpArgs false
set_option linter.unusedVariables false
namespace Go.Proofs.Ytbamckfjikpjlaa
open Go.RowKit
attribute [local go_sem ↓] Go.wp_at_zero Go.wp_at_succ

theorem validr_e {name : ByteArray} {dir : Bool} {p : Option Addr} {n cap : Nat} {l : List St} {w0 w : World} {e0 : Int} (he : vlE name l = e0) (hS : Sts 20 w0 p cap l) (hg : Grew w0 w) (hn : l.length = n) (hc : cntL l ≤ 600) (hd : depL l ≤ 20) :
    Calls Try.prog 21 #[.agg #[.string name, .bool dir, .slice p n cap]] w fun e w' => e = .returned (.int .i64 e0) ∧ Grew w w' := he ▸ valid_r name dir p n cap l w (hS.grew (stable_st _) hg) hn hc hd
theorem hasr_e {p : Option Addr} {n c : Nat} {x : List ByteArray} {v : ByteArray} {w : World} {b : Bool} (hb : memB v x = b) (hx : Strs w p c x) (hn : x.length = n) : Calls Try.prog 31 #[.slice p n c, .string v] w fun e w' => e = .returned (.bool b) ∧ Grew w w' := hb ▸ has_r p n c x v w hx hn

abbrev OutS (W0 : World) (X : Nat → Prop) (B : Nat) (W : World) (v : Value) (xs : List ByteArray) : Prop := Out layStr rS W0 X B W v xs
theorem OutS.sl {W0 : World} {X : Nat → Prop} {B : Nat} {W : World} {v : Value} {xs : List ByteArray} (h : OutS W0 X B W v xs) : ∃ p cap, v = .slice p xs.length cap ∧ Strs W p cap xs := h.2.1.slat

theorem Bx5.gr {w w' : World} {b : Nat} {v0 v1 v2 v3 v4 : Value} (h : Bx5 w b v0 v1 v2 v3 v4) {X : Nat → Prop} (hg : Gr X w w') (hn : ¬ X b) : Bx5 w' b v0 v1 v2 v3 v4 :=
  ⟨Nat.lt_of_lt_of_le h.1 hg.size, hg.cellEq hn h.2.1, hg.cellEq hn h.2.2.1, hg.cellEq hn h.2.2.2.1, hg.cellEq hn h.2.2.2.2.1, hg.cellEq hn h.2.2.2.2.2⟩
set_option maxHeartbeats 8000000 in
set_option maxRecDepth 4000 in
theorem names_r (name : ByteArray) (dir : Bool) (p : Option Addr) (n cap : Nat) (l : List St) (w : World) (hS : Sts 20 w p cap l) (hn : l.length = n) (hc : cntL l ≤ 600) (hd : depL l ≤ 20) (hsm : smL l) :
    Calls Try.prog 12 #[.agg #[.string name, .bool dir, .slice p n cap]] w fun e w' => (∃ q c, e = .returned (.slice q (namesL name l).length c) ∧ Strs w' q c (namesL name l)) ∧ Grew w w' := by
  have HS := Lib.hid hS
  clear hS
  obtain ⟨e0, he⟩ : ∃ e, vlE name l = e := ⟨_, rfl⟩
  have He := Lib.hid he
  clear he
  by_cases h0 : e0 = 0
  case neg =>
    have hN : namesL name l = [] := if_neg (by rw [He.out]; exact h0)
    rw [hN]
    clear hN
    have h0' : (e0 == 0) = false := beq_eq_false_iff_ne.2 h0
    have h0'' : (e0 != 0) = true := bne_iff_ne.2 h0
    go_enter Try.func12, Try.ntmps12
    go_wp2_with (go_at_call 21; apply Calls.mono; (with_reducible exact validr_e He.out HS.out (by (repeat (first | exact Grew.refl _ | refine Grew.over ?_ _ | refine Grew.alloc ?_ _ | refine Grew.drew ?_ | refine Grew.drewN ?_ _))) hn hc hd); rintro e w1 ⟨rfl, hg1⟩; have Hg1 := Lib.hid (show Grew w w1 from Grew.trans (by (repeat (first | exact Grew.refl _ | refine Grew.over ?_ _ | refine Grew.alloc ?_ _ | refine Grew.drew ?_ | refine Grew.drewN ?_ _))) hg1); clear hg1)
    go_ret
    exact ⟨⟨_, _, rfl, by simp, Nat.zero_le _, fun _ => rfl, fun i x hx => by simp at hx⟩, Hg1.out⟩
  subst h0
  have hN : namesL name l = nmsL (pre l 0) := if_pos He.out
  rw [hN]
  clear hN
  have hp := fun W hg => preorder_0 p n cap l w W HS.out hn hc hg
  have hF := cnt_pre l 0
  have Hsm := Lib.hid (pre_sm l 0 hsm)
  obtain ⟨F, hFF⟩ : ∃ F, pre l 0 = F := ⟨_, rfl⟩
  rw [hFF] at hF Hsm ⊢
  simp only [hFF, ← hF] at hp
  have Hp := Lib.hid hp
  have h600 : F.length ≤ 600 := by omega
  clear hp hFF
  go_enter Try.func12, Try.ntmps12
  go_wp2_with (first
    | (go_at_call 21; apply Calls.mono; (with_reducible exact validr_e He.out HS.out (by (repeat (first | exact Grew.refl _ | refine Grew.over ?_ _ | refine Grew.alloc ?_ _ | refine Grew.drew ?_ | refine Grew.drewN ?_ _))) hn hc hd); rintro e w1 ⟨rfl, hg1⟩; have Hg1 := Lib.hid hg1; have y2 := hg1.cellEq (b := w.heap.size) (i := 2) (v := .slice p n cap) (by simp [go_sem]); have y3 : w.heap.size + 1 < w1.heap.size := Nat.lt_of_lt_of_le (by simp [go_sem]) hg1.below.size; clear hg1)
    | (go_at_call 30; apply Calls.mono; (with_reducible exact Hp.out _ (Grew.trans (by (repeat (first | exact Grew.refl _ | refine Grew.over ?_ _ | refine Grew.alloc ?_ _ | refine Grew.drew ?_ | refine Grew.drewN ?_ _))) Hg1.out)); rintro e w3 ⟨⟨q, c, rfl, hs3, hfr⟩, hg3⟩; have Hs3 := Lib.hid hs3; have Hfr := Lib.hid hfr; have Hg3 := Lib.hid (Hg1.out.trans hg3); have Hg13 := Lib.hid hg3; clear hg3 hs3 hfr))
  have hOst := Lib.hid (show OutS w3 (ownX (.slice (some ⟨w.heap.size + 1, 0, none⟩) 0 0)) (w.heap.size + 1) w3 (.slice (some ⟨w.heap.size + 1, 0, none⟩) 0 0) [] from
    Out.start ((OwnSl.made layStr rS (w.alloc (.cells #[.string name, .bool dir, .slice p n cap] 24)) (w.heap.size + 1) (w.heap.size + 1) (by simp [go_sem]) (by simp [go_sem])).grew Hg3.out))
  have Hgw3 := Lib.hid (show Grew w w3 from Grew.trans (by (repeat (first | exact Grew.refl _ | refine Grew.over ?_ _ | refine Grew.alloc ?_ _ | refine Grew.drew ?_ | refine Grew.drewN ?_ _))) Hg3.out)
  have Hfr' := Lib.hid (show ∀ a, q = some a → ¬ ownX (.slice (some ⟨w.heap.size + 1, 0, none⟩) 0 0) a.block from fun a ha h => by
    have h1 := Hfr.out a ha
    have h2 : w.heap.size + 1 = a.block := Option.some.inj h
    omega)
  have Hsz := Lib.hid (show w.heap.size + 1 ≤ w3.heap.size from Nat.le_of_lt (Nat.lt_of_lt_of_le y3 (show Grew w1 w3 from Hg13.out).below.size))
  clear y2
  go_loopw [3, 5, 6, 7] (fun out i _ _ wr => ∃ k : Nat, k ≤ F.length ∧ i = .int .i64 k ∧ OutS w3 (ownX (.slice (some ⟨w.heap.size + 1, 0, none⟩) 0 0)) (w.heap.size + 1) wr out (nmsL (F.take k))) (fun _ i _ _ _ => F.length - (intOf i).toNat)
  case atStart => exact ⟨0, Nat.zero_le _, rfl, by simp only [List.take_zero]; exact hOst.out.grew (by (repeat (first | exact Grew.refl _ | refine Grew.over ?_ _ | refine Grew.alloc ?_ _ | refine Grew.drew ?_ | refine Grew.drewN ?_ _)))⟩
  case round =>
    obtain ⟨k, hk, rfl, hO⟩ := hrel
    have HO := Lib.hid hO
    obtain ⟨q4, c4, rfl, hst⟩ := hO.sl
    have Hst := Lib.hid hst
    have Hgr := Lib.hid (Hgw3.out.gr (fun k hk => by have h2 : w.heap.size + 1 = k := Option.some.inj hk; omega) hO.1)
    have hxl : (nmsL (F.take k)).length ≤ k * 41 := by
      have := nmsL_len (F := F.take k) (fun x hx => Hsm.out x (List.mem_of_mem_take hx))
      simp at this
      have h2 : min k F.length * 41 ≤ k * 41 := Nat.mul_le_mul_right _ (Nat.min_le_left _ _)
      omega
    obtain ⟨xs, hxs⟩ : ∃ xs, nmsL (F.take k) = xs := ⟨_, rfl⟩
    rw [hxs] at HO Hst hxl ⊢
    have Hxs := Lib.hid hxs
    clear hO hst hxs
    by_cases hlt : k < F.length
    · obtain ⟨b, o, kd, nm, rs, ats, bd, lv, rp, rc, ap, ac, bp, bc, m', rfl, hx, -, hnm, hC, c5, hR, -, -⟩ := fl_el (SlAt.gr Hs3.out HO.out.1 Hfr'.out) hlt
      obtain ⟨hb, c0, c1, c2, c3, c4'⟩ := hC
      have hr40 : rs.length ≤ 40 := Hsm.out _ (List.mem_of_getElem? hx)
      have HR := Lib.hid hR
      have Hx := Lib.hid hx
      have Hnm := Lib.hid hnm
      have HBb := Lib.hid (Bx5.box wr (.int .i64 kd) (.string nm) (.slice rp rs.length rc) (.slice ap ats.length ac) (.slice bp bd.length bc) 43)
      have HOb := Lib.hid (HO.out.grew (show Grew wr (wr.alloc (.cells #[.int .i64 kd, .string nm, .slice rp rs.length rc, .slice ap ats.length ac, .slice bp bd.length bc] 43)) by (repeat (first | exact Grew.refl _ | refine Grew.over ?_ _ | refine Grew.alloc ?_ _ | refine Grew.drew ?_ | refine Grew.drewN ?_ _))))
      have Hgb := Lib.hid (Hgr.out.trans (show Grew wr (wr.alloc (.cells #[.int .i64 kd, .string nm, .slice rp rs.length rc, .slice ap ats.length ac, .slice bp bd.length bc] 43)) by (repeat (first | exact Grew.refl _ | refine Grew.over ?_ _ | refine Grew.alloc ?_ _ | refine Grew.drew ?_ | refine Grew.drewN ?_ _))))
      have Hnb0 := Lib.hid (show ¬ ownX (.slice q4 xs.length c4) wr.heap.size from fun h => by have := (HO.out.2.1.lt h).2; omega)
      clear hx hR hnm
      by_cases h1 : kd = 1
      case neg =>
        have ho1 : nmF xs (.mk kd nm rs ats bd, lv) = rsN xs rs := by simp only [nmF, if_neg h1]
        obtain ⟨o1, hoo⟩ : ∃ o1, xs = o1 := ⟨_, rfl⟩
        rw [hoo] at ho1
        have Ho1 := Lib.hid (show nmF xs (.mk kd nm rs ats bd, lv) = rsN o1 rs by rw [hoo]; exact ho1)
        obtain ⟨w4, hw4⟩ : ∃ w4, wr.alloc (.cells #[.int .i64 kd, .string nm, .slice rp rs.length rc, .slice ap ats.length ac, .slice bp bd.length bc] 43) = w4 := ⟨_, rfl⟩
        rw [hw4] at HBb HOb Hgb
        have HO4 := Lib.hid (show OutS w3 (ownX (.slice (some ⟨w.heap.size + 1, 0, none⟩) 0 0)) (w.heap.size + 1) w4 (.slice q4 xs.length c4) o1 by rw [← hoo]; exact HOb.out)
        have Hgw4 := Lib.hid Hgb.out
        have HB4 := Lib.hid HBb.out
        have Hnb := Lib.hid Hnb0.out
        have hol : o1.length ≤ 24641 := by rw [← hoo]; omega
        clear hoo ho1
        obtain ⟨z0, z1, z2, z3, z4, z5⟩ := HBb.out
        go_wp2
        clear hw4 z0 z1 z2 z3 z4 z5
        go_loopw [3, 7] (fun out i wv => ∃ u : Nat, u ≤ rs.length ∧ i = .int .i64 u ∧ OutS w4 (ownX (.slice q4 xs.length c4)) (w.heap.size + 1) wv out (rsN o1 (rs.take u))) (fun _ i _ => rs.length - (intOf i).toNat)
        case atStart => exact ⟨0, Nat.zero_le _, rfl, (Out.start HO4.out.2.1).grew (by (repeat (first | exact Grew.refl _ | refine Grew.over ?_ _ | refine Grew.alloc ?_ _ | refine Grew.drew ?_ | refine Grew.drewN ?_ _)))⟩
        case round =>
          obtain ⟨u, hu, rfl, hOv⟩ := hrel
          have HOv := Lib.hid hOv
          obtain ⟨qv, cv, rfl, hsv⟩ := hOv.sl
          have Hsv := Lib.hid hsv
          have Hgv := Lib.hid (Hgw4.out.gr (fun k hk => by have := (HO4.out.2.1.lt hk).1; omega) hOv.1)
          obtain ⟨hb1, x0, x1, x2, x3, x4⟩ := HB4.out.gr hOv.1 Hnb.out
          obtain ⟨ys, hys⟩ : ∃ ys, rsN o1 (rs.take u) = ys := ⟨_, rfl⟩
          have hyl : ys.length ≤ 25000 := by rw [← hys]; have := rsN_len o1 (rs.take u); have : (rs.take u).length ≤ rs.length := by simp; omega
                                             omega
          rw [hys] at HOv Hsv ⊢
          have Hys := Lib.hid hys
          clear hOv hsv hys
          by_cases hult : u < rs.length
          · obtain ⟨bb, oo, s1, t1, rfl, hbb, e1, hs1, -, f1, f2⟩ := p2_el (HR.out.grew stable_p2 Hgv.out) hult
            have E1 := Lib.hid e1
            have Hs1 := Lib.hid hs1
            have Hn := Lib.hid (show rsN o1 (rs.take (u + 1)) = putN ys s1 by rw [take_snoc' e1, rsN_snoc, Hys.out])
            clear e1 hs1
            cases hq : memB s1 ys
            · have Hq := Lib.hid hq
              rw [putN_n hq] at Hn
              clear hq
              go_wp2_with (first
                | (go_at_call 31; apply Calls.mono; (with_reducible exact hasr_e Hq.out (Hsv.out.grew stable_str (by (repeat (first | exact Grew.refl _ | refine Grew.over ?_ _ | refine Grew.alloc ?_ _ | refine Grew.drew ?_ | refine Grew.drewN ?_ _)))) rfl); rintro e w5 ⟨rfl, hg5⟩; have HO5 := Lib.hid (HOv.out.grew (Grew.trans (by (repeat (first | exact Grew.refl _ | refine Grew.over ?_ _ | refine Grew.alloc ?_ _ | refine Grew.drew ?_ | refine Grew.drewN ?_ _))) hg5)); obtain ⟨hb1', x0', x1', x2', x3', x4'⟩ := Bx5.grew ⟨hb1, x0, x1, x2, x3, x4⟩ (Grew.trans (by (repeat (first | exact Grew.refl _ | refine Grew.over ?_ _ | refine Grew.alloc ?_ _ | refine Grew.drew ?_ | refine Grew.drewN ?_ _))) hg5); have f1' := (Grew.trans (by (repeat (first | exact Grew.refl _ | refine Grew.over ?_ _ | refine Grew.alloc ?_ _ | refine Grew.drew ?_ | refine Grew.drewN ?_ _))) hg5).cellEq f1; have hbb' := Nat.lt_of_lt_of_le hbb (show Grew _ w5 from Grew.trans (by (repeat (first | exact Grew.refl _ | refine Grew.over ?_ _ | refine Grew.alloc ?_ _ | refine Grew.drew ?_ | refine Grew.drewN ?_ _))) hg5).below.size; clear hg5)
                | (at_builtin; refine wp_append_out rfl layStr rS rS_one _ _ rfl _ _ (w.heap.size + 1) _ ys [s1] (HO5.out.grew (by (repeat (first | exact Grew.refl _ | refine Grew.over ?_ _ | refine Grew.alloc ?_ _ | refine Grew.drew ?_ | refine Grew.drewN ?_ _)))) (by have := Hsz.out; have := HO4.out.1.size; have := HO5.out.1.size; simp [go_sem]; omega) rfl _ _ _ rfl (slat_one [.string s1] _ (by simp [cellsAt, go_sem]) rfl (by decide) ⟨rfl, Hs1.out⟩) rfl (by simp [maxLen]; omega) (by simp [layStr]; omega) ?_; intro v6 w6 hO6; have HO6 := Lib.hid hO6; clear hO6))
              go_roundw
              case rel => exact ⟨u + 1, hult, by go_num, by rw [Hn.out]; exact HO6.out⟩
              case measure => simp [intOf]; omega
            · have Hq := Lib.hid hq
              rw [putN_y hq] at Hn
              clear hq
              go_wp2_with (go_at_call 31; apply Calls.mono; (with_reducible exact hasr_e Hq.out (Hsv.out.grew stable_str (by (repeat (first | exact Grew.refl _ | refine Grew.over ?_ _ | refine Grew.alloc ?_ _ | refine Grew.drew ?_ | refine Grew.drewN ?_ _)))) rfl); rintro e w5 ⟨rfl, hg5⟩; have HO5 := Lib.hid (HOv.out.grew (Grew.trans (by (repeat (first | exact Grew.refl _ | refine Grew.over ?_ _ | refine Grew.alloc ?_ _ | refine Grew.drew ?_ | refine Grew.drewN ?_ _))) hg5)); clear hg5)
              go_roundw
              case rel => exact ⟨u + 1, hult, by go_num, by rw [Hn.out]; exact HO5.out⟩
              case measure => simp [intOf]; omega
          · have ht : rs.take u = rs := List.take_of_length_le (by omega)
            rw [ht] at Hys
            have HO7 := Lib.hid (Out.comp HO4.out HOv.out)
            have Hn : Hid (nmsL (F.take (k + 1)) = ys) := Lib.hid (by rw [take_snoc' Hx.out, nmsL_snoc, Hxs.out]; exact (Ho1.out.trans Hys.out))
            go_wp2
            go_roundw
            case rel => exact ⟨k + 1, hlt, by go_num, by rw [Hn.out]; exact HO7.out.grew (by (repeat (first | exact Grew.refl _ | refine Grew.over ?_ _ | refine Grew.alloc ?_ _ | refine Grew.drew ?_ | refine Grew.drewN ?_ _)))⟩
            case measure => simp [intOf]; omega
      subst h1
      have ho1 : nmF xs (.mk 1 nm rs ats bd, lv) = rsN (putN xs nm) rs := rfl
      cases hm : memB nm xs
      case true =>
        rw [putN_y hm] at ho1
        have Hm := Lib.hid hm
        clear hm
        obtain ⟨o1, hoo⟩ : ∃ o1, xs = o1 := ⟨_, rfl⟩
        rw [hoo] at ho1
        have Ho1 := Lib.hid (show nmF xs (.mk 1 nm rs ats bd, lv) = rsN o1 rs by rw [hoo]; exact ho1)
        have Hoo := Lib.hid hoo
        have hol : o1.length ≤ 24641 := by rw [← hoo]; omega
        clear hoo ho1
        go_wp2_with (go_at_call 31; apply Calls.mono; (with_reducible exact hasr_e Hm.out (Hst.out.grew stable_str (by (repeat (first | exact Grew.refl _ | refine Grew.over ?_ _ | refine Grew.alloc ?_ _ | refine Grew.drew ?_ | refine Grew.drewN ?_ _)))) rfl); rintro e w4 ⟨rfl, hg4⟩; have HO4 := Lib.hid (show OutS w3 (ownX (.slice (some ⟨w.heap.size + 1, 0, none⟩) 0 0)) (w.heap.size + 1) w4 (.slice q4 xs.length c4) o1 by rw [← Hoo.out]; exact HOb.out.grew hg4); have Hgw4 := Lib.hid (Hgb.out.trans hg4); have HB4 := Lib.hid (HBb.out.grew hg4); have Hnb := Lib.hid Hnb0.out; clear hg4)
        go_loopw [3, 7] (fun out i wv => ∃ u : Nat, u ≤ rs.length ∧ i = .int .i64 u ∧ OutS w4 (ownX (.slice q4 xs.length c4)) (w.heap.size + 1) wv out (rsN o1 (rs.take u))) (fun _ i _ => rs.length - (intOf i).toNat)
        case atStart => exact ⟨0, Nat.zero_le _, rfl, (Out.start HO4.out.2.1).grew (by (repeat (first | exact Grew.refl _ | refine Grew.over ?_ _ | refine Grew.alloc ?_ _ | refine Grew.drew ?_ | refine Grew.drewN ?_ _)))⟩
        case round =>
          obtain ⟨u, hu, rfl, hOv⟩ := hrel
          have HOv := Lib.hid hOv
          obtain ⟨qv, cv, rfl, hsv⟩ := hOv.sl
          have Hsv := Lib.hid hsv
          have Hgv := Lib.hid (Hgw4.out.gr (fun k hk => by have := (HO4.out.2.1.lt hk).1; omega) hOv.1)
          obtain ⟨hb1, x0, x1, x2, x3, x4⟩ := HB4.out.gr hOv.1 Hnb.out
          obtain ⟨ys, hys⟩ : ∃ ys, rsN o1 (rs.take u) = ys := ⟨_, rfl⟩
          have hyl : ys.length ≤ 25000 := by rw [← hys]; have := rsN_len o1 (rs.take u); have : (rs.take u).length ≤ rs.length := by simp; omega
                                             omega
          rw [hys] at HOv Hsv ⊢
          have Hys := Lib.hid hys
          clear hOv hsv hys
          by_cases hult : u < rs.length
          · obtain ⟨bb, oo, s1, t1, rfl, hbb, e1, hs1, -, f1, f2⟩ := p2_el (HR.out.grew stable_p2 Hgv.out) hult
            have E1 := Lib.hid e1
            have Hs1 := Lib.hid hs1
            have Hn := Lib.hid (show rsN o1 (rs.take (u + 1)) = putN ys s1 by rw [take_snoc' e1, rsN_snoc, Hys.out])
            clear e1 hs1
            cases hq : memB s1 ys
            · have Hq := Lib.hid hq
              rw [putN_n hq] at Hn
              clear hq
              go_wp2_with (first
                | (go_at_call 31; apply Calls.mono; (with_reducible exact hasr_e Hq.out (Hsv.out.grew stable_str (by (repeat (first | exact Grew.refl _ | refine Grew.over ?_ _ | refine Grew.alloc ?_ _ | refine Grew.drew ?_ | refine Grew.drewN ?_ _)))) rfl); rintro e w5 ⟨rfl, hg5⟩; have HO5 := Lib.hid (HOv.out.grew (Grew.trans (by (repeat (first | exact Grew.refl _ | refine Grew.over ?_ _ | refine Grew.alloc ?_ _ | refine Grew.drew ?_ | refine Grew.drewN ?_ _))) hg5)); obtain ⟨hb1', x0', x1', x2', x3', x4'⟩ := Bx5.grew ⟨hb1, x0, x1, x2, x3, x4⟩ (Grew.trans (by (repeat (first | exact Grew.refl _ | refine Grew.over ?_ _ | refine Grew.alloc ?_ _ | refine Grew.drew ?_ | refine Grew.drewN ?_ _))) hg5); have f1' := (Grew.trans (by (repeat (first | exact Grew.refl _ | refine Grew.over ?_ _ | refine Grew.alloc ?_ _ | refine Grew.drew ?_ | refine Grew.drewN ?_ _))) hg5).cellEq f1; have hbb' := Nat.lt_of_lt_of_le hbb (show Grew _ w5 from Grew.trans (by (repeat (first | exact Grew.refl _ | refine Grew.over ?_ _ | refine Grew.alloc ?_ _ | refine Grew.drew ?_ | refine Grew.drewN ?_ _))) hg5).below.size; clear hg5)
                | (at_builtin; refine wp_append_out rfl layStr rS rS_one _ _ rfl _ _ (w.heap.size + 1) _ ys [s1] (HO5.out.grew (by (repeat (first | exact Grew.refl _ | refine Grew.over ?_ _ | refine Grew.alloc ?_ _ | refine Grew.drew ?_ | refine Grew.drewN ?_ _)))) (by have := Hsz.out; have := HO4.out.1.size; have := HO5.out.1.size; simp [go_sem]; omega) rfl _ _ _ rfl (slat_one [.string s1] _ (by simp [cellsAt, go_sem]) rfl (by decide) ⟨rfl, Hs1.out⟩) rfl (by simp [maxLen]; omega) (by simp [layStr]; omega) ?_; intro v6 w6 hO6; have HO6 := Lib.hid hO6; clear hO6))
              go_roundw
              case rel => exact ⟨u + 1, hult, by go_num, by rw [Hn.out]; exact HO6.out⟩
              case measure => simp [intOf]; omega
            · have Hq := Lib.hid hq
              rw [putN_y hq] at Hn
              clear hq
              go_wp2_with (go_at_call 31; apply Calls.mono; (with_reducible exact hasr_e Hq.out (Hsv.out.grew stable_str (by (repeat (first | exact Grew.refl _ | refine Grew.over ?_ _ | refine Grew.alloc ?_ _ | refine Grew.drew ?_ | refine Grew.drewN ?_ _)))) rfl); rintro e w5 ⟨rfl, hg5⟩; have HO5 := Lib.hid (HOv.out.grew (Grew.trans (by (repeat (first | exact Grew.refl _ | refine Grew.over ?_ _ | refine Grew.alloc ?_ _ | refine Grew.drew ?_ | refine Grew.drewN ?_ _))) hg5)); clear hg5)
              go_roundw
              case rel => exact ⟨u + 1, hult, by go_num, by rw [Hn.out]; exact HO5.out⟩
              case measure => simp [intOf]; omega
          · have ht : rs.take u = rs := List.take_of_length_le (by omega)
            rw [ht] at Hys
            have HO7 := Lib.hid (Out.comp HO4.out HOv.out)
            have Hn : Hid (nmsL (F.take (k + 1)) = ys) := Lib.hid (by rw [take_snoc' Hx.out, nmsL_snoc, Hxs.out]; exact (Ho1.out.trans Hys.out))
            go_wp2
            go_roundw
            case rel => exact ⟨k + 1, hlt, by go_num, by rw [Hn.out]; exact HO7.out.grew (by (repeat (first | exact Grew.refl _ | refine Grew.over ?_ _ | refine Grew.alloc ?_ _ | refine Grew.drew ?_ | refine Grew.drewN ?_ _)))⟩
            case measure => simp [intOf]; omega
      rw [putN_n hm] at ho1
      have Hm := Lib.hid hm
      clear hm
      obtain ⟨o1, hoo⟩ : ∃ o1, xs ++ [nm] = o1 := ⟨_, rfl⟩
      rw [hoo] at ho1
      have Ho1 := Lib.hid ho1
      have Hoo := Lib.hid hoo
      have hol : o1.length ≤ 24641 := by rw [← hoo]; simp; omega
      clear hoo ho1
      go_wp2_with (first
        | (go_at_call 31; apply Calls.mono; (with_reducible exact hasr_e Hm.out (Hst.out.grew stable_str (by (repeat (first | exact Grew.refl _ | refine Grew.over ?_ _ | refine Grew.alloc ?_ _ | refine Grew.drew ?_ | refine Grew.drewN ?_ _)))) rfl); rintro e w5 ⟨rfl, hg5⟩; have HO5 := Lib.hid (HOb.out.grew hg5); have Hgw5 := Lib.hid (Hgb.out.trans hg5); have HB5 := Lib.hid (HBb.out.grew hg5); obtain ⟨z0, z1, z2, z3, z4, z5⟩ := HB5.out; clear hg5)
        | (at_builtin; refine wp_append_out rfl layStr rS rS_one _ _ rfl w5 _ (w.heap.size + 1) _ xs [nm] ((Out.start HO5.out.2.1).grew (by (repeat (first | exact Grew.refl _ | refine Grew.over ?_ _ | refine Grew.alloc ?_ _ | refine Grew.drew ?_ | refine Grew.drewN ?_ _)))) (by have := Hsz.out; have := HO5.out.1.size; simp [go_sem]; omega) rfl _ _ _ rfl (slat_one [.string nm] _ (by simp [cellsAt, go_sem]) rfl (by decide) ⟨rfl, Hnm.out⟩) rfl (by simp [maxLen]; omega) (by simp [layStr]; omega) ?_; intro v4 w4 hO4; have HO4 := Lib.hid (show OutS w3 (ownX (.slice (some ⟨w.heap.size + 1, 0, none⟩) 0 0)) (w.heap.size + 1) w4 v4 o1 by rw [← Hoo.out]; exact Out.comp HO5.out hO4); have HB4 := Lib.hid (HB5.out.gr hO4.1 Hnb0.out); have Hnb := Lib.hid (fun h => (hO4.2.2 _ h).elim Hnb0.out (fun h2 => by omega)); have Hgw4 := Lib.hid (Hgw5.out.gr (fun k hk => by have := (HO5.out.2.1.lt hk).1; omega) hO4.1); obtain ⟨t0, t1, t2, t3, t4, t5⟩ := HB4.out; clear hO4))
      clear z0 z1 z2 z3 z4 z5 t0 t1 t2 t3 t4 t5
      go_loopw [3, 7] (fun out i wv => ∃ u : Nat, u ≤ rs.length ∧ i = .int .i64 u ∧ OutS w4 (ownX v4) (w.heap.size + 1) wv out (rsN o1 (rs.take u))) (fun _ i _ => rs.length - (intOf i).toNat)
      case atStart => exact ⟨0, Nat.zero_le _, rfl, (Out.start HO4.out.2.1).grew (by (repeat (first | exact Grew.refl _ | refine Grew.over ?_ _ | refine Grew.alloc ?_ _ | refine Grew.drew ?_ | refine Grew.drewN ?_ _)))⟩
      case round =>
        obtain ⟨u, hu, rfl, hOv⟩ := hrel
        have HOv := Lib.hid hOv
        obtain ⟨qv, cv, rfl, hsv⟩ := hOv.sl
        have Hsv := Lib.hid hsv
        have Hgv := Lib.hid (Hgw4.out.gr (fun k hk => by have := (HO4.out.2.1.lt hk).1; omega) hOv.1)
        obtain ⟨hb1, x0, x1, x2, x3, x4⟩ := HB4.out.gr hOv.1 Hnb.out
        obtain ⟨ys, hys⟩ : ∃ ys, rsN o1 (rs.take u) = ys := ⟨_, rfl⟩
        have hyl : ys.length ≤ 25000 := by rw [← hys]; have := rsN_len o1 (rs.take u); have : (rs.take u).length ≤ rs.length := by simp; omega
                                           omega
        rw [hys] at HOv Hsv ⊢
        have Hys := Lib.hid hys
        clear hOv hsv hys
        by_cases hult : u < rs.length
        · obtain ⟨bb, oo, s1, t1, rfl, hbb, e1, hs1, -, f1, f2⟩ := p2_el (HR.out.grew stable_p2 Hgv.out) hult
          have E1 := Lib.hid e1
          have Hs1 := Lib.hid hs1
          have Hn := Lib.hid (show rsN o1 (rs.take (u + 1)) = putN ys s1 by rw [take_snoc' e1, rsN_snoc, Hys.out])
          clear e1 hs1
          cases hq : memB s1 ys
          · have Hq := Lib.hid hq
            rw [putN_n hq] at Hn
            clear hq
            go_wp2_with (first
              | (go_at_call 31; apply Calls.mono; (with_reducible exact hasr_e Hq.out (Hsv.out.grew stable_str (by (repeat (first | exact Grew.refl _ | refine Grew.over ?_ _ | refine Grew.alloc ?_ _ | refine Grew.drew ?_ | refine Grew.drewN ?_ _)))) rfl); rintro e w5 ⟨rfl, hg5⟩; have HO5 := Lib.hid (HOv.out.grew (Grew.trans (by (repeat (first | exact Grew.refl _ | refine Grew.over ?_ _ | refine Grew.alloc ?_ _ | refine Grew.drew ?_ | refine Grew.drewN ?_ _))) hg5)); obtain ⟨hb1', x0', x1', x2', x3', x4'⟩ := Bx5.grew ⟨hb1, x0, x1, x2, x3, x4⟩ (Grew.trans (by (repeat (first | exact Grew.refl _ | refine Grew.over ?_ _ | refine Grew.alloc ?_ _ | refine Grew.drew ?_ | refine Grew.drewN ?_ _))) hg5); have f1' := (Grew.trans (by (repeat (first | exact Grew.refl _ | refine Grew.over ?_ _ | refine Grew.alloc ?_ _ | refine Grew.drew ?_ | refine Grew.drewN ?_ _))) hg5).cellEq f1; have hbb' := Nat.lt_of_lt_of_le hbb (show Grew _ w5 from Grew.trans (by (repeat (first | exact Grew.refl _ | refine Grew.over ?_ _ | refine Grew.alloc ?_ _ | refine Grew.drew ?_ | refine Grew.drewN ?_ _))) hg5).below.size; clear hg5)
              | (at_builtin; refine wp_append_out rfl layStr rS rS_one _ _ rfl _ _ (w.heap.size + 1) _ ys [s1] (HO5.out.grew (by (repeat (first | exact Grew.refl _ | refine Grew.over ?_ _ | refine Grew.alloc ?_ _ | refine Grew.drew ?_ | refine Grew.drewN ?_ _)))) (by have := Hsz.out; have := HO4.out.1.size; have := HO5.out.1.size; simp [go_sem]; omega) rfl _ _ _ rfl (slat_one [.string s1] _ (by simp [cellsAt, go_sem]) rfl (by decide) ⟨rfl, Hs1.out⟩) rfl (by simp [maxLen]; omega) (by simp [layStr]; omega) ?_; intro v6 w6 hO6; have HO6 := Lib.hid hO6; clear hO6))
            go_roundw
            case rel => exact ⟨u + 1, hult, by go_num, by rw [Hn.out]; exact HO6.out⟩
            case measure => simp [intOf]; omega
          · have Hq := Lib.hid hq
            rw [putN_y hq] at Hn
            clear hq
            go_wp2_with (go_at_call 31; apply Calls.mono; (with_reducible exact hasr_e Hq.out (Hsv.out.grew stable_str (by (repeat (first | exact Grew.refl _ | refine Grew.over ?_ _ | refine Grew.alloc ?_ _ | refine Grew.drew ?_ | refine Grew.drewN ?_ _)))) rfl); rintro e w5 ⟨rfl, hg5⟩; have HO5 := Lib.hid (HOv.out.grew (Grew.trans (by (repeat (first | exact Grew.refl _ | refine Grew.over ?_ _ | refine Grew.alloc ?_ _ | refine Grew.drew ?_ | refine Grew.drewN ?_ _))) hg5)); clear hg5)
            go_roundw
            case rel => exact ⟨u + 1, hult, by go_num, by rw [Hn.out]; exact HO5.out⟩
            case measure => simp [intOf]; omega
        · have ht : rs.take u = rs := List.take_of_length_le (by omega)
          rw [ht] at Hys
          have HO7 := Lib.hid (Out.comp HO4.out HOv.out)
          have Hn : Hid (nmsL (F.take (k + 1)) = ys) := Lib.hid (by rw [take_snoc' Hx.out, nmsL_snoc, Hxs.out]; exact (Ho1.out.trans Hys.out))
          go_wp2
          go_roundw
          case rel => exact ⟨k + 1, hlt, by go_num, by rw [Hn.out]; exact HO7.out.grew (by (repeat (first | exact Grew.refl _ | refine Grew.over ?_ _ | refine Grew.alloc ?_ _ | refine Grew.drew ?_ | refine Grew.drewN ?_ _)))⟩
          case measure => simp [intOf]; omega
    · have ht : F.take k = F := List.take_of_length_le (by omega)
      rw [ht] at Hxs
      go_wp2
      go_ret
      exact ⟨⟨q4, c4, by rw [Hxs.out]; rfl, by rw [Hxs.out]; exact Hst.out.grew stable_str (by (repeat (first | exact Grew.refl _ | refine Grew.over ?_ _ | refine Grew.alloc ?_ _ | refine Grew.drew ?_ | refine Grew.drewN ?_ _)))⟩, Hgr.out.trans (by (repeat (first | exact Grew.refl _ | refine Grew.over ?_ _ | refine Grew.alloc ?_ _ | refine Grew.drew ?_ | refine Grew.drewN ?_ _)))⟩
set_option maxHeartbeats 8000000 in
set_option maxRecDepth 4000 in
theorem clusters_r (name : ByteArray) (dir : Bool) (p : Option Addr) (n cap : Nat) (l : List St) (w : World) (hS : Sts 20 w p cap l) (hn : l.length = n) (hc : cntL l ≤ 600) (hd : depL l ≤ 20) :
    Calls Try.prog 14 #[.agg #[.string name, .bool dir, .slice p n cap]] w fun e w' => (∃ q c, e = .returned (.slice q (clustL name l).length c) ∧ Strs w' q c (clustL name l)) ∧ Grew w w' := by
  have HS := Lib.hid hS
  clear hS
  obtain ⟨e0, he⟩ : ∃ e, vlE name l = e := ⟨_, rfl⟩
  have He := Lib.hid he
  clear he
  by_cases h0 : e0 = 0
  case neg =>
    have hN : clustL name l = [] := if_neg (by rw [He.out]; exact h0)
    rw [hN]
    clear hN
    have h0' : (e0 == 0) = false := beq_eq_false_iff_ne.2 h0
    have h0'' : (e0 != 0) = true := bne_iff_ne.2 h0
    go_enter Try.func14, Try.ntmps14
    go_wp2_with (go_at_call 21; apply Calls.mono; (with_reducible exact validr_e He.out HS.out (by (repeat (first | exact Grew.refl _ | refine Grew.over ?_ _ | refine Grew.alloc ?_ _ | refine Grew.drew ?_ | refine Grew.drewN ?_ _))) hn hc hd); rintro e w1 ⟨rfl, hg1⟩; have Hg1 := Lib.hid (show Grew w w1 from Grew.trans (by (repeat (first | exact Grew.refl _ | refine Grew.over ?_ _ | refine Grew.alloc ?_ _ | refine Grew.drew ?_ | refine Grew.drewN ?_ _))) hg1); clear hg1)
    go_ret
    exact ⟨⟨_, _, rfl, by simp, Nat.zero_le _, fun _ => rfl, fun i x hx => by simp at hx⟩, Hg1.out⟩
  subst h0
  have hN : clustL name l = clsL (pre l 0) := if_pos He.out
  rw [hN]
  clear hN
  have hp := fun W hg => preorder_0 p n cap l w W HS.out hn hc hg
  have hF := cnt_pre l 0
  obtain ⟨F, hFF⟩ : ∃ F, pre l 0 = F := ⟨_, rfl⟩
  rw [hFF] at hF ⊢
  simp only [hFF, ← hF] at hp
  have Hp := Lib.hid hp
  have h600 : F.length ≤ 600 := by omega
  clear hp hFF
  go_enter Try.func14, Try.ntmps14
  go_wp2_with (first
    | (go_at_call 21; apply Calls.mono; (with_reducible exact validr_e He.out HS.out (by (repeat (first | exact Grew.refl _ | refine Grew.over ?_ _ | refine Grew.alloc ?_ _ | refine Grew.drew ?_ | refine Grew.drewN ?_ _))) hn hc hd); rintro e w1 ⟨rfl, hg1⟩; have Hg1 := Lib.hid hg1; have y2 := hg1.cellEq (b := w.heap.size) (i := 2) (v := .slice p n cap) (by simp [go_sem]); have y3 : w.heap.size + 1 < w1.heap.size := Nat.lt_of_lt_of_le (by simp [go_sem]) hg1.below.size; clear hg1)
    | (go_at_call 30; apply Calls.mono; (with_reducible exact Hp.out _ (Grew.trans (by (repeat (first | exact Grew.refl _ | refine Grew.over ?_ _ | refine Grew.alloc ?_ _ | refine Grew.drew ?_ | refine Grew.drewN ?_ _))) Hg1.out)); rintro e w3 ⟨⟨q, c, rfl, hs3, hfr⟩, hg3⟩; have Hs3 := Lib.hid hs3; have Hfr := Lib.hid hfr; have Hg3 := Lib.hid (Hg1.out.trans hg3); have Hg13 := Lib.hid hg3; clear hg3 hs3 hfr))
  have hOst := Lib.hid (show OutS w3 (ownX (.slice (some ⟨w.heap.size + 1, 0, none⟩) 0 0)) (w.heap.size + 1) w3 (.slice (some ⟨w.heap.size + 1, 0, none⟩) 0 0) [] from
    Out.start ((OwnSl.made layStr rS (w.alloc (.cells #[.string name, .bool dir, .slice p n cap] 24)) (w.heap.size + 1) (w.heap.size + 1) (by simp [go_sem]) (by simp [go_sem])).grew Hg3.out))
  have Hgw3 := Lib.hid (show Grew w w3 from Grew.trans (by (repeat (first | exact Grew.refl _ | refine Grew.over ?_ _ | refine Grew.alloc ?_ _ | refine Grew.drew ?_ | refine Grew.drewN ?_ _))) Hg3.out)
  have Hfr' := Lib.hid (show ∀ a, q = some a → ¬ ownX (.slice (some ⟨w.heap.size + 1, 0, none⟩) 0 0) a.block from fun a ha h => by
    have h1 := Hfr.out a ha
    have h2 : w.heap.size + 1 = a.block := Option.some.inj h
    omega)
  have Hsz := Lib.hid (show w.heap.size + 1 ≤ w3.heap.size from Nat.le_of_lt (Nat.lt_of_lt_of_le y3 (show Grew w1 w3 from Hg13.out).below.size))
  clear y2
  go_loopw [3, 5] (fun out i wr => ∃ k : Nat, k ≤ F.length ∧ i = .int .i64 k ∧ OutS w3 (ownX (.slice (some ⟨w.heap.size + 1, 0, none⟩) 0 0)) (w.heap.size + 1) wr out (clsL (F.take k))) (fun _ i _ => F.length - (intOf i).toNat)
  case atStart => exact ⟨0, Nat.zero_le _, rfl, by simp only [List.take_zero]; exact hOst.out.grew (by (repeat (first | exact Grew.refl _ | refine Grew.over ?_ _ | refine Grew.alloc ?_ _ | refine Grew.drew ?_ | refine Grew.drewN ?_ _)))⟩
  case round =>
    obtain ⟨k, hk, rfl, hO⟩ := hrel
    have HO := Lib.hid hO
    obtain ⟨q4, c4, rfl, hst⟩ := hO.sl
    have Hst := Lib.hid hst
    have Hgr := Lib.hid (Hgw3.out.gr (fun k hk => by have h2 : w.heap.size + 1 = k := Option.some.inj hk; omega) hO.1)
    have hxl : (clsL (F.take k)).length ≤ k := by
      have := clsL_len (F.take k)
      simp at this
      omega
    obtain ⟨xs, hxs⟩ : ∃ xs, clsL (F.take k) = xs := ⟨_, rfl⟩
    rw [hxs] at HO Hst hxl ⊢
    have Hxs := Lib.hid hxs
    clear hO hst hxs
    by_cases hlt : k < F.length
    · obtain ⟨b, o, kd, nm, rs, ats, bd, lv, rp, rc, ap, ac, bp, bc, m', rfl, hx, -, hnm, hC, c5, hR, -, -⟩ := fl_el (SlAt.gr Hs3.out HO.out.1 Hfr'.out) hlt
      obtain ⟨hb, c0, c1, c2, c3, c4'⟩ := hC
      have Hx := Lib.hid hx
      have Hnm := Lib.hid hnm
      clear hx hR hnm
      by_cases h5 : kd = 5
      case neg =>
        have Hn : Hid (clsL (F.take (k + 1)) = xs) := Lib.hid (by rw [take_snoc' Hx.out, clsL_snoc, Hxs.out]; exact if_neg h5)
        go_wp2
        go_roundw
        case rel => exact ⟨k + 1, hlt, by go_num, by rw [Hn.out]; exact HO.out.grew (by (repeat (first | exact Grew.refl _ | refine Grew.over ?_ _ | refine Grew.alloc ?_ _ | refine Grew.drew ?_ | refine Grew.drewN ?_ _)))⟩
        case measure => simp [intOf]; omega
      subst h5
      have Hn : Hid (clsL (F.take (k + 1)) = xs ++ [nm]) := Lib.hid (by rw [take_snoc' Hx.out, clsL_snoc, Hxs.out]; rfl)
      go_wp2_with (at_builtin; refine wp_append_out rfl layStr rS rS_one _ _ rfl w3 _ (w.heap.size + 1) _ xs [nm] (HO.out.grew (by (repeat (first | exact Grew.refl _ | refine Grew.over ?_ _ | refine Grew.alloc ?_ _ | refine Grew.drew ?_ | refine Grew.drewN ?_ _)))) (by have := Hsz.out; have := HO.out.1.size; simp [go_sem]; omega) rfl _ _ _ rfl (slat_one [.string nm] _ (by simp [cellsAt, go_sem]) rfl (by decide) ⟨rfl, Hnm.out⟩) rfl (by simp [maxLen]; omega) (by simp [layStr]; omega) ?_; intro v6 w6 hO6; have HO6 := Lib.hid hO6; clear hO6)
      go_roundw
      case rel => exact ⟨k + 1, hlt, by go_num, by rw [Hn.out]; exact HO6.out⟩
      case measure => simp [intOf]; omega
    · have ht : F.take k = F := List.take_of_length_le (by omega)
      rw [ht] at Hxs
      go_wp2
      go_ret
      exact ⟨⟨q4, c4, by rw [Hxs.out]; rfl, by rw [Hxs.out]; exact Hst.out.grew stable_str (by (repeat (first | exact Grew.refl _ | refine Grew.over ?_ _ | refine Grew.alloc ?_ _ | refine Grew.drew ?_ | refine Grew.drewN ?_ _)))⟩, Hgr.out.trans (by (repeat (first | exact Grew.refl _ | refine Grew.over ?_ _ | refine Grew.alloc ?_ _ | refine Grew.drew ?_ | refine Grew.drewN ?_ _)))⟩
end Go.Proofs.Ytbamckfjikpjlaa
