/- renamed of the reference. -/
import Derived.Test.YtbamckfjikpjlaaTreT
set_option linter.unusedSimpArgs false
set_option linter.unusedVariables false
namespace Go.Proofs.Ytbamckfjikpjlaa
open Go.RowKit
attribute [local go_sem ↓] Go.wp_at_zero Go.wp_at_succ

set_option maxHeartbeats 8000000 in
set_option maxRecDepth 4000 in
theorem renamed_r (f t : ByteArray) (ht : t.size ≤ maxLen) : ∀ (n : Nat) (p : Option Addr) (m cap : Nat) (l : List St) (w0 W : World) (_ : Sts n w0 p cap l) (_ : l.length = m) (_ : cntL l ≤ 600) (_ : smL l) (_ : Grew w0 W),
    Calls Try.prog 36 #[.slice p m cap, .string f, .string t] W fun e w' => (∃ q c, e = .returned (.slice q m c) ∧ SlX (fun k => k < W.heap.size) (rStX (fun k => k < W.heap.size) n) 5 w' q c (renL f t l)) ∧ Grew W w' := by
  intro n
  induction n using Nat.strongRecOn with
  | ind n ih =>
  intro p m cap l w0 W hS hm hct hsm hg0
  subst hm
  have hmc := len_lt hS
  have HS := Lib.hid hS
  have Ih := Lib.hid ih
  have Hg0 := Lib.hid hg0
  have Hct := Lib.hid hct
  have Hsm := Lib.hid hsm
  have Ht := Lib.hid ht
  clear ih hS hg0 hct hsm ht
  go_enter Try.func36, Try.ntmps36
  go_wp2
  go_loopw [7, 8, 9, 10, 11, 12, 13] (fun out i _ _ _ _ _ wr => ∃ k : Nat, k ≤ l.length ∧ i = .int .i64 k ∧ OwnSl layS (rStX (XV W out) n wr) wr W.heap.size out (renL f t (l.take k)) ∧ Grew W wr) (fun _ i _ _ _ _ _ _ => l.length - (intOf i).toNat)
  case atStart => exact ⟨0, Nat.zero_le _, rfl, by simp only [List.take_zero, renL]; exact OwnSl.made layS _ W W.heap.size _ (Nat.le_refl _) rfl, by (repeat (first | exact Grew.refl _ | refine Grew.over ?_ _ | refine Grew.alloc ?_ _ | refine Grew.drew ?_ | refine Grew.drewN ?_ _))⟩
  case round =>
    obtain ⟨k, hk, rfl, hO, hg⟩ := hrel
    have HO := Lib.hid hO
    have Hg := Lib.hid hg
    have Hg1 := Lib.hid (Hg0.out.trans hg)
    clear hO hg
    by_cases hlt : k < l.length
    · obtain ⟨b, o, kd, nm, rs, ats, bd, rp, rc, ap, ac, bp, bc, m', hm', rfl, hb, hx, hkw, hnm, c0, c1, c2, c3, c4, hR, hA, hB⟩ := sts_el HS.out hlt
      replace c0 := Hg1.out.cellEq c0
      replace c1 := Hg1.out.cellEq c1
      replace c2 := Hg1.out.cellEq c2
      replace c3 := Hg1.out.cellEq c3
      replace c4 := Hg1.out.cellEq c4
      replace hb := Nat.lt_of_lt_of_le hb Hg1.out.below.size
      have hm1 : m' < n := by omega
      have Hm' := Lib.hid hm'
      have Hx := Lib.hid hx
      have HB := Lib.hid hB
      have HR := Lib.hid hR
      have HA := Lib.hid hA
      have Hkw := Lib.hid hkw
      have Hnm := Lib.hid hnm
      have hsz : Hid (rs.length ≤ 40 ∧ ats.length ≤ 40 ∧ smL bd ∧ cntL bd ≤ 600 ∧ (l.take k).length ≤ 600) := Lib.hid (by
        have h1 := cnt_pre l 0
        have h2 := cnt_pre (l.take k) 0
        have h3 := cnt_pre bd (inn kd 0)
        obtain ⟨rest, hr⟩ := pre_split hx 0
        rw [hr] at h1
        simp at h1
        have h4 := Hct.out
        have h5 : smL (l.take (k + 1)) := by
          have := Hsm.out
          rw [← List.take_append_drop (k + 1) l, smL_app] at this
          exact this.1
        rw [take_snoc' hx, smL_app] at h5
        simp only [smL] at h5
        exact ⟨h5.2.1, h5.2.2.1, h5.2.2.2.1, by omega, by have := cnt_len (l.take k); omega⟩)
      have Hlen := Lib.hid (show (renL f t (l.take k)).length ≤ 600 by rw [renL_len]; exact hsz.out.2.2.2.2)
      have hr40 := hsz.out.1
      have ha40 := hsz.out.2.1
      clear hx hB hR hA hkw hm' hnm
      obtain ⟨nmv, hnv⟩ : ∃ nmv, renN f t kd nm = nmv := ⟨_, rfl⟩
      have Hnv := Lib.hid hnv
      have hcs : (kd = 1 ∧ (nm.toList == f.toList) = true ∧ t = nmv) ∨ (kd = 1 ∧ (nm.toList == f.toList) = false ∧ nm = nmv) ∨ ((kd == 1) = false ∧ nm = nmv) := by
        unfold renN at hnv
        by_cases h1 : kd = 1
        · cases h2 : sq nm f
          · right; left; rw [if_neg (by rw [h2]; simp)] at hnv; exact ⟨h1, sq_raw h2, hnv⟩
          · left; rw [if_pos ⟨h1, h2⟩] at hnv; exact ⟨h1, sq_raw h2, hnv⟩
        · right; right; rw [if_neg (fun h => h1 h.1)] at hnv; exact ⟨beq_eq_false_iff_ne.2 h1, hnv⟩
      have Hnmv := Lib.hid (show nmv.size ≤ maxLen by rw [← hnv]; unfold renN; split; exact Ht.out; exact Hnm.out)
      clear hnv
      rcases hcs with ⟨rfl, q1, rfl⟩ | ⟨rfl, q1, rfl⟩ | ⟨q1, rfl⟩
      · go_wp2
        obtain ⟨w3, hw3⟩ : ∃ w3, (wr.alloc (.cells #[.int .i64 1, .string t, .slice rp rs.length rc, .slice ap ats.length ac, .slice bp bd.length bc] 43)).alloc (.cells #[] 39) = w3 := ⟨_, rfl⟩
        have HB3 := Lib.hid (BF.grew (BF.box (w := wr) (v0 := .int .i64 1) (v1 := .string t) (v2 := .slice rp rs.length rc) (v3 := .slice ap ats.length ac) (v4 := .slice bp bd.length bc) (t := 43)) (show Grew _ ((wr.alloc (.cells #[.int .i64 1, .string t, .slice rp rs.length rc, .slice ap ats.length ac, .slice bp bd.length bc] 43)).alloc (.cells #[] 39)) by (repeat (first | exact Grew.refl _ | refine Grew.over ?_ _ | refine Grew.alloc ?_ _ | refine Grew.drew ?_ | refine Grew.drewN ?_ _))))
        have Hg3 := Lib.hid (show Grew wr ((wr.alloc (.cells #[.int .i64 1, .string t, .slice rp rs.length rc, .slice ap ats.length ac, .slice bp bd.length bc] 43)).alloc (.cells #[] 39)) by (repeat (first | exact Grew.refl _ | refine Grew.over ?_ _ | refine Grew.alloc ?_ _ | refine Grew.drew ?_ | refine Grew.drewN ?_ _)))
        have HO3 := Lib.hid (show Out layref rP2c ((wr.alloc (.cells #[.int .i64 1, .string t, .slice rp rs.length rc, .slice ap ats.length ac, .slice bp bd.length bc] 43)).alloc (.cells #[] 39)) (ownX (.slice (some ⟨wr.heap.size + 1, 0, none⟩) 0 0)) (wr.heap.size + 1) ((wr.alloc (.cells #[.int .i64 1, .string t, .slice rp rs.length rc, .slice ap ats.length ac, .slice bp bd.length bc] 43)).alloc (.cells #[] 39)) (.slice (some ⟨wr.heap.size + 1, 0, none⟩) 0 0) [] from
          Out.start (OwnSl.made layref rP2c (wr.alloc (.cells #[.int .i64 1, .string t, .slice rp rs.length rc, .slice ap ats.length ac, .slice bp bd.length bc] 43)) (wr.heap.size + 1) (wr.heap.size + 1) (by simp [go_sem]) (by simp [go_sem])))
        have hsz3 : wr.heap.size + 1 < ((wr.alloc (.cells #[.int .i64 1, .string t, .slice rp rs.length rc, .slice ap ats.length ac, .slice bp bd.length bc] 43)).alloc (.cells #[] 39)).heap.size := by simp [go_sem]
        rw [hw3] at HB3 Hg3 HO3 hsz3 ⊢
        clear hw3
        obtain ⟨b1, hb1⟩ : ∃ b1, wr.heap.size + 1 = b1 := ⟨_, rfl⟩
        rw [hb1] at HO3 hsz3 ⊢
        obtain ⟨bb, hbb⟩ : ∃ bb, wr.heap.size = bb := ⟨_, rfl⟩
        rw [hbb] at HB3 hb1 ⊢
        have Hb1 := Lib.hid hb1
        have Hbb := Lib.hid hbb
        have Hsz3 := Lib.hid hsz3
        have Hgz := Lib.hid (show wr.heap.size ≤ w3.heap.size from Hg3.out.below.size)
        clear hbb hb1 hsz3
        go_loopw [10, 11, 12] (fun out i _ wv => ∃ u : Nat, u ≤ rs.length ∧ i = .int .i64 u ∧ Out layref rP2c w3 (ownX (.slice (some ⟨b1, 0, none⟩) 0 0)) b1 wv out ((rs.take u).map (renP f t))) (fun _ i _ _ => rs.length - (intOf i).toNat)
        case atStart => exact ⟨0, Nat.zero_le _, rfl, by simp only [List.take_zero, List.map_nil]; exact HO3.out.grew (by (repeat (first | exact Grew.refl _ | refine Grew.over ?_ _ | refine Grew.alloc ?_ _ | refine Grew.drew ?_ | refine Grew.drewN ?_ _)))⟩
        case round =>
          obtain ⟨u, hu, rfl, hOv⟩ := hrel
          have HOv := Lib.hid hOv
          have HBv := Lib.hid (HB3.out.gr hOv.1 (fun h => by have h2 : b1 = bb := Option.some.inj h; have := Hb1.out; omega))
          have Hgw := Lib.hid (Hg3.out.gr (fun k hk => by have h2 : b1 = k := Option.some.inj hk; have := Hb1.out; have := Hbb.out; omega) hOv.1)
          obtain ⟨⟨x0, x1, x2, x3, x4, x5⟩, xf⟩ := HBv.out
          have xf2 := xf 2
          obtain ⟨q2, cc2, rfl, hs2, hb2⟩ := hOv.2.1.slatB
          have Hs2 := Lib.hid hs2
          have Hb2 := Lib.hid hb2
          clear hOv xf hs2 hb2
          by_cases hult : u < rs.length
          · obtain ⟨b9, oo, s1, y1, rfl, hb9, e1, hs1, hy1, f1, f2⟩ := p2_el (HR.out.grew stable_p2 (Hg1.out.trans Hgw.out)) hult
            have E1 := Lib.hid e1
            have Hs1 := Lib.hid hs1
            have Hy1 := Lib.hid hy1
            have hml : ((rs.take u).map (renP f t)).length ≤ 40 := by simp; omega
            have Hml := Lib.hid hml
            clear e1 hs1 hy1 hml
            cases hq : sq s1 f
            · have hq' := sq_raw hq
              have Hn1 := Lib.hid (show (rs.take (u + 1)).map (renP f t) = (rs.take u).map (renP f t) ++ [(s1, y1)] by rw [take_snoc' E1.out, List.map_append]; simp [renP_n hq])
              clear hq
              go_wp2_with (at_builtin; refine wp_append_out rfl layref rP2c rP2c_one _ _ rfl w3 _ b1 _ ((rs.take u).map (renP f t)) [(s1, y1)] (HOv.out.grew (by (repeat (first | exact Grew.refl _ | refine Grew.over ?_ _ | refine Grew.alloc ?_ _ | refine Grew.drew ?_ | refine Grew.drewN ?_ _)))) (by have := HOv.out.1.size; have := Hsz3.out; simp [go_sem]; omega) rfl _ _ _ rfl (slat_one [.string s1, .string y1] _ (by simp [cellsAt, go_sem]) rfl (by decide) ⟨rfl, Hs1.out, Hy1.out⟩) rfl (by have := Hml.out; simp only [List.length_singleton, maxLen]; omega) (by have := Hml.out; simp only [List.length_singleton, layref]; omega) ?_; intro v6 w6 hO6; have HO6 := Lib.hid hO6; clear hO6)
              go_roundw
              case rel => exact ⟨u + 1, hult, by go_num, by rw [Hn1.out]; exact HO6.out⟩
              case measure => simp [intOf]; omega
            · have hq' := sq_raw hq
              have Hn1 := Lib.hid (show (rs.take (u + 1)).map (renP f t) = (rs.take u).map (renP f t) ++ [(t, y1)] by rw [take_snoc' E1.out, List.map_append]; simp [renP_y hq])
              clear hq
              go_wp2_with (at_builtin; refine wp_append_out rfl layref rP2c rP2c_one _ _ rfl w3 _ b1 _ ((rs.take u).map (renP f t)) [(t, y1)] (HOv.out.grew (by (repeat (first | exact Grew.refl _ | refine Grew.over ?_ _ | refine Grew.alloc ?_ _ | refine Grew.drew ?_ | refine Grew.drewN ?_ _)))) (by have := HOv.out.1.size; have := Hsz3.out; simp [go_sem]; omega) rfl _ _ _ rfl (slat_one [.string t, .string y1] _ (by simp [cellsAt, go_sem]) rfl (by decide) ⟨rfl, Ht.out, Hy1.out⟩) rfl (by have := Hml.out; simp only [List.length_singleton, maxLen]; omega) (by have := Hml.out; simp only [List.length_singleton, layref]; omega) ?_; intro v6 w6 hO6; have HO6 := Lib.hid hO6; clear hO6)
              go_roundw
              case rel => exact ⟨u + 1, hult, by go_num, by rw [Hn1.out]; exact HO6.out⟩
              case measure => simp [intOf]; omega
          · have hue : rs.take u = rs := List.take_of_length_le (by omega)
            rw [hue] at Hs2 HOv ⊢
            have hlm : (rs.map (renP f t)).length = rs.length := List.length_map _
            rw [hlm] at HOv ⊢
            have Hx2 := Lib.hid (show SlX (fun k => k ≤ bb) rP2 2 wr q2 cc2 (rs.map (renP f t)) from ⟨Hs2.out, fun _ a ha hle => by have := (Hb2.out a ha).1; have := Hb1.out; dsimp only at hle; omega⟩)
            have Hx4 := Lib.hid (Hx2.out.move (w' := wr.setCell ⟨bb, 2, none⟩ (.slice q2 rs.length cc2)) (Y := fun k => k = bb) (X' := fun k => k ≤ bb) (R' := rP2) ((Gr.refl (fun k => k = bb) wr).setCell (b := bb) rfl (.slice q2 rs.length cc2)) (fun k _ h => Nat.le_of_eq h) (fun k _ h => h) (fun _ _ h => h))
            have Hg0b := Lib.hid (show Grew w0 (wr.setCell ⟨bb, 2, none⟩ (.slice q2 rs.length cc2)) from Hg1.out.trans (Hgw.out.setCell (Nat.le_of_eq Hbb.out) _))
            clear hue hlm
            go_wp2_with (first
              | (at_builtin; refine wp_append_sl rfl layattr rP2c rP2c_one _ _ rfl wr.heap.size _ [] ats (OwnSl.made layattr rP2c (wr.setCell ⟨bb, 2, none⟩ (.slice q2 rs.length cc2)) wr.heap.size wr.heap.size (by simp [World.setCell]) (by simp [World.setCell])) (by simp [go_sem]) rfl _ _ _ rfl (HA.out.grew stable_p2 (Hg0b.out.trans (by (repeat (first | exact Grew.refl _ | refine Grew.over ?_ _ | refine Grew.alloc ?_ _ | refine Grew.drew ?_ | refine Grew.drewN ?_ _))))) rfl (by simp only [List.length_nil, maxLen]; omega) (by simp only [List.length_nil, layattr]; omega) ?_; intro v5 w5 hO5 hg5 hb5 _; have hO5' : OwnSl layattr rP2c w5 wr.heap.size v5 ats := hO5; obtain ⟨q5, c5, hv5, hs5, hf5⟩ := hO5'.slatB; have Hg45 := Lib.hid (Grew.grownBy (w0 := wr.setCell ⟨bb, 2, none⟩ (.slice q2 rs.length cc2)) (by (repeat (first | exact Grew.refl _ | refine Grew.over ?_ _ | refine Grew.alloc ?_ _ | refine Grew.drew ?_ | refine Grew.drewN ?_ _))) hg5 (fun k hk => (by have := hb5 k hk; simpa [World.setCell] using this))); subst hv5; have HB5 := Lib.hid ((HBv.out.set2 (.slice q2 rs.length cc2)).grew Hg45.out); have Hs5 := Lib.hid (show SlX (fun k => k ≤ bb) rP2 2 w5 q5 c5 ats from ⟨hs5, fun _ a ha hle => (by have := (hf5 a ha).1; dsimp only at hle; omega)⟩); have Hg5 := Lib.hid (Grew.trans (Hgw.out.setCell (Nat.le_of_eq Hbb.out) _) Hg45.out); obtain ⟨⟨y0, y1, y2, y3, y4, y5⟩, yf⟩ := HB5.out; have yf3 := yf 3; clear yf hs5 hf5 hg5 hb5 hO5 hO5')
              | (go_at_call 36; apply Calls.mono; (with_reducible exact Ih.out _ hm1 _ _ _ bd w0 _ HB.out rfl hsz.out.2.2.2.1 hsz.out.2.2.1 (Hg1.out.trans (Hg5.out.setCell (Nat.le_of_eq Hbb.out) _))); rintro e w6 ⟨⟨q6, c6, rfl, hs6⟩, hg6⟩; have HB6 := Lib.hid ((HB5.out.set3 _).grew hg6); have HEl := Lib.hid (el_ok (W := W) (u6 := .slice q6 bd.length c6) Hm'.out Hkw.out Hnmv.out Hx4.out (List.length_map _) Hg45.out Hs5.out rfl y0 hg6 hs6 (renL_len _ _ _) (fun k hk => Nat.le_trans (XV_le HO.out Hg.out k hk) (Nat.le_of_eq Hbb.out))); have Hg6 := Lib.hid ((Hg5.out.setCell (Nat.le_of_eq Hbb.out) _).trans hg6); have HOl := Lib.hid (old_ok HO.out (show Grew _ (w6.setCell ⟨bb, 4, none⟩ (.slice q6 bd.length c6)) from Hg6.out.setCell (Nat.le_of_eq Hbb.out) _)); have Hg7 := Lib.hid (show Grew W (w6.setCell ⟨bb, 4, none⟩ (.slice q6 bd.length c6)) from Hg.out.trans (Hg6.out.setCell (Nat.le_of_eq Hbb.out) _)); obtain ⟨⟨z0, z1, z2, z3, z4, z5⟩, zf⟩ := HB6.out; have zf4 := zf 4; clear zf hs6 hg6)
              | (at_builtin; refine wp_append_sl rfl layS _ rStX.one _ _ rfl W.heap.size _ (renL f t (l.take k)) _ (HOl.out.grew (by (repeat (first | exact Grew.refl _ | refine Grew.over ?_ _ | refine Grew.alloc ?_ _ | refine Grew.drew ?_ | refine Grew.drewN ?_ _)))) (Grew.trans Hg7.out (by (repeat (first | exact Grew.refl _ | refine Grew.over ?_ _ | refine Grew.alloc ?_ _ | refine Grew.drew ?_ | refine Grew.drewN ?_ _)))).below.size rfl _ _ _ rfl (slat_one _ _ (by simp [cellsAt, go_sem]) rfl (by decide) HEl.out) rfl (by have := Hlen.out; simp only [List.length_singleton, maxLen]; omega) (by have := Hlen.out; simp only [List.length_singleton, layS]; omega) ?_; intro v8 w8 hO8 hg8 hb8 hx8; have HO8 := Lib.hid (app_ok hO8 (by (repeat (first | exact Grew.refl _ | refine Grew.over ?_ _ | refine Grew.alloc ?_ _ | refine Grew.drew ?_ | refine Grew.drewN ?_ _))) hg8 hx8); have Hg8 := Lib.hid ((Hg7.out.trans (by (repeat (first | exact Grew.refl _ | refine Grew.over ?_ _ | refine Grew.alloc ?_ _ | refine Grew.drew ?_ | refine Grew.drewN ?_ _)))).grownBy hg8 hb8); clear hO8 hg8 hb8 hx8))
            have HO9 := Lib.hid (show OwnSl layS (rStX (XV W v8) n w8) w8 W.heap.size v8 (renL f t (l.take (k + 1))) by rw [renL_next Hx.out, Hnv.out]; exact HO8.out)
            go_roundw
            case rel => exact ⟨k + 1, hlt, by go_num, HO9.out, Hg8.out⟩
            case measure => simp [intOf]; omega
      · go_wp2
        obtain ⟨w3, hw3⟩ : ∃ w3, (wr.alloc (.cells #[.int .i64 1, .string nm, .slice rp rs.length rc, .slice ap ats.length ac, .slice bp bd.length bc] 43)).alloc (.cells #[] 39) = w3 := ⟨_, rfl⟩
        have HB3 := Lib.hid (BF.grew (BF.box (w := wr) (v0 := .int .i64 1) (v1 := .string nm) (v2 := .slice rp rs.length rc) (v3 := .slice ap ats.length ac) (v4 := .slice bp bd.length bc) (t := 43)) (show Grew _ ((wr.alloc (.cells #[.int .i64 1, .string nm, .slice rp rs.length rc, .slice ap ats.length ac, .slice bp bd.length bc] 43)).alloc (.cells #[] 39)) by (repeat (first | exact Grew.refl _ | refine Grew.over ?_ _ | refine Grew.alloc ?_ _ | refine Grew.drew ?_ | refine Grew.drewN ?_ _))))
        have Hg3 := Lib.hid (show Grew wr ((wr.alloc (.cells #[.int .i64 1, .string nm, .slice rp rs.length rc, .slice ap ats.length ac, .slice bp bd.length bc] 43)).alloc (.cells #[] 39)) by (repeat (first | exact Grew.refl _ | refine Grew.over ?_ _ | refine Grew.alloc ?_ _ | refine Grew.drew ?_ | refine Grew.drewN ?_ _)))
        have HO3 := Lib.hid (show Out layref rP2c ((wr.alloc (.cells #[.int .i64 1, .string nm, .slice rp rs.length rc, .slice ap ats.length ac, .slice bp bd.length bc] 43)).alloc (.cells #[] 39)) (ownX (.slice (some ⟨wr.heap.size + 1, 0, none⟩) 0 0)) (wr.heap.size + 1) ((wr.alloc (.cells #[.int .i64 1, .string nm, .slice rp rs.length rc, .slice ap ats.length ac, .slice bp bd.length bc] 43)).alloc (.cells #[] 39)) (.slice (some ⟨wr.heap.size + 1, 0, none⟩) 0 0) [] from
          Out.start (OwnSl.made layref rP2c (wr.alloc (.cells #[.int .i64 1, .string nm, .slice rp rs.length rc, .slice ap ats.length ac, .slice bp bd.length bc] 43)) (wr.heap.size + 1) (wr.heap.size + 1) (by simp [go_sem]) (by simp [go_sem])))
        have hsz3 : wr.heap.size + 1 < ((wr.alloc (.cells #[.int .i64 1, .string nm, .slice rp rs.length rc, .slice ap ats.length ac, .slice bp bd.length bc] 43)).alloc (.cells #[] 39)).heap.size := by simp [go_sem]
        rw [hw3] at HB3 Hg3 HO3 hsz3 ⊢
        clear hw3
        obtain ⟨b1, hb1⟩ : ∃ b1, wr.heap.size + 1 = b1 := ⟨_, rfl⟩
        rw [hb1] at HO3 hsz3 ⊢
        obtain ⟨bb, hbb⟩ : ∃ bb, wr.heap.size = bb := ⟨_, rfl⟩
        rw [hbb] at HB3 hb1 ⊢
        have Hb1 := Lib.hid hb1
        have Hbb := Lib.hid hbb
        have Hsz3 := Lib.hid hsz3
        have Hgz := Lib.hid (show wr.heap.size ≤ w3.heap.size from Hg3.out.below.size)
        clear hbb hb1 hsz3
        go_loopw [10, 11, 12] (fun out i _ wv => ∃ u : Nat, u ≤ rs.length ∧ i = .int .i64 u ∧ Out layref rP2c w3 (ownX (.slice (some ⟨b1, 0, none⟩) 0 0)) b1 wv out ((rs.take u).map (renP f t))) (fun _ i _ _ => rs.length - (intOf i).toNat)
        case atStart => exact ⟨0, Nat.zero_le _, rfl, by simp only [List.take_zero, List.map_nil]; exact HO3.out.grew (by (repeat (first | exact Grew.refl _ | refine Grew.over ?_ _ | refine Grew.alloc ?_ _ | refine Grew.drew ?_ | refine Grew.drewN ?_ _)))⟩
        case round =>
          obtain ⟨u, hu, rfl, hOv⟩ := hrel
          have HOv := Lib.hid hOv
          have HBv := Lib.hid (HB3.out.gr hOv.1 (fun h => by have h2 : b1 = bb := Option.some.inj h; have := Hb1.out; omega))
          have Hgw := Lib.hid (Hg3.out.gr (fun k hk => by have h2 : b1 = k := Option.some.inj hk; have := Hb1.out; have := Hbb.out; omega) hOv.1)
          obtain ⟨⟨x0, x1, x2, x3, x4, x5⟩, xf⟩ := HBv.out
          have xf2 := xf 2
          obtain ⟨q2, cc2, rfl, hs2, hb2⟩ := hOv.2.1.slatB
          have Hs2 := Lib.hid hs2
          have Hb2 := Lib.hid hb2
          clear hOv xf hs2 hb2
          by_cases hult : u < rs.length
          · obtain ⟨b9, oo, s1, y1, rfl, hb9, e1, hs1, hy1, f1, f2⟩ := p2_el (HR.out.grew stable_p2 (Hg1.out.trans Hgw.out)) hult
            have E1 := Lib.hid e1
            have Hs1 := Lib.hid hs1
            have Hy1 := Lib.hid hy1
            have hml : ((rs.take u).map (renP f t)).length ≤ 40 := by simp; omega
            have Hml := Lib.hid hml
            clear e1 hs1 hy1 hml
            cases hq : sq s1 f
            · have hq' := sq_raw hq
              have Hn1 := Lib.hid (show (rs.take (u + 1)).map (renP f t) = (rs.take u).map (renP f t) ++ [(s1, y1)] by rw [take_snoc' E1.out, List.map_append]; simp [renP_n hq])
              clear hq
              go_wp2_with (at_builtin; refine wp_append_out rfl layref rP2c rP2c_one _ _ rfl w3 _ b1 _ ((rs.take u).map (renP f t)) [(s1, y1)] (HOv.out.grew (by (repeat (first | exact Grew.refl _ | refine Grew.over ?_ _ | refine Grew.alloc ?_ _ | refine Grew.drew ?_ | refine Grew.drewN ?_ _)))) (by have := HOv.out.1.size; have := Hsz3.out; simp [go_sem]; omega) rfl _ _ _ rfl (slat_one [.string s1, .string y1] _ (by simp [cellsAt, go_sem]) rfl (by decide) ⟨rfl, Hs1.out, Hy1.out⟩) rfl (by have := Hml.out; simp only [List.length_singleton, maxLen]; omega) (by have := Hml.out; simp only [List.length_singleton, layref]; omega) ?_; intro v6 w6 hO6; have HO6 := Lib.hid hO6; clear hO6)
              go_roundw
              case rel => exact ⟨u + 1, hult, by go_num, by rw [Hn1.out]; exact HO6.out⟩
              case measure => simp [intOf]; omega
            · have hq' := sq_raw hq
              have Hn1 := Lib.hid (show (rs.take (u + 1)).map (renP f t) = (rs.take u).map (renP f t) ++ [(t, y1)] by rw [take_snoc' E1.out, List.map_append]; simp [renP_y hq])
              clear hq
              go_wp2_with (at_builtin; refine wp_append_out rfl layref rP2c rP2c_one _ _ rfl w3 _ b1 _ ((rs.take u).map (renP f t)) [(t, y1)] (HOv.out.grew (by (repeat (first | exact Grew.refl _ | refine Grew.over ?_ _ | refine Grew.alloc ?_ _ | refine Grew.drew ?_ | refine Grew.drewN ?_ _)))) (by have := HOv.out.1.size; have := Hsz3.out; simp [go_sem]; omega) rfl _ _ _ rfl (slat_one [.string t, .string y1] _ (by simp [cellsAt, go_sem]) rfl (by decide) ⟨rfl, Ht.out, Hy1.out⟩) rfl (by have := Hml.out; simp only [List.length_singleton, maxLen]; omega) (by have := Hml.out; simp only [List.length_singleton, layref]; omega) ?_; intro v6 w6 hO6; have HO6 := Lib.hid hO6; clear hO6)
              go_roundw
              case rel => exact ⟨u + 1, hult, by go_num, by rw [Hn1.out]; exact HO6.out⟩
              case measure => simp [intOf]; omega
          · have hue : rs.take u = rs := List.take_of_length_le (by omega)
            rw [hue] at Hs2 HOv ⊢
            have hlm : (rs.map (renP f t)).length = rs.length := List.length_map _
            rw [hlm] at HOv ⊢
            have Hx2 := Lib.hid (show SlX (fun k => k ≤ bb) rP2 2 wr q2 cc2 (rs.map (renP f t)) from ⟨Hs2.out, fun _ a ha hle => by have := (Hb2.out a ha).1; have := Hb1.out; dsimp only at hle; omega⟩)
            have Hx4 := Lib.hid (Hx2.out.move (w' := wr.setCell ⟨bb, 2, none⟩ (.slice q2 rs.length cc2)) (Y := fun k => k = bb) (X' := fun k => k ≤ bb) (R' := rP2) ((Gr.refl (fun k => k = bb) wr).setCell (b := bb) rfl (.slice q2 rs.length cc2)) (fun k _ h => Nat.le_of_eq h) (fun k _ h => h) (fun _ _ h => h))
            have Hg0b := Lib.hid (show Grew w0 (wr.setCell ⟨bb, 2, none⟩ (.slice q2 rs.length cc2)) from Hg1.out.trans (Hgw.out.setCell (Nat.le_of_eq Hbb.out) _))
            clear hue hlm
            go_wp2_with (first
              | (at_builtin; refine wp_append_sl rfl layattr rP2c rP2c_one _ _ rfl wr.heap.size _ [] ats (OwnSl.made layattr rP2c (wr.setCell ⟨bb, 2, none⟩ (.slice q2 rs.length cc2)) wr.heap.size wr.heap.size (by simp [World.setCell]) (by simp [World.setCell])) (by simp [go_sem]) rfl _ _ _ rfl (HA.out.grew stable_p2 (Hg0b.out.trans (by (repeat (first | exact Grew.refl _ | refine Grew.over ?_ _ | refine Grew.alloc ?_ _ | refine Grew.drew ?_ | refine Grew.drewN ?_ _))))) rfl (by simp only [List.length_nil, maxLen]; omega) (by simp only [List.length_nil, layattr]; omega) ?_; intro v5 w5 hO5 hg5 hb5 _; have hO5' : OwnSl layattr rP2c w5 wr.heap.size v5 ats := hO5; obtain ⟨q5, c5, hv5, hs5, hf5⟩ := hO5'.slatB; have Hg45 := Lib.hid (Grew.grownBy (w0 := wr.setCell ⟨bb, 2, none⟩ (.slice q2 rs.length cc2)) (by (repeat (first | exact Grew.refl _ | refine Grew.over ?_ _ | refine Grew.alloc ?_ _ | refine Grew.drew ?_ | refine Grew.drewN ?_ _))) hg5 (fun k hk => (by have := hb5 k hk; simpa [World.setCell] using this))); subst hv5; have HB5 := Lib.hid ((HBv.out.set2 (.slice q2 rs.length cc2)).grew Hg45.out); have Hs5 := Lib.hid (show SlX (fun k => k ≤ bb) rP2 2 w5 q5 c5 ats from ⟨hs5, fun _ a ha hle => (by have := (hf5 a ha).1; dsimp only at hle; omega)⟩); have Hg5 := Lib.hid (Grew.trans (Hgw.out.setCell (Nat.le_of_eq Hbb.out) _) Hg45.out); obtain ⟨⟨y0, y1, y2, y3, y4, y5⟩, yf⟩ := HB5.out; have yf3 := yf 3; clear yf hs5 hf5 hg5 hb5 hO5 hO5')
              | (go_at_call 36; apply Calls.mono; (with_reducible exact Ih.out _ hm1 _ _ _ bd w0 _ HB.out rfl hsz.out.2.2.2.1 hsz.out.2.2.1 (Hg1.out.trans (Hg5.out.setCell (Nat.le_of_eq Hbb.out) _))); rintro e w6 ⟨⟨q6, c6, rfl, hs6⟩, hg6⟩; have HB6 := Lib.hid ((HB5.out.set3 _).grew hg6); have HEl := Lib.hid (el_ok (W := W) (u6 := .slice q6 bd.length c6) Hm'.out Hkw.out Hnmv.out Hx4.out (List.length_map _) Hg45.out Hs5.out rfl y0 hg6 hs6 (renL_len _ _ _) (fun k hk => Nat.le_trans (XV_le HO.out Hg.out k hk) (Nat.le_of_eq Hbb.out))); have Hg6 := Lib.hid ((Hg5.out.setCell (Nat.le_of_eq Hbb.out) _).trans hg6); have HOl := Lib.hid (old_ok HO.out (show Grew _ (w6.setCell ⟨bb, 4, none⟩ (.slice q6 bd.length c6)) from Hg6.out.setCell (Nat.le_of_eq Hbb.out) _)); have Hg7 := Lib.hid (show Grew W (w6.setCell ⟨bb, 4, none⟩ (.slice q6 bd.length c6)) from Hg.out.trans (Hg6.out.setCell (Nat.le_of_eq Hbb.out) _)); obtain ⟨⟨z0, z1, z2, z3, z4, z5⟩, zf⟩ := HB6.out; have zf4 := zf 4; clear zf hs6 hg6)
              | (at_builtin; refine wp_append_sl rfl layS _ rStX.one _ _ rfl W.heap.size _ (renL f t (l.take k)) _ (HOl.out.grew (by (repeat (first | exact Grew.refl _ | refine Grew.over ?_ _ | refine Grew.alloc ?_ _ | refine Grew.drew ?_ | refine Grew.drewN ?_ _)))) (Grew.trans Hg7.out (by (repeat (first | exact Grew.refl _ | refine Grew.over ?_ _ | refine Grew.alloc ?_ _ | refine Grew.drew ?_ | refine Grew.drewN ?_ _)))).below.size rfl _ _ _ rfl (slat_one _ _ (by simp [cellsAt, go_sem]) rfl (by decide) HEl.out) rfl (by have := Hlen.out; simp only [List.length_singleton, maxLen]; omega) (by have := Hlen.out; simp only [List.length_singleton, layS]; omega) ?_; intro v8 w8 hO8 hg8 hb8 hx8; have HO8 := Lib.hid (app_ok hO8 (by (repeat (first | exact Grew.refl _ | refine Grew.over ?_ _ | refine Grew.alloc ?_ _ | refine Grew.drew ?_ | refine Grew.drewN ?_ _))) hg8 hx8); have Hg8 := Lib.hid ((Hg7.out.trans (by (repeat (first | exact Grew.refl _ | refine Grew.over ?_ _ | refine Grew.alloc ?_ _ | refine Grew.drew ?_ | refine Grew.drewN ?_ _)))).grownBy hg8 hb8); clear hO8 hg8 hb8 hx8))
            have HO9 := Lib.hid (show OwnSl layS (rStX (XV W v8) n w8) w8 W.heap.size v8 (renL f t (l.take (k + 1))) by rw [renL_next Hx.out, Hnv.out]; exact HO8.out)
            go_roundw
            case rel => exact ⟨k + 1, hlt, by go_num, HO9.out, Hg8.out⟩
            case measure => simp [intOf]; omega
      · go_wp2
        obtain ⟨w3, hw3⟩ : ∃ w3, (wr.alloc (.cells #[.int .i64 kd, .string nm, .slice rp rs.length rc, .slice ap ats.length ac, .slice bp bd.length bc] 43)).alloc (.cells #[] 39) = w3 := ⟨_, rfl⟩
        have HB3 := Lib.hid (BF.grew (BF.box (w := wr) (v0 := .int .i64 kd) (v1 := .string nm) (v2 := .slice rp rs.length rc) (v3 := .slice ap ats.length ac) (v4 := .slice bp bd.length bc) (t := 43)) (show Grew _ ((wr.alloc (.cells #[.int .i64 kd, .string nm, .slice rp rs.length rc, .slice ap ats.length ac, .slice bp bd.length bc] 43)).alloc (.cells #[] 39)) by (repeat (first | exact Grew.refl _ | refine Grew.over ?_ _ | refine Grew.alloc ?_ _ | refine Grew.drew ?_ | refine Grew.drewN ?_ _))))
        have Hg3 := Lib.hid (show Grew wr ((wr.alloc (.cells #[.int .i64 kd, .string nm, .slice rp rs.length rc, .slice ap ats.length ac, .slice bp bd.length bc] 43)).alloc (.cells #[] 39)) by (repeat (first | exact Grew.refl _ | refine Grew.over ?_ _ | refine Grew.alloc ?_ _ | refine Grew.drew ?_ | refine Grew.drewN ?_ _)))
        have HO3 := Lib.hid (show Out layref rP2c ((wr.alloc (.cells #[.int .i64 kd, .string nm, .slice rp rs.length rc, .slice ap ats.length ac, .slice bp bd.length bc] 43)).alloc (.cells #[] 39)) (ownX (.slice (some ⟨wr.heap.size + 1, 0, none⟩) 0 0)) (wr.heap.size + 1) ((wr.alloc (.cells #[.int .i64 kd, .string nm, .slice rp rs.length rc, .slice ap ats.length ac, .slice bp bd.length bc] 43)).alloc (.cells #[] 39)) (.slice (some ⟨wr.heap.size + 1, 0, none⟩) 0 0) [] from
          Out.start (OwnSl.made layref rP2c (wr.alloc (.cells #[.int .i64 kd, .string nm, .slice rp rs.length rc, .slice ap ats.length ac, .slice bp bd.length bc] 43)) (wr.heap.size + 1) (wr.heap.size + 1) (by simp [go_sem]) (by simp [go_sem])))
        have hsz3 : wr.heap.size + 1 < ((wr.alloc (.cells #[.int .i64 kd, .string nm, .slice rp rs.length rc, .slice ap ats.length ac, .slice bp bd.length bc] 43)).alloc (.cells #[] 39)).heap.size := by simp [go_sem]
        rw [hw3] at HB3 Hg3 HO3 hsz3 ⊢
        clear hw3
        obtain ⟨b1, hb1⟩ : ∃ b1, wr.heap.size + 1 = b1 := ⟨_, rfl⟩
        rw [hb1] at HO3 hsz3 ⊢
        obtain ⟨bb, hbb⟩ : ∃ bb, wr.heap.size = bb := ⟨_, rfl⟩
        rw [hbb] at HB3 hb1 ⊢
        have Hb1 := Lib.hid hb1
        have Hbb := Lib.hid hbb
        have Hsz3 := Lib.hid hsz3
        have Hgz := Lib.hid (show wr.heap.size ≤ w3.heap.size from Hg3.out.below.size)
        clear hbb hb1 hsz3
        go_loopw [10, 11, 12] (fun out i _ wv => ∃ u : Nat, u ≤ rs.length ∧ i = .int .i64 u ∧ Out layref rP2c w3 (ownX (.slice (some ⟨b1, 0, none⟩) 0 0)) b1 wv out ((rs.take u).map (renP f t))) (fun _ i _ _ => rs.length - (intOf i).toNat)
        case atStart => exact ⟨0, Nat.zero_le _, rfl, by simp only [List.take_zero, List.map_nil]; exact HO3.out.grew (by (repeat (first | exact Grew.refl _ | refine Grew.over ?_ _ | refine Grew.alloc ?_ _ | refine Grew.drew ?_ | refine Grew.drewN ?_ _)))⟩
        case round =>
          obtain ⟨u, hu, rfl, hOv⟩ := hrel
          have HOv := Lib.hid hOv
          have HBv := Lib.hid (HB3.out.gr hOv.1 (fun h => by have h2 : b1 = bb := Option.some.inj h; have := Hb1.out; omega))
          have Hgw := Lib.hid (Hg3.out.gr (fun k hk => by have h2 : b1 = k := Option.some.inj hk; have := Hb1.out; have := Hbb.out; omega) hOv.1)
          obtain ⟨⟨x0, x1, x2, x3, x4, x5⟩, xf⟩ := HBv.out
          have xf2 := xf 2
          obtain ⟨q2, cc2, rfl, hs2, hb2⟩ := hOv.2.1.slatB
          have Hs2 := Lib.hid hs2
          have Hb2 := Lib.hid hb2
          clear hOv xf hs2 hb2
          by_cases hult : u < rs.length
          · obtain ⟨b9, oo, s1, y1, rfl, hb9, e1, hs1, hy1, f1, f2⟩ := p2_el (HR.out.grew stable_p2 (Hg1.out.trans Hgw.out)) hult
            have E1 := Lib.hid e1
            have Hs1 := Lib.hid hs1
            have Hy1 := Lib.hid hy1
            have hml : ((rs.take u).map (renP f t)).length ≤ 40 := by simp; omega
            have Hml := Lib.hid hml
            clear e1 hs1 hy1 hml
            cases hq : sq s1 f
            · have hq' := sq_raw hq
              have Hn1 := Lib.hid (show (rs.take (u + 1)).map (renP f t) = (rs.take u).map (renP f t) ++ [(s1, y1)] by rw [take_snoc' E1.out, List.map_append]; simp [renP_n hq])
              clear hq
              go_wp2_with (at_builtin; refine wp_append_out rfl layref rP2c rP2c_one _ _ rfl w3 _ b1 _ ((rs.take u).map (renP f t)) [(s1, y1)] (HOv.out.grew (by (repeat (first | exact Grew.refl _ | refine Grew.over ?_ _ | refine Grew.alloc ?_ _ | refine Grew.drew ?_ | refine Grew.drewN ?_ _)))) (by have := HOv.out.1.size; have := Hsz3.out; simp [go_sem]; omega) rfl _ _ _ rfl (slat_one [.string s1, .string y1] _ (by simp [cellsAt, go_sem]) rfl (by decide) ⟨rfl, Hs1.out, Hy1.out⟩) rfl (by have := Hml.out; simp only [List.length_singleton, maxLen]; omega) (by have := Hml.out; simp only [List.length_singleton, layref]; omega) ?_; intro v6 w6 hO6; have HO6 := Lib.hid hO6; clear hO6)
              go_roundw
              case rel => exact ⟨u + 1, hult, by go_num, by rw [Hn1.out]; exact HO6.out⟩
              case measure => simp [intOf]; omega
            · have hq' := sq_raw hq
              have Hn1 := Lib.hid (show (rs.take (u + 1)).map (renP f t) = (rs.take u).map (renP f t) ++ [(t, y1)] by rw [take_snoc' E1.out, List.map_append]; simp [renP_y hq])
              clear hq
              go_wp2_with (at_builtin; refine wp_append_out rfl layref rP2c rP2c_one _ _ rfl w3 _ b1 _ ((rs.take u).map (renP f t)) [(t, y1)] (HOv.out.grew (by (repeat (first | exact Grew.refl _ | refine Grew.over ?_ _ | refine Grew.alloc ?_ _ | refine Grew.drew ?_ | refine Grew.drewN ?_ _)))) (by have := HOv.out.1.size; have := Hsz3.out; simp [go_sem]; omega) rfl _ _ _ rfl (slat_one [.string t, .string y1] _ (by simp [cellsAt, go_sem]) rfl (by decide) ⟨rfl, Ht.out, Hy1.out⟩) rfl (by have := Hml.out; simp only [List.length_singleton, maxLen]; omega) (by have := Hml.out; simp only [List.length_singleton, layref]; omega) ?_; intro v6 w6 hO6; have HO6 := Lib.hid hO6; clear hO6)
              go_roundw
              case rel => exact ⟨u + 1, hult, by go_num, by rw [Hn1.out]; exact HO6.out⟩
              case measure => simp [intOf]; omega
          · have hue : rs.take u = rs := List.take_of_length_le (by omega)
            rw [hue] at Hs2 HOv ⊢
            have hlm : (rs.map (renP f t)).length = rs.length := List.length_map _
            rw [hlm] at HOv ⊢
            have Hx2 := Lib.hid (show SlX (fun k => k ≤ bb) rP2 2 wr q2 cc2 (rs.map (renP f t)) from ⟨Hs2.out, fun _ a ha hle => by have := (Hb2.out a ha).1; have := Hb1.out; dsimp only at hle; omega⟩)
            have Hx4 := Lib.hid (Hx2.out.move (w' := wr.setCell ⟨bb, 2, none⟩ (.slice q2 rs.length cc2)) (Y := fun k => k = bb) (X' := fun k => k ≤ bb) (R' := rP2) ((Gr.refl (fun k => k = bb) wr).setCell (b := bb) rfl (.slice q2 rs.length cc2)) (fun k _ h => Nat.le_of_eq h) (fun k _ h => h) (fun _ _ h => h))
            have Hg0b := Lib.hid (show Grew w0 (wr.setCell ⟨bb, 2, none⟩ (.slice q2 rs.length cc2)) from Hg1.out.trans (Hgw.out.setCell (Nat.le_of_eq Hbb.out) _))
            clear hue hlm
            go_wp2_with (first
              | (at_builtin; refine wp_append_sl rfl layattr rP2c rP2c_one _ _ rfl wr.heap.size _ [] ats (OwnSl.made layattr rP2c (wr.setCell ⟨bb, 2, none⟩ (.slice q2 rs.length cc2)) wr.heap.size wr.heap.size (by simp [World.setCell]) (by simp [World.setCell])) (by simp [go_sem]) rfl _ _ _ rfl (HA.out.grew stable_p2 (Hg0b.out.trans (by (repeat (first | exact Grew.refl _ | refine Grew.over ?_ _ | refine Grew.alloc ?_ _ | refine Grew.drew ?_ | refine Grew.drewN ?_ _))))) rfl (by simp only [List.length_nil, maxLen]; omega) (by simp only [List.length_nil, layattr]; omega) ?_; intro v5 w5 hO5 hg5 hb5 _; have hO5' : OwnSl layattr rP2c w5 wr.heap.size v5 ats := hO5; obtain ⟨q5, c5, hv5, hs5, hf5⟩ := hO5'.slatB; have Hg45 := Lib.hid (Grew.grownBy (w0 := wr.setCell ⟨bb, 2, none⟩ (.slice q2 rs.length cc2)) (by (repeat (first | exact Grew.refl _ | refine Grew.over ?_ _ | refine Grew.alloc ?_ _ | refine Grew.drew ?_ | refine Grew.drewN ?_ _))) hg5 (fun k hk => (by have := hb5 k hk; simpa [World.setCell] using this))); subst hv5; have HB5 := Lib.hid ((HBv.out.set2 (.slice q2 rs.length cc2)).grew Hg45.out); have Hs5 := Lib.hid (show SlX (fun k => k ≤ bb) rP2 2 w5 q5 c5 ats from ⟨hs5, fun _ a ha hle => (by have := (hf5 a ha).1; dsimp only at hle; omega)⟩); have Hg5 := Lib.hid (Grew.trans (Hgw.out.setCell (Nat.le_of_eq Hbb.out) _) Hg45.out); obtain ⟨⟨y0, y1, y2, y3, y4, y5⟩, yf⟩ := HB5.out; have yf3 := yf 3; clear yf hs5 hf5 hg5 hb5 hO5 hO5')
              | (go_at_call 36; apply Calls.mono; (with_reducible exact Ih.out _ hm1 _ _ _ bd w0 _ HB.out rfl hsz.out.2.2.2.1 hsz.out.2.2.1 (Hg1.out.trans (Hg5.out.setCell (Nat.le_of_eq Hbb.out) _))); rintro e w6 ⟨⟨q6, c6, rfl, hs6⟩, hg6⟩; have HB6 := Lib.hid ((HB5.out.set3 _).grew hg6); have HEl := Lib.hid (el_ok (W := W) (u6 := .slice q6 bd.length c6) Hm'.out Hkw.out Hnmv.out Hx4.out (List.length_map _) Hg45.out Hs5.out rfl y0 hg6 hs6 (renL_len _ _ _) (fun k hk => Nat.le_trans (XV_le HO.out Hg.out k hk) (Nat.le_of_eq Hbb.out))); have Hg6 := Lib.hid ((Hg5.out.setCell (Nat.le_of_eq Hbb.out) _).trans hg6); have HOl := Lib.hid (old_ok HO.out (show Grew _ (w6.setCell ⟨bb, 4, none⟩ (.slice q6 bd.length c6)) from Hg6.out.setCell (Nat.le_of_eq Hbb.out) _)); have Hg7 := Lib.hid (show Grew W (w6.setCell ⟨bb, 4, none⟩ (.slice q6 bd.length c6)) from Hg.out.trans (Hg6.out.setCell (Nat.le_of_eq Hbb.out) _)); obtain ⟨⟨z0, z1, z2, z3, z4, z5⟩, zf⟩ := HB6.out; have zf4 := zf 4; clear zf hs6 hg6)
              | (at_builtin; refine wp_append_sl rfl layS _ rStX.one _ _ rfl W.heap.size _ (renL f t (l.take k)) _ (HOl.out.grew (by (repeat (first | exact Grew.refl _ | refine Grew.over ?_ _ | refine Grew.alloc ?_ _ | refine Grew.drew ?_ | refine Grew.drewN ?_ _)))) (Grew.trans Hg7.out (by (repeat (first | exact Grew.refl _ | refine Grew.over ?_ _ | refine Grew.alloc ?_ _ | refine Grew.drew ?_ | refine Grew.drewN ?_ _)))).below.size rfl _ _ _ rfl (slat_one _ _ (by simp [cellsAt, go_sem]) rfl (by decide) HEl.out) rfl (by have := Hlen.out; simp only [List.length_singleton, maxLen]; omega) (by have := Hlen.out; simp only [List.length_singleton, layS]; omega) ?_; intro v8 w8 hO8 hg8 hb8 hx8; have HO8 := Lib.hid (app_ok hO8 (by (repeat (first | exact Grew.refl _ | refine Grew.over ?_ _ | refine Grew.alloc ?_ _ | refine Grew.drew ?_ | refine Grew.drewN ?_ _))) hg8 hx8); have Hg8 := Lib.hid ((Hg7.out.trans (by (repeat (first | exact Grew.refl _ | refine Grew.over ?_ _ | refine Grew.alloc ?_ _ | refine Grew.drew ?_ | refine Grew.drewN ?_ _)))).grownBy hg8 hb8); clear hO8 hg8 hb8 hx8))
            have HO9 := Lib.hid (show OwnSl layS (rStX (XV W v8) n w8) w8 W.heap.size v8 (renL f t (l.take (k + 1))) by rw [renL_next Hx.out, Hnv.out]; exact HO8.out)
            go_roundw
            case rel => exact ⟨k + 1, hlt, by go_num, HO9.out, Hg8.out⟩
            case measure => simp [intOf]; omega
    · have htk : l.take k = l := List.take_of_length_le (by omega)
      rw [htk] at HO
      obtain ⟨q, c, rfl, hs⟩ := end_ok HO.out (Grew.refl _)
      have Hs := Lib.hid hs
      clear hs
      rw [renL_len] at HO
      go_wp2
      go_ret
      exact ⟨⟨q, c, by simp [renL_len], (Hs.out : SlX _ _ _ _ _ _ _).move (Y := fun _ => False) (Gr.of_grew _ (by (repeat (first | exact Grew.refl _ | refine Grew.over ?_ _ | refine Grew.alloc ?_ _ | refine Grew.drew ?_ | refine Grew.drewN ?_ _)))) (fun _ _ h => h.elim) (fun _ _ h => h) (fun _ _ h => h)⟩, Hg.out.trans (by (repeat (first | exact Grew.refl _ | refine Grew.over ?_ _ | refine Grew.alloc ?_ _ | refine Grew.drew ?_ | refine Grew.drewN ?_ _)))⟩
end Go.Proofs.Ytbamckfjikpjlaa
