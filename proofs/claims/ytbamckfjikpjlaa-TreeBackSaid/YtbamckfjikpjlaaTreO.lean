/- Equality of trees: of the reference. -/
import Derived.Test.YtbamckfjikpjlaaTreN
import Derived.Test.YtbamckfjikpjlaaTreH
set_option linter.unusedSimpArgs false
set_option linter.unusedVariables false
namespace Go.Proofs.Ytbamckfjikpjlaa
open Go.RowKit
attribute [local go_sem ↓] Go.wp_at_zero Go.wp_at_succ

theorem box2 (w : World) (a0 a1 a2 a3 a4 b0 b1 b2 b3 b4 : Value) (t s : TypeId) : Bx5 ((w.alloc (.cells #[a0, a1, a2, a3, a4] t)).alloc (.cells #[b0, b1, b2, b3, b4] s)).drew w.heap.size a0 a1 a2 a3 a4 ∧
    Bx5 ((w.alloc (.cells #[a0, a1, a2, a3, a4] t)).alloc (.cells #[b0, b1, b2, b3, b4] s)).drew (w.heap.size + 1) b0 b1 b2 b3 b4 := by
  refine ⟨⟨by simp [go_sem]; try omega, ?_, ?_, ?_, ?_, ?_⟩, ⟨by simp [go_sem]; try omega, ?_, ?_, ?_, ?_, ?_⟩⟩ <;> simp [go_sem]
theorem st_ne {x y : List St} {j : Nat} {k k' : Int} {nm nm' : ByteArray} {rs rs' ats ats' : List P2} {bd bd' : List St} {r : Bool} (hr : lEq x y = r) (h1 : x[j]? = some (.mk k nm rs ats bd)) (h2 : y[j]? = some (.mk k' nm' rs' ats' bd'))
    (h : ¬ (k = k' ∧ nm = nm' ∧ rs = rs' ∧ ats = ats' ∧ bd = bd')) : r = false :=
  hr.symm.trans (lEq_n fun e => by
    subst e
    rw [h1] at h2
    exact h (st_inj.1 (Option.some.inj h2)))

set_option maxHeartbeats 8000000 in
set_option maxRecDepth 4000 in
theorem stmts_r : ∀ (n : Nat) (p q : Option Addr) (m c k d : Nat) (x y : List St) (w : World) (_ : Sts n w p c x) (_ : Sts n w q d y) (_ : x.length = m) (_ : y.length = k),
    Calls Try.prog 37 #[.slice p m c, .slice q k d] w fun e w' => e = .returned (.bool (lEq x y)) ∧ Grew w w' := by
  intro n
  induction n using Nat.strongRecOn with
  | ind n ih =>
  intro p q m c k d x y w hx hy hm hk
  subst hm hk
  have Ih := Lib.hid ih
  obtain ⟨r, hr⟩ : ∃ r, lEq x y = r := ⟨_, rfl⟩
  have Hr := Lib.hid hr
  have Hx := Lib.hid hx
  have Hy := Lib.hid hy
  have hxl := len_lt hx
  have hyl := len_lt hy
  rw [hr]
  clear hr hx hy ih
  by_cases hl : x.length = y.length
  case neg =>
    have H := Lib.hid (Hr.out.symm.trans (lEq_n (fun h => hl (by rw [h]))))
    go_enter Try.func37, Try.ntmps37
    go_wp2
    go_ret
    exact ⟨ret_bool H.out.symm, by (repeat (first | exact Grew.refl _ | refine Grew.over ?_ _ | refine Grew.alloc ?_ _ | refine Grew.drew ?_ | refine Grew.drewN ?_ _))⟩
  have hne : ((x.length : Int) != (y.length : Int)) = false := by rw [hl]; simp
  have hle : x.length ≤ y.length := by omega
  have Hl := Lib.hid hl
  clear hl
  go_enter Try.func37, Try.ntmps37
  go_wp2
  go_loopw [5, 6, 7, 8, 9] (fun i _ _ _ _ wr => ∃ j : Nat, j ≤ x.length ∧ i = .int .i64 j ∧ (∀ u, u < j → x[u]? = y[u]?) ∧ Grew w wr) (fun i _ _ _ _ _ => x.length - (intOf i).toNat)
  case atStart => exact ⟨0, Nat.zero_le _, rfl, fun j hj => by omega, by (repeat (first | exact Grew.refl _ | refine Grew.over ?_ _ | refine Grew.alloc ?_ _ | refine Grew.drew ?_ | refine Grew.drewN ?_ _))⟩
  case round =>
    obtain ⟨j, hj, rfl, hall, hg⟩ := hrel
    have Hall := Lib.hid hall
    have Hg := Lib.hid hg
    clear hall hg
    by_cases hlt : j < x.length
    · have hlt' : j < y.length := by omega
      obtain ⟨b, o, kd, nm, rs, ats, bd, rp, rc, ap, ac, bp, bc, m1, hm1, rfl, hb, h1, -, -, c0, c1, c2, c3, c4, hR, hA, hB⟩ := sts_el (Hx.out.grew (stable_st _) Hg.out) hlt
      obtain ⟨b', o', kd', nm', rs', ats', bd', rp', rc', ap', ac', bp', bc', m2, hm2, rfl, hb', h2, -, -, d0, d1, d2, d3, d4, hR', hA', hB'⟩ := sts_el (Hy.out.grew (stable_st _) Hg.out) hlt'
      have hmm : m2 = m1 := by omega
      subst hmm
      have hlm : m2 < n := by omega
      clear hm1 hm2
      have H1 := Lib.hid h1
      have H2 := Lib.hid h2
      have HR := Lib.hid hR
      have HA := Lib.hid hA
      have HB := Lib.hid hB
      have HR' := Lib.hid hR'
      have HA' := Lib.hid hA'
      have HB' := Lib.hid hB'
      clear h1 h2 hR hA hB hR' hA' hB'
      go_wp2
      go_region
      · obtain ⟨W0, hW0⟩ : ∃ W0, (((wr.alloc (.cells #[.int .i64 kd, .string nm, .slice rp rs.length rc, .slice ap ats.length ac, .slice bp bd.length bc] 43)).alloc (.cells #[.int .i64 kd', .string nm', .slice rp' rs'.length rc', .slice ap' ats'.length ac', .slice bp' bd'.length bc'] 43)).drew) = W0 := ⟨_, rfl⟩
        rw [hW0]
        obtain ⟨B1, B2⟩ := (box2 wr _ _ _ _ _ _ _ _ _ _ _ _ : Bx5 (((wr.alloc (.cells #[.int .i64 kd, .string nm, .slice rp rs.length rc, .slice ap ats.length ac, .slice bp bd.length bc] 43)).alloc (.cells #[.int .i64 kd', .string nm', .slice rp' rs'.length rc', .slice ap' ats'.length ac', .slice bp' bd'.length bc'] 43)).drew) _ _ _ _ _ _ ∧ _)
        have hgw : Grew wr (((wr.alloc (.cells #[.int .i64 kd, .string nm, .slice rp rs.length rc, .slice ap ats.length ac, .slice bp bd.length bc] 43)).alloc (.cells #[.int .i64 kd', .string nm', .slice rp' rs'.length rc', .slice ap' ats'.length ac', .slice bp' bd'.length bc'] 43)).drew) := by (repeat (first | exact Grew.refl _ | refine Grew.over ?_ _ | refine Grew.alloc ?_ _ | refine Grew.drew ?_ | refine Grew.drewN ?_ _))
        rw [hW0] at B1 B2 hgw
        replace B1 := Lib.hid B1
        replace B2 := Lib.hid B2
        have Hgw0 := Lib.hid hgw
        have Hg0 := Lib.hid (Hg.out.trans hgw)
        clear hgw hW0
        obtain ⟨g2, hg2⟩ : ∃ g, wr.heap.size + 1 = g := ⟨_, rfl⟩
        rw [hg2] at B2 ⊢
        obtain ⟨g1, hg1⟩ : ∃ g, wr.heap.size = g := ⟨_, rfl⟩
        rw [hg1] at B1 ⊢
        clear hg1 hg2
        clear hb c0 c1 c2 c3 c4 hb' d0 d1 d2 d3 d4
        have Hne := Lib.hid (fun h => st_ne Hr.out H1.out H2.out h)
        obtain ⟨hb1, x0, x1, x2, x3, x4⟩ := B1.out
        obtain ⟨hb2, y0, y1, y2, y3, y4⟩ := B2.out
        by_cases q1 : kd = kd'
        case neg =>
          have H := Lib.hid (Hne.out (fun h => q1 h.1))
          have q1' : (kd != kd') = true := bne_iff_ne.2 q1
          have q1'' : (kd == kd') = false := beq_eq_false_iff_ne.2 q1
          go_wp2
          go_ret
          exact ⟨ret_bool H.out.symm, Hg0.out.trans (by (repeat (first | exact Grew.refl _ | refine Grew.over ?_ _ | refine Grew.alloc ?_ _ | refine Grew.drew ?_ | refine Grew.drewN ?_ _)))⟩
        subst q1
        by_cases q2 : nm = nm'
        case neg =>
          have H := Lib.hid (Hne.out (fun h => q2 h.2.1))
          have q2' : (nm.toList == nm'.toList) = false := by rw [← Bool.not_eq_true]; exact fun h => q2 (sq_iff.1 h)
          have q2'' : (nm.toList != nm'.toList) = true := by rw [bne, q2']; rfl
          go_wp2
          go_ret
          exact ⟨ret_bool H.out.symm, Hg0.out.trans (by (repeat (first | exact Grew.refl _ | refine Grew.over ?_ _ | refine Grew.alloc ?_ _ | refine Grew.drew ?_ | refine Grew.drewN ?_ _)))⟩
        subst q2
        by_cases q3 : rs.length = rs'.length
        case neg =>
          have H := Lib.hid (Hne.out (fun h => q3 (by rw [h.2.2.1])))
          have q3' : ((rs.length : Int) != (rs'.length : Int)) = true := bne_iff_ne.2 (by omega)
          go_wp2
          go_ret
          exact ⟨ret_bool H.out.symm, Hg0.out.trans (by (repeat (first | exact Grew.refl _ | refine Grew.over ?_ _ | refine Grew.alloc ?_ _ | refine Grew.drew ?_ | refine Grew.drewN ?_ _)))⟩
        have q3' : ((rs.length : Int) != (rs'.length : Int)) = false := by rw [q3]; simp
        have HleR := Lib.hid q3
        clear q3
        by_cases q4 : ats.length = ats'.length
        case neg =>
          have H := Lib.hid (Hne.out (fun h => q4 (by rw [h.2.2.2.1])))
          have q4' : ((ats.length : Int) != (ats'.length : Int)) = true := bne_iff_ne.2 (by omega)
          go_wp2
          go_ret
          exact ⟨ret_bool H.out.symm, Hg0.out.trans (by (repeat (first | exact Grew.refl _ | refine Grew.over ?_ _ | refine Grew.alloc ?_ _ | refine Grew.drew ?_ | refine Grew.drewN ?_ _)))⟩
        have q4' : ((ats.length : Int) != (ats'.length : Int)) = false := by rw [q4]; simp
        have HleA := Lib.hid q4
        clear q4
        obtain ⟨b5, q5⟩ : ∃ b, lEq bd bd' = b := ⟨_, rfl⟩
        have Q5 := Lib.hid q5
        clear q5
        have hrl := len_lt HR.out
        have hal := len_lt HA.out
        have Ib := Lib.hid (fun W (hW : Grew W0 W) => Ih.out m2 hlm bp bp' _ bc _ bc' bd bd' W (HB.out.grew (stable_st _) (Hgw0.out.trans hW)) (HB'.out.grew (stable_st _) (Hgw0.out.trans hW)) rfl rfl)
        cases b5
        case false =>
          have H := Lib.hid (Hne.out (fun h => lEq_not Q5.out h.2.2.2.2))
          go_wp2_with (go_at_call 37; apply Calls.mono; (with_reducible exact Ib.out _ (by (repeat (first | exact Grew.refl _ | refine Grew.over ?_ _ | refine Grew.alloc ?_ _ | refine Grew.drew ?_ | refine Grew.drewN ?_ _)))); rw [Q5.out]; rintro e w3 ⟨rfl, hg3⟩; have Hg3 := Lib.hid (Hg0.out.trans (Grew.trans (by (repeat (first | exact Grew.refl _ | refine Grew.over ?_ _ | refine Grew.alloc ?_ _ | refine Grew.drew ?_ | refine Grew.drewN ?_ _))) hg3)); clear hg3)
          go_ret
          exact ⟨ret_bool H.out.symm, Hg3.out⟩
        go_wp2_with (go_at_call 37; apply Calls.mono; (with_reducible exact Ib.out _ (by (repeat (first | exact Grew.refl _ | refine Grew.over ?_ _ | refine Grew.alloc ?_ _ | refine Grew.drew ?_ | refine Grew.drewN ?_ _)))); rw [Q5.out]; rintro e w3 ⟨rfl, hg3⟩; have Hgb := Lib.hid (show Grew W0 w3 from Grew.trans (by (repeat (first | exact Grew.refl _ | refine Grew.over ?_ _ | refine Grew.alloc ?_ _ | refine Grew.drew ?_ | refine Grew.drewN ?_ _))) hg3); obtain ⟨hb1', x0', x1', x2', x3', x4'⟩ := B1.out.grew Hgb.out; obtain ⟨hb2', y0', y1', y2', y3', y4'⟩ := B2.out.grew Hgb.out; clear hg3)
        clear hb1 x0 x1 x2 x3 x4 hb2 y0 y1 y2 y3 y4
        go_loopw [8] (fun i wv => ∃ u : Nat, u ≤ rs.length ∧ i = .int .i64 u ∧ (∀ v, v < u → rs[v]? = rs'[v]?) ∧ Grew W0 wv) (fun i _ => rs.length - (intOf i).toNat)
        case atStart => exact ⟨0, Nat.zero_le _, rfl, fun v hv => by omega, Hgb.out⟩
        case round =>
          obtain ⟨u, hu, rfl, hall2, hgv⟩ := hrel
          have Hall2 := Lib.hid hall2
          have Hgv := Lib.hid hgv
          have Hgw := Lib.hid (Hg0.out.trans hgv)
          have Hgr := Lib.hid (Hgw0.out.trans hgv)
          obtain ⟨hb1, x0, x1, x2, x3, x4⟩ := B1.out.grew hgv
          obtain ⟨hb2, y0, y1, y2, y3, y4⟩ := B2.out.grew hgv
          clear hall2 hgv
          by_cases hult : u < rs.length
          · obtain ⟨bb, oo, s1, t1, rfl, hbb, e1, -, -, f1, f2⟩ := p2_el (HR.out.grew stable_p2 Hgr.out) hult
            obtain ⟨bb', oo', s2, t2, rfl, hbb', e2, -, -, f3, f4⟩ := p2_el (HR'.out.grew stable_p2 Hgr.out) (i := u) (by have := HleR.out; omega)
            have E1 := Lib.hid e1
            have E2 := Lib.hid e2
            have hult' : u < rs'.length := by have := HleR.out; omega
            clear e1 e2
            cases hq : e2b s1 t1 s2 t2
            · have H := Lib.hid (Hne.out (fun h => by
                have h3 := E1.out
                rw [h.2.2.1, E2.out] at h3
                rw [e2b_dec, decide_eq_true (Option.some.inj h3).symm] at hq
                cases hq))
              go_wp2
              refine wp_region_over (by kernel_rfl) (by kernel_rfl) ?_; (repeat (go_big_quiet_step (fail))); refine wpQuiet_nil ?_; rintro _ ⟨x, rfl⟩
              go_wp2
              go_ret
              exact ⟨ret_bool H.out.symm, Hgw.out.trans (by (repeat (first | exact Grew.refl _ | refine Grew.over ?_ _ | refine Grew.alloc ?_ _ | refine Grew.drew ?_ | refine Grew.drewN ?_ _)))⟩
            · have H := Lib.hid (show rs[u]? = rs'[u]? by rw [E1.out, E2.out]; rw [e2b_dec] at hq; rw [of_decide_eq_true hq])
              go_wp2
              refine wp_region_over (by kernel_rfl) (by kernel_rfl) ?_; (repeat (go_big_quiet_step (fail))); refine wpQuiet_nil ?_; rintro _ ⟨x, rfl⟩
              go_wp2
              go_roundw
              case rel => exact ⟨u + 1, hult, by go_num, fun v hv => (by
                rcases Nat.lt_succ_iff_lt_or_eq.1 hv with h | h
                · exact Hall2.out v h
                · rw [h]; exact H.out), Hgv.out.trans (by (repeat (first | exact Grew.refl _ | refine Grew.over ?_ _ | refine Grew.alloc ?_ _ | refine Grew.drew ?_ | refine Grew.drewN ?_ _)))⟩
              case measure => simp [intOf]; omega
          · have ER := Lib.hid (show rs = rs' from List.ext_getElem? fun v => by
              by_cases hv : v < u
              · exact Hall2.out v hv
              · rw [List.getElem?_eq_none (by omega), List.getElem?_eq_none (by have := HleR.out; omega)])
            have Hgv2 := Lib.hid Hgv.out
            clear Hgw Hgr Hall2
            go_wp2
            clear hb1 x0 x1 x2 x3 x4 hb2 y0 y1 y2 y3 y4 hult hu
            go_loopw [9] (fun i wv => ∃ u : Nat, u ≤ ats.length ∧ i = .int .i64 u ∧ (∀ v, v < u → ats[v]? = ats'[v]?) ∧ Grew W0 wv) (fun i _ => ats.length - (intOf i).toNat)
            case atStart => exact ⟨0, Nat.zero_le _, rfl, fun v hv => by omega, Hgv2.out.trans (by (repeat (first | exact Grew.refl _ | refine Grew.over ?_ _ | refine Grew.alloc ?_ _ | refine Grew.drew ?_ | refine Grew.drewN ?_ _)))⟩
            case round =>
              obtain ⟨u, hu, rfl, hall2, hgv⟩ := hrel
              have Hall2 := Lib.hid hall2
              have Hgv := Lib.hid hgv
              have Hgw := Lib.hid (Hg0.out.trans hgv)
              have Hgr := Lib.hid (Hgw0.out.trans hgv)
              obtain ⟨hb1, x0, x1, x2, x3, x4⟩ := B1.out.grew hgv
              obtain ⟨hb2, y0, y1, y2, y3, y4⟩ := B2.out.grew hgv
              clear hall2 hgv
              by_cases hult : u < ats.length
              · obtain ⟨bb, oo, s1, t1, rfl, hbb, e1, -, -, f1, f2⟩ := p2_el (HA.out.grew stable_p2 Hgr.out) hult
                obtain ⟨bb', oo', s2, t2, rfl, hbb', e2, -, -, f3, f4⟩ := p2_el (HA'.out.grew stable_p2 Hgr.out) (i := u) (by have := HleA.out; omega)
                have E1 := Lib.hid e1
                have E2 := Lib.hid e2
                have hult' : u < ats'.length := by have := HleA.out; omega
                clear e1 e2
                cases hq : e2b s1 t1 s2 t2
                · have H := Lib.hid (Hne.out (fun h => by
                    have h3 := E1.out
                    rw [h.2.2.2.1, E2.out] at h3
                    rw [e2b_dec, decide_eq_true (Option.some.inj h3).symm] at hq
                    cases hq))
                  go_wp2
                  refine wp_region_over (by kernel_rfl) (by kernel_rfl) ?_; (repeat (go_big_quiet_step (fail))); refine wpQuiet_nil ?_; rintro _ ⟨x, rfl⟩
                  go_wp2
                  go_ret
                  exact ⟨ret_bool H.out.symm, Hgw.out.trans (by (repeat (first | exact Grew.refl _ | refine Grew.over ?_ _ | refine Grew.alloc ?_ _ | refine Grew.drew ?_ | refine Grew.drewN ?_ _)))⟩
                · have H := Lib.hid (show ats[u]? = ats'[u]? by rw [E1.out, E2.out]; rw [e2b_dec] at hq; rw [of_decide_eq_true hq])
                  go_wp2
                  refine wp_region_over (by kernel_rfl) (by kernel_rfl) ?_; (repeat (go_big_quiet_step (fail))); refine wpQuiet_nil ?_; rintro _ ⟨x, rfl⟩
                  go_wp2
                  go_roundw
                  case rel => exact ⟨u + 1, hult, by go_num, fun v hv => (by
                    rcases Nat.lt_succ_iff_lt_or_eq.1 hv with h | h
                    · exact Hall2.out v h
                    · rw [h]; exact H.out), Hgv.out.trans (by (repeat (first | exact Grew.refl _ | refine Grew.over ?_ _ | refine Grew.alloc ?_ _ | refine Grew.drew ?_ | refine Grew.drewN ?_ _)))⟩
                  case measure => simp [intOf]; omega
              · have EA := Lib.hid (show ats = ats' from List.ext_getElem? fun v => by
                  by_cases hv : v < u
                  · exact Hall2.out v hv
                  · rw [List.getElem?_eq_none (by omega), List.getElem?_eq_none (by have := HleA.out; omega)])
                have H := Lib.hid (show x[j]? = y[j]? by rw [H1.out, H2.out, ER.out, EA.out, lEq_of Q5.out])
                go_wp2
                go_roundw
                case rel => exact ⟨j + 1, hlt, by go_num, fun v hv => (by
                  rcases Nat.lt_succ_iff_lt_or_eq.1 hv with h | h
                  · exact Hall.out v h
                  · rw [h]; exact H.out), Hgw.out.trans (by (repeat (first | exact Grew.refl _ | refine Grew.over ?_ _ | refine Grew.alloc ?_ _ | refine Grew.drew ?_ | refine Grew.drewN ?_ _)))⟩
                case measure => simp [intOf]; omega
      · obtain ⟨W0, hW0⟩ : ∃ W0, (((wr.alloc (.cells #[.int .i64 kd', .string nm', .slice rp' rs'.length rc', .slice ap' ats'.length ac', .slice bp' bd'.length bc'] 43)).alloc (.cells #[.int .i64 kd, .string nm, .slice rp rs.length rc, .slice ap ats.length ac, .slice bp bd.length bc] 43)).drew) = W0 := ⟨_, rfl⟩
        rw [hW0]
        obtain ⟨B2, B1⟩ := (box2 wr _ _ _ _ _ _ _ _ _ _ _ _ : Bx5 (((wr.alloc (.cells #[.int .i64 kd', .string nm', .slice rp' rs'.length rc', .slice ap' ats'.length ac', .slice bp' bd'.length bc'] 43)).alloc (.cells #[.int .i64 kd, .string nm, .slice rp rs.length rc, .slice ap ats.length ac, .slice bp bd.length bc] 43)).drew) _ _ _ _ _ _ ∧ _)
        have hgw : Grew wr (((wr.alloc (.cells #[.int .i64 kd', .string nm', .slice rp' rs'.length rc', .slice ap' ats'.length ac', .slice bp' bd'.length bc'] 43)).alloc (.cells #[.int .i64 kd, .string nm, .slice rp rs.length rc, .slice ap ats.length ac, .slice bp bd.length bc] 43)).drew) := by (repeat (first | exact Grew.refl _ | refine Grew.over ?_ _ | refine Grew.alloc ?_ _ | refine Grew.drew ?_ | refine Grew.drewN ?_ _))
        rw [hW0] at B1 B2 hgw
        replace B1 := Lib.hid B1
        replace B2 := Lib.hid B2
        have Hgw0 := Lib.hid hgw
        have Hg0 := Lib.hid (Hg.out.trans hgw)
        clear hgw hW0
        obtain ⟨g1, hg1⟩ : ∃ g, wr.heap.size + 1 = g := ⟨_, rfl⟩
        rw [hg1] at B1 ⊢
        obtain ⟨g2, hg2⟩ : ∃ g, wr.heap.size = g := ⟨_, rfl⟩
        rw [hg2] at B2 ⊢
        clear hg1 hg2
        clear hb c0 c1 c2 c3 c4 hb' d0 d1 d2 d3 d4
        have Hne := Lib.hid (fun h => st_ne Hr.out H1.out H2.out h)
        obtain ⟨hb1, x0, x1, x2, x3, x4⟩ := B1.out
        obtain ⟨hb2, y0, y1, y2, y3, y4⟩ := B2.out
        by_cases q1 : kd = kd'
        case neg =>
          have H := Lib.hid (Hne.out (fun h => q1 h.1))
          have q1' : (kd != kd') = true := bne_iff_ne.2 q1
          have q1'' : (kd == kd') = false := beq_eq_false_iff_ne.2 q1
          go_wp2
          go_ret
          exact ⟨ret_bool H.out.symm, Hg0.out.trans (by (repeat (first | exact Grew.refl _ | refine Grew.over ?_ _ | refine Grew.alloc ?_ _ | refine Grew.drew ?_ | refine Grew.drewN ?_ _)))⟩
        subst q1
        by_cases q2 : nm = nm'
        case neg =>
          have H := Lib.hid (Hne.out (fun h => q2 h.2.1))
          have q2' : (nm.toList == nm'.toList) = false := by rw [← Bool.not_eq_true]; exact fun h => q2 (sq_iff.1 h)
          have q2'' : (nm.toList != nm'.toList) = true := by rw [bne, q2']; rfl
          go_wp2
          go_ret
          exact ⟨ret_bool H.out.symm, Hg0.out.trans (by (repeat (first | exact Grew.refl _ | refine Grew.over ?_ _ | refine Grew.alloc ?_ _ | refine Grew.drew ?_ | refine Grew.drewN ?_ _)))⟩
        subst q2
        by_cases q3 : rs.length = rs'.length
        case neg =>
          have H := Lib.hid (Hne.out (fun h => q3 (by rw [h.2.2.1])))
          have q3' : ((rs.length : Int) != (rs'.length : Int)) = true := bne_iff_ne.2 (by omega)
          go_wp2
          go_ret
          exact ⟨ret_bool H.out.symm, Hg0.out.trans (by (repeat (first | exact Grew.refl _ | refine Grew.over ?_ _ | refine Grew.alloc ?_ _ | refine Grew.drew ?_ | refine Grew.drewN ?_ _)))⟩
        have q3' : ((rs.length : Int) != (rs'.length : Int)) = false := by rw [q3]; simp
        have HleR := Lib.hid q3
        clear q3
        by_cases q4 : ats.length = ats'.length
        case neg =>
          have H := Lib.hid (Hne.out (fun h => q4 (by rw [h.2.2.2.1])))
          have q4' : ((ats.length : Int) != (ats'.length : Int)) = true := bne_iff_ne.2 (by omega)
          go_wp2
          go_ret
          exact ⟨ret_bool H.out.symm, Hg0.out.trans (by (repeat (first | exact Grew.refl _ | refine Grew.over ?_ _ | refine Grew.alloc ?_ _ | refine Grew.drew ?_ | refine Grew.drewN ?_ _)))⟩
        have q4' : ((ats.length : Int) != (ats'.length : Int)) = false := by rw [q4]; simp
        have HleA := Lib.hid q4
        clear q4
        obtain ⟨b5, q5⟩ : ∃ b, lEq bd bd' = b := ⟨_, rfl⟩
        have Q5 := Lib.hid q5
        clear q5
        have hrl := len_lt HR.out
        have hal := len_lt HA.out
        have Ib := Lib.hid (fun W (hW : Grew W0 W) => Ih.out m2 hlm bp bp' _ bc _ bc' bd bd' W (HB.out.grew (stable_st _) (Hgw0.out.trans hW)) (HB'.out.grew (stable_st _) (Hgw0.out.trans hW)) rfl rfl)
        cases b5
        case false =>
          have H := Lib.hid (Hne.out (fun h => lEq_not Q5.out h.2.2.2.2))
          go_wp2_with (go_at_call 37; apply Calls.mono; (with_reducible exact Ib.out _ (by (repeat (first | exact Grew.refl _ | refine Grew.over ?_ _ | refine Grew.alloc ?_ _ | refine Grew.drew ?_ | refine Grew.drewN ?_ _)))); rw [Q5.out]; rintro e w3 ⟨rfl, hg3⟩; have Hg3 := Lib.hid (Hg0.out.trans (Grew.trans (by (repeat (first | exact Grew.refl _ | refine Grew.over ?_ _ | refine Grew.alloc ?_ _ | refine Grew.drew ?_ | refine Grew.drewN ?_ _))) hg3)); clear hg3)
          go_ret
          exact ⟨ret_bool H.out.symm, Hg3.out⟩
        go_wp2_with (go_at_call 37; apply Calls.mono; (with_reducible exact Ib.out _ (by (repeat (first | exact Grew.refl _ | refine Grew.over ?_ _ | refine Grew.alloc ?_ _ | refine Grew.drew ?_ | refine Grew.drewN ?_ _)))); rw [Q5.out]; rintro e w3 ⟨rfl, hg3⟩; have Hgb := Lib.hid (show Grew W0 w3 from Grew.trans (by (repeat (first | exact Grew.refl _ | refine Grew.over ?_ _ | refine Grew.alloc ?_ _ | refine Grew.drew ?_ | refine Grew.drewN ?_ _))) hg3); obtain ⟨hb1', x0', x1', x2', x3', x4'⟩ := B1.out.grew Hgb.out; obtain ⟨hb2', y0', y1', y2', y3', y4'⟩ := B2.out.grew Hgb.out; clear hg3)
        clear hb1 x0 x1 x2 x3 x4 hb2 y0 y1 y2 y3 y4
        go_loopw [8] (fun i wv => ∃ u : Nat, u ≤ rs.length ∧ i = .int .i64 u ∧ (∀ v, v < u → rs[v]? = rs'[v]?) ∧ Grew W0 wv) (fun i _ => rs.length - (intOf i).toNat)
        case atStart => exact ⟨0, Nat.zero_le _, rfl, fun v hv => by omega, Hgb.out⟩
        case round =>
          obtain ⟨u, hu, rfl, hall2, hgv⟩ := hrel
          have Hall2 := Lib.hid hall2
          have Hgv := Lib.hid hgv
          have Hgw := Lib.hid (Hg0.out.trans hgv)
          have Hgr := Lib.hid (Hgw0.out.trans hgv)
          obtain ⟨hb1, x0, x1, x2, x3, x4⟩ := B1.out.grew hgv
          obtain ⟨hb2, y0, y1, y2, y3, y4⟩ := B2.out.grew hgv
          clear hall2 hgv
          by_cases hult : u < rs.length
          · obtain ⟨bb, oo, s1, t1, rfl, hbb, e1, -, -, f1, f2⟩ := p2_el (HR.out.grew stable_p2 Hgr.out) hult
            obtain ⟨bb', oo', s2, t2, rfl, hbb', e2, -, -, f3, f4⟩ := p2_el (HR'.out.grew stable_p2 Hgr.out) (i := u) (by have := HleR.out; omega)
            have E1 := Lib.hid e1
            have E2 := Lib.hid e2
            have hult' : u < rs'.length := by have := HleR.out; omega
            clear e1 e2
            cases hq : e2b s1 t1 s2 t2
            · have H := Lib.hid (Hne.out (fun h => by
                have h3 := E1.out
                rw [h.2.2.1, E2.out] at h3
                rw [e2b_dec, decide_eq_true (Option.some.inj h3).symm] at hq
                cases hq))
              go_wp2
              refine wp_region_over (by kernel_rfl) (by kernel_rfl) ?_; (repeat (go_big_quiet_step (fail))); refine wpQuiet_nil ?_; rintro _ ⟨x, rfl⟩
              go_wp2
              go_ret
              exact ⟨ret_bool H.out.symm, Hgw.out.trans (by (repeat (first | exact Grew.refl _ | refine Grew.over ?_ _ | refine Grew.alloc ?_ _ | refine Grew.drew ?_ | refine Grew.drewN ?_ _)))⟩
            · have H := Lib.hid (show rs[u]? = rs'[u]? by rw [E1.out, E2.out]; rw [e2b_dec] at hq; rw [of_decide_eq_true hq])
              go_wp2
              refine wp_region_over (by kernel_rfl) (by kernel_rfl) ?_; (repeat (go_big_quiet_step (fail))); refine wpQuiet_nil ?_; rintro _ ⟨x, rfl⟩
              go_wp2
              go_roundw
              case rel => exact ⟨u + 1, hult, by go_num, fun v hv => (by
                rcases Nat.lt_succ_iff_lt_or_eq.1 hv with h | h
                · exact Hall2.out v h
                · rw [h]; exact H.out), Hgv.out.trans (by (repeat (first | exact Grew.refl _ | refine Grew.over ?_ _ | refine Grew.alloc ?_ _ | refine Grew.drew ?_ | refine Grew.drewN ?_ _)))⟩
              case measure => simp [intOf]; omega
          · have ER := Lib.hid (show rs = rs' from List.ext_getElem? fun v => by
              by_cases hv : v < u
              · exact Hall2.out v hv
              · rw [List.getElem?_eq_none (by omega), List.getElem?_eq_none (by have := HleR.out; omega)])
            have Hgv2 := Lib.hid Hgv.out
            clear Hgw Hgr Hall2
            go_wp2
            clear hb1 x0 x1 x2 x3 x4 hb2 y0 y1 y2 y3 y4 hult hu
            go_loopw [9] (fun i wv => ∃ u : Nat, u ≤ ats.length ∧ i = .int .i64 u ∧ (∀ v, v < u → ats[v]? = ats'[v]?) ∧ Grew W0 wv) (fun i _ => ats.length - (intOf i).toNat)
            case atStart => exact ⟨0, Nat.zero_le _, rfl, fun v hv => by omega, Hgv2.out.trans (by (repeat (first | exact Grew.refl _ | refine Grew.over ?_ _ | refine Grew.alloc ?_ _ | refine Grew.drew ?_ | refine Grew.drewN ?_ _)))⟩
            case round =>
              obtain ⟨u, hu, rfl, hall2, hgv⟩ := hrel
              have Hall2 := Lib.hid hall2
              have Hgv := Lib.hid hgv
              have Hgw := Lib.hid (Hg0.out.trans hgv)
              have Hgr := Lib.hid (Hgw0.out.trans hgv)
              obtain ⟨hb1, x0, x1, x2, x3, x4⟩ := B1.out.grew hgv
              obtain ⟨hb2, y0, y1, y2, y3, y4⟩ := B2.out.grew hgv
              clear hall2 hgv
              by_cases hult : u < ats.length
              · obtain ⟨bb, oo, s1, t1, rfl, hbb, e1, -, -, f1, f2⟩ := p2_el (HA.out.grew stable_p2 Hgr.out) hult
                obtain ⟨bb', oo', s2, t2, rfl, hbb', e2, -, -, f3, f4⟩ := p2_el (HA'.out.grew stable_p2 Hgr.out) (i := u) (by have := HleA.out; omega)
                have E1 := Lib.hid e1
                have E2 := Lib.hid e2
                have hult' : u < ats'.length := by have := HleA.out; omega
                clear e1 e2
                cases hq : e2b s1 t1 s2 t2
                · have H := Lib.hid (Hne.out (fun h => by
                    have h3 := E1.out
                    rw [h.2.2.2.1, E2.out] at h3
                    rw [e2b_dec, decide_eq_true (Option.some.inj h3).symm] at hq
                    cases hq))
                  go_wp2
                  refine wp_region_over (by kernel_rfl) (by kernel_rfl) ?_; (repeat (go_big_quiet_step (fail))); refine wpQuiet_nil ?_; rintro _ ⟨x, rfl⟩
                  go_wp2
                  go_ret
                  exact ⟨ret_bool H.out.symm, Hgw.out.trans (by (repeat (first | exact Grew.refl _ | refine Grew.over ?_ _ | refine Grew.alloc ?_ _ | refine Grew.drew ?_ | refine Grew.drewN ?_ _)))⟩
                · have H := Lib.hid (show ats[u]? = ats'[u]? by rw [E1.out, E2.out]; rw [e2b_dec] at hq; rw [of_decide_eq_true hq])
                  go_wp2
                  refine wp_region_over (by kernel_rfl) (by kernel_rfl) ?_; (repeat (go_big_quiet_step (fail))); refine wpQuiet_nil ?_; rintro _ ⟨x, rfl⟩
                  go_wp2
                  go_roundw
                  case rel => exact ⟨u + 1, hult, by go_num, fun v hv => (by
                    rcases Nat.lt_succ_iff_lt_or_eq.1 hv with h | h
                    · exact Hall2.out v h
                    · rw [h]; exact H.out), Hgv.out.trans (by (repeat (first | exact Grew.refl _ | refine Grew.over ?_ _ | refine Grew.alloc ?_ _ | refine Grew.drew ?_ | refine Grew.drewN ?_ _)))⟩
                  case measure => simp [intOf]; omega
              · have EA := Lib.hid (show ats = ats' from List.ext_getElem? fun v => by
                  by_cases hv : v < u
                  · exact Hall2.out v hv
                  · rw [List.getElem?_eq_none (by omega), List.getElem?_eq_none (by have := HleA.out; omega)])
                have H := Lib.hid (show x[j]? = y[j]? by rw [H1.out, H2.out, ER.out, EA.out, lEq_of Q5.out])
                go_wp2
                go_roundw
                case rel => exact ⟨j + 1, hlt, by go_num, fun v hv => (by
                  rcases Nat.lt_succ_iff_lt_or_eq.1 hv with h | h
                  · exact Hall.out v h
                  · rw [h]; exact H.out), Hgw.out.trans (by (repeat (first | exact Grew.refl _ | refine Grew.over ?_ _ | refine Grew.alloc ?_ _ | refine Grew.drew ?_ | refine Grew.drewN ?_ _)))⟩
                case measure => simp [intOf]; omega
    · have H := Lib.hid (Hr.out.symm.trans (lEq_y (List.ext_getElem? fun u => by
        by_cases hu : u < j
        · exact Hall.out u hu
        · rw [List.getElem?_eq_none (by omega), List.getElem?_eq_none (by have := Hl.out; omega)])))
      go_wp2
      go_ret
      exact ⟨ret_bool H.out.symm, Hg.out.trans (by (repeat (first | exact Grew.refl _ | refine Grew.over ?_ _ | refine Grew.alloc ?_ _ | refine Grew.drew ?_ | refine Grew.drewN ?_ _)))⟩
set_option maxHeartbeats 2000000 in
theorem Equal_r (n : Nat) (na nb : ByteArray) (da db : Bool) (p q : Option Addr) (m c k d : Nat) (x y : List St) (w : World) (hx : Sts n w p c x) (hy : Sts n w q d y) (hm : x.length = m) (hk : y.length = k) :
    Calls Try.prog 17 #[.agg #[.string na, .bool da, .slice p m c], .agg #[.string nb, .bool db, .slice q k d]] w fun e w' => e = .returned (.bool (tEq na da x nb db y)) ∧ Grew w w' := by
  have Hx := Lib.hid hx
  have Hy := Lib.hid hy
  clear hx hy
  obtain ⟨r, hr⟩ : ∃ r, tEq na da x nb db y = r := ⟨_, rfl⟩
  rw [hr]
  unfold tEq at hr
  cases q1 : sq na nb <;> cases da <;> cases db <;> cases q2 : lEq x y
  all_goals
    rw [q1, q2] at hr
    have Hr := Lib.hid hr.symm
    have Q2 := Lib.hid q2
    have q1' := sq_raw q1
    clear hr q1 q2
    go_enter Try.func17, Try.ntmps17
    go_wp2_with (go_at_call 37; apply Calls.mono; (with_reducible exact stmts_r n _ _ _ _ _ _ x y _ (Hx.out.grew (stable_st _) (by (repeat (first | exact Grew.refl _ | refine Grew.over ?_ _ | refine Grew.alloc ?_ _ | refine Grew.drew ?_ | refine Grew.drewN ?_ _)))) (Hy.out.grew (stable_st _) (by (repeat (first | exact Grew.refl _ | refine Grew.over ?_ _ | refine Grew.alloc ?_ _ | refine Grew.drew ?_ | refine Grew.drewN ?_ _)))) hm hk); rw [Q2.out]; rintro e w3 ⟨rfl, x3, rfl⟩)
    go_ret
    exact ⟨ret_bool Hr.out.symm, by (repeat (first | exact Grew.refl _ | refine Grew.over ?_ _ | refine Grew.alloc ?_ _ | refine Grew.drew ?_ | refine Grew.drewN ?_ _))⟩
end Go.Proofs.Ytbamckfjikpjlaa
