/- Forest of the reference. -/
import Derived.Test.YtgodoeefgmfpfaaFoE
set_option linter.unusedSimpArgs false
set_option linter.unusedVariables false
namespace Go.Proofs.Ytgodoeefgmfpfaa
open Go.RowKit
attribute [local go_sem ↓] Go.wp_at_zero Go.wp_at_succ

theorem FExt.fin {n t i0 : Nat} {E : List (Int × Int)} (hV : vD (n : Int) E) (ht : t ≤ n) (h : ∃ T, FExt E i0 T (Proofs.Ytgodoeefgmfpfaa.B E n t)) : ¬ E.length + (Proofs.Ytgodoeefgmfpfaa.B E n n).roots = n := by
  have h1 := FExt.to hV (i0 := i0) (n - t) t (by rw [toNat_n]; omega) (by rw [toNat_n]; exact h)
  have h2 := FExt.no hV h1
  rwa [toNat_n] at h2
theorem drop_get {S : BS} {t d : Nat} : (S.O.drop t).getD d 0 = oc S (t + d) := by
  unfold oc
  rw [List.getD_eq_getElem?_getD, List.getD_eq_getElem?_getD, List.getElem?_drop]
theorem intVs_app (xs ys : List Int) : intVs (xs ++ ys) = intVs xs ++ intVs ys := by simp [intVs]
theorem perm_c {a b c : Row} : [c, b, a].Perm [a, b, c] ∧ [b, c, a].Perm [a, b, c] ∧ [c, a, b].Perm [a, b, c] ∧ [a, c, b].Perm [a, b, c] ∧ [b, a, c].Perm [a, b, c] := by
  have p2 : [a, c, b].Perm [a, b, c] := (List.Perm.swap b c []).cons a
  have p3 : [b, a, c].Perm [a, b, c] := List.Perm.swap a b [c]
  have p4 : [b, c, a].Perm [a, b, c] := ((List.Perm.swap a c []).cons b).trans p3
  have p5 : [c, a, b].Perm [a, b, c] := (List.Perm.swap a c [b]).trans p2
  have p6 : [c, b, a].Perm [a, b, c] := (List.Perm.swap b c [a]).trans p4
  exact ⟨p6, p4, p5, p2, p3⟩

set_option maxRecDepth 8000 in
set_option maxHeartbeats 16000000 in
theorem forest_r (N : Int) (q : Option Addr) (m cq : Nat) (E : List (Int × Int)) (w : World) (hE : Prs w q E) (hm : E.length = m) :
    Calls Try.prog 23 #[.agg #[.int .i64 N, .slice q m cq]] w fun e w' => Grew w w' ∧ FoRes N E e w' := by
  have Hval := Lib.hid (fun (W : World) (hg : Grew w W) => dvalid_r N q m cq E W (hE.grew hg) hm)
  subst hm
  have HE := Lib.hid hE
  clear hE
  cases hv : dB N E
  · have Hno : Hid (¬ vD N E) := Lib.hid (fun h => by rw [dB_iff.2 h] at hv; cases hv)
    rw [hv] at Hval
    clear hv
    go_enter Try.func23, Try.ntmps23
    go_wp2_with ((go_at_call 29; apply Calls.mono; (with_reducible exact Hval.out _ (by (repeat (first | exact Grew.refl _ | refine Grew.over ?_ _ | refine Grew.alloc ?_ _ | refine Grew.drew ?_ | refine Grew.drewN ?_ _)))); rintro e w' ⟨rfl, x, rfl⟩))
    go_ret2
    exact ⟨by (repeat (first | exact Grew.refl _ | refine Grew.over ?_ _ | refine Grew.alloc ?_ _ | refine Grew.drew ?_ | refine Grew.drewN ?_ _)), Or.inl ⟨Hno.out, rfl⟩⟩
  have HV := Lib.hid (dB_iff.1 hv)
  obtain ⟨n, rfl⟩ : ∃ n : Nat, N = (n : Int) := ⟨N.toNat, by have := HV.out.n0; omega⟩
  have hn64 := HV.out.n1
  have h256 := HV.out.m
  rw [hv] at Hval
  clear hv
  have hmi := mk_ints n (by omega)
  have hmb := mk_bools n (by omega)
  have hmu := mk_bools E.length (by omega)
  go_enter Try.func23, Try.ntmps23
  go_upto_region 1 with fail
  obtain ⟨wz, hwz⟩ : ∃ wz, w.alloc (.cells #[.int .i64 n, .slice q E.length cq] 39) = wz := ⟨_, rfl⟩
  have x0 : wz.cell? ⟨w.heap.size, 0, none⟩ = some (.int .i64 n) := by rw [← hwz]; simp [go_sem]
  have x1 : wz.cell? ⟨w.heap.size, 1, none⟩ = some (.slice q E.length cq) := by rw [← hwz]; simp [go_sem]
  have Hgz : Hid (Grew w wz) := Lib.hid (by rw [← hwz]; (repeat (first | exact Grew.refl _ | refine Grew.over ?_ _ | refine Grew.alloc ?_ _ | refine Grew.drew ?_ | refine Grew.drewN ?_ _)))
  rw [hwz]
  clear hwz
  go_upto_region 3 with (go_at_call 29; apply Calls.mono; (with_reducible exact Hval.out _ Hgz.out); rintro e wa ⟨rfl, hga⟩; have Hga := Lib.hid (Hgz.out.trans hga); replace x0 := hga.cellEq x0; replace x1 := hga.cellEq x1; clear hga)
  have hbw := cell_lt x0
  go_cut [4, 5, 6] (fun v4 v5 v6 wx => ∃ go gs gu : Nat, v4 = .slice (some ⟨go, 0, none⟩) n n ∧ v5 = .slice (some ⟨gs, 0, none⟩) n n ∧ v6 = .slice (some ⟨gu, 0, none⟩) E.length E.length ∧ Grew wa wx ∧
    Owns wx wa.heap.size [rI go n (List.replicate n 0), rB gs n (List.replicate n false), rB gu E.length (List.replicate E.length false)])
  case first =>
    go_region
    all_goals go_wp2_with fail
    all_goals go_meet
    all_goals first
      | exact ⟨_, _, _, rfl, rfl, rfl, by (repeat (first | exact Grew.refl _ | refine Grew.over ?_ _ | refine Grew.alloc ?_ _ | refine Grew.drew ?_ | refine Grew.drewN ?_ _)), Owns.grew (Owns.perm (own_newB (own_newB (own_newI (Owns.nil wa wa.heap.size) (Nat.le_refl _) n wa.heap.size (by omega) rfl) (by simp <;> omega) n (wa.heap.size + 1) (by omega) (by simp)) (by simp <;> omega) E.length (wa.heap.size + 1 + 1) (by omega) (by simp)) perm_c.1) (by (repeat (first | exact Grew.refl _ | refine Grew.over ?_ _ | refine Grew.alloc ?_ _ | refine Grew.drew ?_ | refine Grew.drewN ?_ _)))⟩
      | exact ⟨_, _, _, rfl, rfl, rfl, by (repeat (first | exact Grew.refl _ | refine Grew.over ?_ _ | refine Grew.alloc ?_ _ | refine Grew.drew ?_ | refine Grew.drewN ?_ _)), Owns.grew (Owns.perm (own_newB (own_newB (own_newI (Owns.nil wa wa.heap.size) (Nat.le_refl _) n wa.heap.size (by omega) rfl) (by simp <;> omega) E.length (wa.heap.size + 1) (by omega) (by simp)) (by simp <;> omega) n (wa.heap.size + 1 + 1) (by omega) (by simp)) perm_c.2.1) (by (repeat (first | exact Grew.refl _ | refine Grew.over ?_ _ | refine Grew.alloc ?_ _ | refine Grew.drew ?_ | refine Grew.drewN ?_ _)))⟩
      | exact ⟨_, _, _, rfl, rfl, rfl, by (repeat (first | exact Grew.refl _ | refine Grew.over ?_ _ | refine Grew.alloc ?_ _ | refine Grew.drew ?_ | refine Grew.drewN ?_ _)), Owns.grew (Owns.perm (own_newB (own_newI (own_newB (Owns.nil wa wa.heap.size) (Nat.le_refl _) n wa.heap.size (by omega) rfl) (by simp <;> omega) n (wa.heap.size + 1) (by omega) (by simp)) (by simp <;> omega) E.length (wa.heap.size + 1 + 1) (by omega) (by simp)) perm_c.2.2.1) (by (repeat (first | exact Grew.refl _ | refine Grew.over ?_ _ | refine Grew.alloc ?_ _ | refine Grew.drew ?_ | refine Grew.drewN ?_ _)))⟩
      | exact ⟨_, _, _, rfl, rfl, rfl, by (repeat (first | exact Grew.refl _ | refine Grew.over ?_ _ | refine Grew.alloc ?_ _ | refine Grew.drew ?_ | refine Grew.drewN ?_ _)), Owns.grew (Owns.perm (own_newI (own_newB (own_newB (Owns.nil wa wa.heap.size) (Nat.le_refl _) n wa.heap.size (by omega) rfl) (by simp <;> omega) E.length (wa.heap.size + 1) (by omega) (by simp)) (by simp <;> omega) n (wa.heap.size + 1 + 1) (by omega) (by simp)) perm_c.2.2.2.1) (by (repeat (first | exact Grew.refl _ | refine Grew.over ?_ _ | refine Grew.alloc ?_ _ | refine Grew.drew ?_ | refine Grew.drewN ?_ _)))⟩
      | exact ⟨_, _, _, rfl, rfl, rfl, by (repeat (first | exact Grew.refl _ | refine Grew.over ?_ _ | refine Grew.alloc ?_ _ | refine Grew.drew ?_ | refine Grew.drewN ?_ _)), Owns.grew (Owns.perm (own_newB (own_newI (own_newB (Owns.nil wa wa.heap.size) (Nat.le_refl _) E.length wa.heap.size (by omega) rfl) (by simp <;> omega) n (wa.heap.size + 1) (by omega) (by simp)) (by simp <;> omega) n (wa.heap.size + 1 + 1) (by omega) (by simp)) perm_c.2.2.2.2) (by (repeat (first | exact Grew.refl _ | refine Grew.over ?_ _ | refine Grew.alloc ?_ _ | refine Grew.drew ?_ | refine Grew.drewN ?_ _)))⟩
      | exact ⟨_, _, _, rfl, rfl, rfl, by (repeat (first | exact Grew.refl _ | refine Grew.over ?_ _ | refine Grew.alloc ?_ _ | refine Grew.drew ?_ | refine Grew.drewN ?_ _)), Owns.grew (own_newI (own_newB (own_newB (Owns.nil wa wa.heap.size) (Nat.le_refl _) E.length wa.heap.size (by omega) rfl) (by simp <;> omega) n (wa.heap.size + 1) (by omega) (by simp)) (by simp <;> omega) n (wa.heap.size + 1 + 1) (by omega) (by simp)) (by (repeat (first | exact Grew.refl _ | refine Grew.over ?_ _ | refine Grew.alloc ?_ _ | refine Grew.drew ?_ | refine Grew.drewN ?_ _)))⟩
  case rest =>
    obtain ⟨go, gs, gu, rfl, rfl, rfl, hgx, hO⟩ := hcut
    have HO := Lib.hid hO
    have Hgx := Lib.hid hgx
    obtain ⟨B2, hB2⟩ : ∃ B2, wa.heap.size = B2 := ⟨_, rfl⟩
    rw [hB2] at HO
    have HB2 := Lib.hid hB2
    have HX0 := Lib.hid x0
    have HX1 := Lib.hid x1
    have x0 := hgx.cellEq x0
    have x1 := hgx.cellEq x1
    have hbw := cell_lt x0
    have HRf0 : Hid (Rf E (B E n 0) 0 0 (List.replicate E.length false)) := Lib.hid (Rf.begin E n)
    have HSn0 : Hid (Sn n (B E n 0) (List.replicate n false)) := Lib.hid (Sn.begin E n)
    have HAg0 : Hid (Agr (B E n 0) (List.replicate n 0)) := Lib.hid (fun u hu => (by simp [B] at hu))
    clear hO hgx hB2 hmi hmb hmu
    go_wp2
    go_loopw [7] (fun v7 wr => ∃ (v t : Nat) (out : List Int) (sb U : List Bool), v ≤ n ∧ v7 = .int .i64 v ∧ t ≤ n ∧ t = (B E n t).O.length ∧ (∀ u, u < v → u ∈ (B E n t).O) ∧ Sn n (B E n t) sb ∧ Rf E (B E n t) t 0 U ∧ Agr (B E n t) out ∧ out.length = n ∧
      Owns wr B2 [rI go n out, rB gs n sb, rB gu E.length U] ∧ Grew wa wr) (fun v7 _ => n - (intOf v7).toNat)
    case atStart => exact ⟨0, 0, _, _, _, Nat.zero_le _, rfl, Nat.zero_le _, rfl, fun u hu => (by omega), HSn0.out, HRf0.out, HAg0.out, by simp, HO.out, Hgx.out⟩
    case round =>
      clear HRf0 HSn0 HAg0 HO Hgx x0 x1 hbw
      obtain ⟨v, t, out, sb, U, hv, rfl, htn, htl, hall, hSn, hRf, hAg, hol, hO, hg⟩ := hrel
      have HSn := Lib.hid hSn
      have HRf := Lib.hid hRf
      have HAg := Lib.hid hAg
      have Hol := Lib.hid hol
      have HO := Lib.hid hO
      have Hg := Lib.hid hg
      have Htl := Lib.hid htl
      have Hall := Lib.hid hall
      have x0 := hg.cellEq HX0.out
      have x1 := hg.cellEq HX1.out
      have hbw := cell_lt x0
      clear hSn hRf hAg hol hO hg htl hall
      by_cases hlt : v < n
      · have e8 := own_atB HO.out (j := 1) rfl (i := v) hlt
        have b8 := own_lt HO.out (j := 1) rfl
        by_cases hin : v ∈ (B E n t).O
        · rw [HSn.out.v v hlt, decide_eq_true hin] at e8
          have Hal : Hid (∀ u, u < v + 1 → u ∈ (B E n t).O) := Lib.hid (fun u hu => by
            by_cases e : u = v
            · rw [e]; exact hin
            · exact Hall.out u (by omega))
          clear hin
          go_wp2
          go_roundw
          case rel => exact ⟨v + 1, t, out, sb, U, by omega, by go_num, htn, Htl.out, Hal.out, HSn.out, HRf.out, HAg.out, Hol.out, HO.out, Hg.out⟩
          case measure => simp [intOf]; omega
        · rw [HSn.out.v v hlt, decide_eq_false hin] at e8
          have HHd := Lib.hid (Hd.root HV.out htn Htl.out hlt hin Hall.out)
          have f8 := own_fr HO.out (j := 1) rfl
          replace f8 := f8 v
          have HSn2 : Hid (Sn n ⟨(B E n t).O ++ [v], (B E n t).par, (B E n t).roots + 1⟩ (sb.set v true)) := Lib.hid (HSn.out.add hlt rfl)
          have HRf2 := Lib.hid (HRf.out.root (v := v) Htl.out)
          have HAg2 := Lib.hid (HAg.out.root (Bn_sd HV.out htn).1 Hol.out hlt hin)
          have Hol2 : Hid ((out.set v (-1)).length = n) := Lib.hid (by rw [List.length_set]; exact Hol.out)
          have Hal : Hid (∀ u, u < v + 1 → u ∈ (B E n t).O ++ [v]) := Lib.hid (fun u hu => by
            by_cases e : u = v
            · rw [e]; simp
            · exact List.mem_append_left _ (Hall.out u (by omega)))
          have Hdr : Hid (((B E n t).O ++ [v]).drop t = [v]) := Lib.hid (by rw [List.drop_append_of_le_length (by have := Htl.out; omega), List.drop_of_length_le (by have := Htl.out; omega)]; rfl)
          obtain ⟨S, hS⟩ : ∃ S : BS, ⟨(B E n t).O ++ [v], (B E n t).par, (B E n t).roots + 1⟩ = S := ⟨_, rfl⟩
          have hSO : (B E n t).O ++ [v] = S.O := by rw [← hS]
          rw [hS] at HHd HSn2 HRf2 HAg2
          rw [hSO] at Hal Hdr
          have e7 := own_atI HO.out (j := 0) rfl (i := v) hlt
          have b7 := own_lt HO.out (j := 0) rfl
          have f7 := own_fr HO.out (j := 0) rfl
          replace f7 := f7 v
          have HO2 := Lib.hid (own_setI HO.out (j := 0) rfl v (-1))
          have HO3 := Lib.hid (own_setB HO2.out (j := 1) rfl v true)
          have Hg2 := Lib.hid (HO.out.setGrew (w0 := wa) (by have := HB2.out; omega) Hg.out (k := 0) rfl v (.int .i64 (-1)))
          have Hg3 := Lib.hid (HO2.out.setGrew (w0 := wa) (by have := HB2.out; omega) Hg2.out (k := 1) rfl v (.bool true))
          have hne : go ≠ gs := fun e => HO.out.2 0 1 _ _ rfl rfl (by decide) go rfl (by rw [e]; rfl)
          clear hS hSO HSn HRf HAg Hall hin
          go_upto_region 9 with fail
          obtain ⟨w7, hw7⟩ : ∃ w7, (wr.setCell ⟨go, v, none⟩ (.int .i64 (-1))).setCell ⟨gs, v, none⟩ (.bool true) = w7 := ⟨_, rfl⟩
          rw [hw7] at HO3 Hg3 ⊢
          clear hw7 HO Hg HO2 Hg2 e8 b8 f8 e7 b7 f7 x0 x1 hbw
          go_upto_region 10 with fail
          obtain ⟨w8, hw8⟩ : ∃ w8, w7.alloc (.cells #[.int .i64 (v : Int)] 3) = w8 := ⟨_, rfl⟩
          obtain ⟨gl, hgl⟩ : ∃ gl, w7.heap.size = gl := ⟨_, rfl⟩
          have HO4 : Hid (Owns w8 B2 [rC gl 1 1 (nL [v]), rI go n (out.set v (-1)), rB gs n (sb.set v true), rB gu E.length U]) := Lib.hid (by
            rw [← hw8]
            exact HO3.out.made (by have := Hg3.out.below.size; have := HB2.out; omega) #[.int .i64 (v : Int)] 3 1 1 gl rfl (by decide) hgl.symm)
          have Hg4 : Hid (Grew wa w8) := Lib.hid (by rw [← hw8]; exact Hg3.out.trans (by (repeat (first | exact Grew.refl _ | refine Grew.over ?_ _ | refine Grew.alloc ?_ _ | refine Grew.drew ?_ | refine Grew.drewN ?_ _))))
          rw [hw8]
          try rw [hgl]
          clear hw8 hgl HO3 Hg3
          go_wp2
          go_loopg [8, 9] (n - t) (fun gk v8 v9 wk => ∃ (t' : Nat) (S : BS) (gl cl : Nat) (out : List Int) (sb U : List Bool), v8 = .slice (some ⟨gl, 0, none⟩) (S.O.drop t).length cl ∧ v9 = .int .i64 ((t' - t : Nat) : Int) ∧ t ≤ t' ∧ n - t' = gk ∧ Hd E n t' S ∧ (∀ u, u < v + 1 → u ∈ S.O) ∧ Sn n S sb ∧ Rf E S t' 0 U ∧ Agr S out ∧ out.length = n ∧
            Owns wk B2 [rC gl (S.O.drop t).length cl (nL (S.O.drop t)), rI go n out, rB gs n sb, rB gu E.length U] ∧ Grew wa wk)
          case atStart => exact ⟨t, S, gl, 1, _, _, _, by rw [Hdr.out]; rfl, by rw [Nat.sub_self]; rfl, Nat.le_refl _, rfl, HHd.out, Hal.out, HSn2.out, HRf2.out, HAg2.out, Hol2.out, by rw [Hdr.out]; exact HO4.out, Hg4.out⟩
          case round =>
            clear HO4 Hg4 HSn2 HRf2 HAg2 Hol2 Hdr HHd Hal
            clear S
            obtain ⟨t', S, gl, cl, out, sb, U, rfl, rfl, htt, hgk, hHd, hal, hSn, hRf, hAg, hol, hO, hg⟩ := hrel
            obtain ⟨d, rfl⟩ : ∃ d, t' = t + d := ⟨t' - t, by omega⟩
            have HHd := Lib.hid hHd
            have Hal := Lib.hid hal
            have HSn := Lib.hid hSn
            have HRf := Lib.hid hRf
            have HAg := Lib.hid hAg
            have Hol := Lib.hid hol
            have HO := Lib.hid hO
            have Hg := Lib.hid hg
            have htn' := hHd.tn
            have hSl := hHd.sd.len
            have x0 := hg.cellEq HX0.out
            have x1 := hg.cellEq HX1.out
            have hbw := cell_lt x0
            have hdd : t + d - t = d := by omega
            rw [hdd]
            clear hHd hal hSn hRf hAg hol hO hg htt hdd
            obtain ⟨l0, hl0⟩ : ∃ l, S.O.drop t = l := ⟨_, rfl⟩
            have hll : l0.length = S.O.length - t := by rw [← hl0, List.length_drop]
            rw [hl0] at HO ⊢
            have Hl0 := Lib.hid hl0
            have Hll := Lib.hid hll
            by_cases ht : t + d < S.O.length
            · have Ht := Lib.hid ht
              have hcn := HHd.out.sd.lt _ (oc_mem ht)
              have hd0 : d < l0.length := by omega
              have hd0i : (d : Int) < (l0.length : Int) := by omega
              obtain ⟨c, hc⟩ : ∃ c, oc S (t + d) = c := ⟨_, rfl⟩
              rw [hc] at hcn
              have Hc := Lib.hid hc
              clear hl0 hll hc
              go_wp2
              go_loopw [8, 10] (fun v8 v10 wk => ∃ (i : Nat) (S' : BS) (gl cl : Nat) (out : List Int) (sb U : List Bool) (l : List Nat), i ≤ E.length ∧ v10 = .int .i64 i ∧ v8 = .slice (some ⟨gl, 0, none⟩) l.length cl ∧ l = S'.O.drop t ∧ S' = visits c S (near E c i) ∧ Sd n S' ∧ (∃ l, S'.O = S.O ++ l) ∧
                Sn n S' sb ∧ Rf E S' (t + d) i U ∧ Agr S' out ∧ out.length = n ∧ Owns wk B2 [rC gl l.length cl (nL l), rI go n out, rB gs n sb, rB gu E.length U] ∧ Grew wa wk) (fun _ v10 _ => E.length - (intOf v10).toNat)
              case atStart => exact ⟨0, S, gl, cl, out, sb, U, l0, Nat.zero_le _, rfl, rfl, Hl0.out.symm, rfl, HHd.out.sd, ⟨[], by simp⟩, HSn.out, HRf.out, HAg.out, Hol.out, HO.out, Hg.out⟩
              case round =>
                clear HO Hg HSn HRf HAg Hol hd0 hd0i x0 x1 hbw
                obtain ⟨i, S', gl, cl, out, sb, U, l, hi, rfl, rfl, hdr, hS', hSd, hext, hSn, hRf, hAg, hol, hO, hg⟩ := hrel
                have Hdr := Lib.hid hdr
                have HS' := Lib.hid hS'
                have HSd := Lib.hid hSd
                have Hext := Lib.hid hext
                have HSn := Lib.hid hSn
                have HRf := Lib.hid hRf
                have HAg := Lib.hid hAg
                have Hol := Lib.hid hol
                have HO := Lib.hid hO
                have Hg := Lib.hid hg
                have x0 := hg.cellEq HX0.out
                have x1 := hg.cellEq HX1.out
                have hbw := cell_lt x0
                have hSl' := hSd.len
                obtain ⟨ex, hex⟩ := hext
                have htS' : t + d < S'.O.length := by rw [hex, List.length_append]; have := Ht.out; omega
                have Hoc : Hid (oc S' (t + d) = c) := Lib.hid (by rw [oc_app hex Ht.out]; exact Hc.out)
                have hll : l.length = S'.O.length - t := by rw [hdr, List.length_drop]
                have hdl : d < l.length := by omega
                have Hcd : Hid (ge (nL l) d = (c : Int)) := Lib.hid (by rw [ge_nL hdl, hdr, drop_get, Hoc.out])
                have Hll := Lib.hid hll
                have hl64 : l.length ≤ 64 := by omega
                clear hdr hS' hSd hSn hRf hAg hol hO hg hex hll
                by_cases hlt2 : i < E.length
                · obtain ⟨b2, o2, hq2, hb20, _⟩ := HE.out.open hlt2
                  subst hq2
                  obtain ⟨b2', o2', hq3, hb2, c0, c1⟩ := (HE.out.grew (Hga.out.trans Hg.out)).open hlt2
                  simp only [Option.some.injEq, Addr.mk.injEq, and_true] at hq3
                  obtain ⟨rfl, rfl⟩ := hq3
                  obtain ⟨hfN, hfr⟩ := HV.out.aF hlt2
                  obtain ⟨htN, hto⟩ := HV.out.aT hlt2
                  rw [toNat_n] at hfN htN
                  rw [hfr] at c0
                  rw [hto] at c1
                  have hskip := fun h => HRf.out.skip hlt2 h
                  obtain ⟨fa, hfa⟩ : ∃ f, aF E i = f := ⟨_, rfl⟩
                  obtain ⟨ta, hta⟩ : ∃ f, aT E i = f := ⟨_, rfl⟩
                  rw [hfa] at c0 hfN
                  rw [hta] at c1 htN
                  have Hfa := Lib.hid hfa
                  have Hta := Lib.hid hta
                  clear hfa hta hfr hto hskip hb20
                  go_upto_region 17 with fail
                  obtain ⟨w3, hw3⟩ : ∃ w3, wr.alloc (.cells #[.int .i64 (fa : Int), .int .i64 (ta : Int)] 52) = w3 := ⟨_, rfl⟩
                  obtain ⟨aw, haw⟩ : ∃ aw, wr.heap.size = aw := ⟨_, rfl⟩
                  have HO3 : Hid (Owns w3 B2 [⟨.slice (some ⟨aw, 0, none⟩) 2 2, 52, 1, 2, [.int .i64 (fa : Int), .int .i64 (ta : Int)]⟩, rC gl l.length cl (nL l), rI go n out, rB gs n sb, rB gu E.length U]) :=
                    Lib.hid (by rw [← hw3]; exact HO.out.made (by have := Hg.out.below.size; have := HB2.out; omega) #[.int .i64 (fa : Int), .int .i64 (ta : Int)] 52 1 2 aw rfl (by decide) haw.symm)
                  have Hg3 : Hid (Grew wa w3) := Lib.hid (by rw [← hw3]; exact Hg.out.trans (by (repeat (first | exact Grew.refl _ | refine Grew.over ?_ _ | refine Grew.alloc ?_ _ | refine Grew.drew ?_ | refine Grew.drewN ?_ _))))
                  rw [hw3]
                  try rw [haw]
                  clear hw3 haw c0 c1 HO Hg hb2 x0 x1 hbw
                  have z0 := (own_blk HO3.out (j := 0) rfl).2.2.2.2 0 _ rfl
                  have z1 := (own_blk HO3.out (j := 0) rfl).2.2.2.2 1 _ rfl
                  have ha3 := own_lt HO3.out (j := 0) rfl
                  have el := own_atC HO3.out (j := 1) rfl (i := d) (by rw [nL_len]; exact hdl)
                  rw [Hcd.out] at el
                  have bl := own_lt HO3.out (j := 1) rfl
                  have e6 := own_atB HO3.out (j := 4) rfl (i := i) hlt2
                  have b6 := own_lt HO3.out (j := 4) rfl
                  cases hub : gb U i
                  case true =>
                    rw [hub] at e6
                    have Hsk := Lib.hid (HRf.out.skip hlt2 (Or.inl hub))
                    refine wp_region_over (by kernel_rfl) (by kernel_rfl) ?_; (repeat (go_big_quiet_step (fail))); refine wpQuiet_nil ?_; intro w4 hW; replace hW : Grew _ w4 := hW
                    have HO4 := Lib.hid ((HO3.out.grew hW).tail)
                    have Hg4 := Lib.hid (Hg3.out.trans hW)
                    have Hvs : Hid (S' = visits c S (near E c (i + 1))) := Lib.hid (by rw [near_succ, visits_app, ← HS'.out, ← Hoc.out]; exact Hsk.out.1.symm)
                    clear hW
                    go_wp2
                    go_roundw
                    case rel => exact ⟨i + 1, S', gl, cl, out, sb, U, l, by omega, by go_num, rfl, Hdr.out, Hvs.out, HSd.out, Hext.out, HSn.out, Hsk.out.2, HAg.out, Hol.out, HO4.out, Hg4.out⟩
                    case measure => simp [intOf]; omega
                  case false =>
                    rw [hub] at e6
                    by_cases hfc : fa = c
                    · obtain ⟨o, ho⟩ : ∃ o, ta = o := ⟨_, rfl⟩
                      have Ho : Hid ((aF E i = c ∧ o = aT E i) ∨ (aT E i = c ∧ o = aF E i)) := Lib.hid (Or.inl ⟨by rw [Hfa.out, hfc], by rw [Hta.out, ho]⟩)
                      have hon : o < n := by omega
                      have He : Hid ((fa : Int) + (ta : Int) - (c : Int) = (o : Int)) := Lib.hid (by omega)
                      have hq1 : ((fa : Int) != (c : Int)) = false := by rw [hfc]; simp
                      clear ho hfc
                      have hun : gb U i = false := hub
                      refine wp_region_over (by kernel_rfl) (by kernel_rfl) ?_; (repeat (go_big_quiet_step (fail))); refine wpQuiet_nil ?_; intro w4 hW; replace hW : Grew _ w4 := hW
                      have HO4 := Lib.hid (HO3.out.grew hW)
                      have Hg4 := Lib.hid (Hg3.out.trans hW)
                      clear hW HO3 Hg3 e6 b6 z0 z1 ha3 el bl
                      have e6 := own_atB HO4.out (j := 4) rfl (i := i) hlt2
                      have b6 := own_lt HO4.out (j := 4) rfl
                      have f6 := own_fr HO4.out (j := 4) rfl
                      replace f6 := f6 i
                      have HO5 := Lib.hid (own_setB HO4.out (j := 4) rfl i true)
                      have Hg5 := Lib.hid (HO4.out.setGrew (w0 := wa) (by have := HB2.out; omega) Hg4.out (k := 4) rfl i (.bool true))
                      go_upto_region 19 with fail
                      obtain ⟨w5, hw5⟩ : ∃ w5, w4.setCell ⟨gu, i, none⟩ (.bool true) = w5 := ⟨_, rfl⟩
                      rw [hw5] at HO5 Hg5 ⊢
                      clear hw5 HO4 Hg4 e6 b6 f6
                      have z0 := (own_blk HO5.out (j := 0) rfl).2.2.2.2 0 _ rfl
                      have z1 := (own_blk HO5.out (j := 0) rfl).2.2.2.2 1 _ rfl
                      have ha5 := own_lt HO5.out (j := 0) rfl
                      have el := own_atC HO5.out (j := 1) rfl (i := d) (by rw [nL_len]; exact hdl)
                      rw [Hcd.out] at el
                      have bl := own_lt HO5.out (j := 1) rfl
                      refine wp_region_over (by kernel_rfl) (by kernel_rfl) ?_; (repeat (go_big_quiet_step (fail))); refine wpQuiet_nil ?_; intro w6 hW; replace hW : Grew _ w6 := hW
                      rw [He.out]
                      have HO6 := Lib.hid (HO5.out.grew hW)
                      have Hg6 := Lib.hid (Hg5.out.trans hW)
                      clear hW HO5 Hg5 z0 z1 ha5 el bl
                      have e8 := own_atB HO6.out (j := 3) rfl (i := o) hon
                      have b8 := own_lt HO6.out (j := 3) rfl
                      by_cases hin : o ∈ S'.O
                      · rw [HSn.out.v o hon, decide_eq_true hin] at e8
                        have hends : aF E i ∈ S'.O ∧ aT E i ∈ S'.O := by
                          have hcm : c ∈ S'.O := by rw [← Hoc.out]; exact oc_mem htS'
                          rcases Ho.out with ⟨e1, e2⟩ | ⟨e1, e2⟩
                          · rw [e1, ← e2]; exact ⟨hcm, hin⟩
                          · rw [e1, ← e2]; exact ⟨hin, hcm⟩
                        have Hno : Hid (¬ E.length + (B E n n).roots = n) := Lib.hid (by
                          have h1 := HRf.out.err hlt2 hun hends.1 hends.2
                          rw [HS'.out] at h1
                          have h2 := FExt.near (by rw [← Hc.out]; exact oc_mem Ht.out) h1 E.length (by omega) (Nat.le_refl _)
                          have h3 := (HHd.out.next HV.out Ht.out).1
                          rw [Hc.out] at h3
                          rw [h3] at h2
                          exact FExt.fin HV.out (by have := HHd.out.sd.len; have := Ht.out; omega) h2)
                        clear hin hends
                        go_wp2
                        go_ret2
                        exact ⟨Hga.out.trans Hg6.out, Or.inr ⟨n, rfl, HV.out, Or.inl ⟨Hno.out, rfl⟩⟩⟩
                      · rw [HSn.out.v o hon, decide_eq_false hin] at e8
                        have huse := HRf.out.use (o := o) hlt2 hun htS' (by rw [Hoc.out]; exact Ho.out) hin
                        rw [Hoc.out] at huse
                        have hag := HAg.out.use (o := o) (c := c) HSd.out Hol.out hon
                        obtain ⟨S2, hS2⟩ : ∃ S2 : BS, ⟨S'.O ++ [o], S'.par.set o (c : Int), S'.roots⟩ = S2 := ⟨_, rfl⟩
                        have hO2 : S2.O = S'.O ++ [o] := by rw [← hS2]
                        rw [hS2] at huse hag
                        have Hvs : Hid (S2 = visits c S (near E c (i + 1))) := Lib.hid (by rw [near_succ, visits_app, ← HS'.out]; exact huse.1.symm)
                        have HRf2 := Lib.hid huse.2
                        have HAg2 := Lib.hid hag
                        have HSd2 : Hid (Sd n S2) := Lib.hid (by
                          have h := HSd.out.visit hcn hon
                          unfold visit at h
                          rw [if_neg hin, hS2] at h
                          exact h)
                        have HSn2 : Hid (Sn n S2 (sb.set o true)) := Lib.hid (HSn.out.add hon hO2)
                        have Hext2 : Hid (∃ l, S2.O = S.O ++ l) := Lib.hid (by
                          obtain ⟨l, hl⟩ := Hext.out
                          exact ⟨l ++ [o], by rw [hO2, hl, List.append_assoc]⟩)
                        have Hdr2 : Hid (l ++ [o] = S2.O.drop t) := Lib.hid (by rw [hO2, drop_add (by omega), ← Hdr.out])
                        have Hol2 : Hid ((out.set o (c : Int)).length = n) := Lib.hid (by rw [List.length_set]; exact Hol.out)
                        have f8 := own_fr HO6.out (j := 3) rfl
                        replace f8 := f8 o
                        have e7 := own_atI HO6.out (j := 2) rfl (i := o) hon
                        have b7 := own_lt HO6.out (j := 2) rfl
                        have f7 := own_fr HO6.out (j := 2) rfl
                        replace f7 := f7 o
                        have el := own_atC HO6.out (j := 1) rfl (i := d) (by rw [nL_len]; exact hdl)
                        rw [Hcd.out] at el
                        have bl := own_lt HO6.out (j := 1) rfl
                        have HO7 := Lib.hid (own_setI HO6.out (j := 2) rfl o (c : Int))
                        have HO8 := Lib.hid (own_setB HO7.out (j := 3) rfl o true)
                        have Hg7 := Lib.hid (HO6.out.setGrew (w0 := wa) (by have := HB2.out; omega) Hg6.out (k := 2) rfl o (.int .i64 (c : Int)))
                        have Hg8 := Lib.hid (HO7.out.setGrew (w0 := wa) (by have := HB2.out; omega) Hg7.out (k := 3) rfl o (.bool true))
                        clear hO2 hS2 hin huse hag
                        go_upto_region 23 with fail
                        obtain ⟨w8, hw8⟩ : ∃ w8, (w6.setCell ⟨go, o, none⟩ (.int .i64 (c : Int))).setCell ⟨gs, o, none⟩ (.bool true) = w8 := ⟨_, rfl⟩
                        rw [hw8] at HO8 Hg8 ⊢
                        have hB8 : B2 ≤ w8.heap.size := by have := Hg8.out.below.size; have := HB2.out; omega
                        clear hw8 HO6 Hg6 HO7 Hg7 e8 b8 f8 e7 b7 f7 el bl
                        go_upto_region 15 with (at_builtin; refine wp_append_owns rfl _ _ 22 rfl 3 1 8 (.int .i64 0) Try.underlying22 Try.infoInt rfl (by decide) B2 _ 1 _ _ _ (HO8.out.grew (by (repeat (first | exact Grew.refl _ | refine Grew.over ?_ _ | refine Grew.alloc ?_ _ | refine Grew.drew ?_ | refine Grew.drewN ?_ _)))) rfl rfl _ 1 1 rfl [.int .i64 (o : Int)] rfl (fun h => by cases h) (one_news _ (by rw [Addr.add_lit]; (simp [go_sem, ↓IntWalk.iteOmega]))) (by simp [Value.oneCell']) (by simp only [maxLen]; omega) (by omega) (by first | rfl | omega | (simp <;> omega)) ?_; intro v1 w9 hO9 hg9 hb9 hnz; have Hg9 : Hid (Grew wa w9) := Lib.hid (Grew.grownBy (w0 := wa) (Hg8.out.trans (by (repeat (first | exact Grew.refl _ | refine Grew.over ?_ _ | refine Grew.alloc ?_ _ | refine Grew.drew ?_ | refine Grew.drewN ?_ _)))) hg9 (fun k h => by have := hb9 k h; have := HB2.out; omega)); have HO9 := Lib.hid hO9; clear hO9 hg9 hb9 hnz)
                        have hO9 := HO9.out
                        simp only [List.set_cons_succ, List.set_cons_zero] at hO9
                        obtain ⟨g1, c1, hv1, _⟩ := hO9.some (k := 1) rfl (by omega)
                        subst hv1
                        have HO10 : Hid (Owns w9 B2 [rC g1 (l ++ [o]).length c1 (nL (l ++ [o])), rI go n (out.set o (c : Int)), rB gs n (sb.set o true), rB gu E.length (U.set i true)]) := Lib.hid (by
                          have h := hO9.tail
                          rw [List.length_append, nL_app]
                          unfold rC
                          rw [intVs_app]
                          exact h)
                        clear hO9 HO9
                        go_wp2
                        go_roundw
                        case rel => exact ⟨i + 1, S2, g1, c1, _, _, _, l ++ [o], by omega, by go_num, by rw [List.length_append]; rfl, Hdr2.out, Hvs.out, HSd2.out, Hext2.out, HSn2.out, HRf2.out, HAg2.out, Hol2.out, HO10.out, Hg9.out⟩
                        case measure => simp [intOf]; omega
                    · by_cases htc : ta = c
                      · obtain ⟨o, ho⟩ : ∃ o, fa = o := ⟨_, rfl⟩
                        have Ho : Hid ((aF E i = c ∧ o = aT E i) ∨ (aT E i = c ∧ o = aF E i)) := Lib.hid (Or.inr ⟨by rw [Hta.out, htc], by rw [Hfa.out, ho]⟩)
                        have hon : o < n := by omega
                        have He : Hid ((fa : Int) + (ta : Int) - (c : Int) = (o : Int)) := Lib.hid (by omega)
                        have hq1 : ((fa : Int) != (c : Int)) = true := by rw [bne_iff_ne]; omega
                        have hq2 : ((ta : Int) != (c : Int)) = false := by rw [htc]; simp
                        clear ho hfc htc
                        have hun : gb U i = false := hub
                        refine wp_region_over (by kernel_rfl) (by kernel_rfl) ?_; (repeat (go_big_quiet_step (fail))); refine wpQuiet_nil ?_; intro w4 hW; replace hW : Grew _ w4 := hW
                        have HO4 := Lib.hid (HO3.out.grew hW)
                        have Hg4 := Lib.hid (Hg3.out.trans hW)
                        clear hW HO3 Hg3 e6 b6 z0 z1 ha3 el bl
                        have e6 := own_atB HO4.out (j := 4) rfl (i := i) hlt2
                        have b6 := own_lt HO4.out (j := 4) rfl
                        have f6 := own_fr HO4.out (j := 4) rfl
                        replace f6 := f6 i
                        have HO5 := Lib.hid (own_setB HO4.out (j := 4) rfl i true)
                        have Hg5 := Lib.hid (HO4.out.setGrew (w0 := wa) (by have := HB2.out; omega) Hg4.out (k := 4) rfl i (.bool true))
                        go_upto_region 19 with fail
                        obtain ⟨w5, hw5⟩ : ∃ w5, w4.setCell ⟨gu, i, none⟩ (.bool true) = w5 := ⟨_, rfl⟩
                        rw [hw5] at HO5 Hg5 ⊢
                        clear hw5 HO4 Hg4 e6 b6 f6
                        have z0 := (own_blk HO5.out (j := 0) rfl).2.2.2.2 0 _ rfl
                        have z1 := (own_blk HO5.out (j := 0) rfl).2.2.2.2 1 _ rfl
                        have ha5 := own_lt HO5.out (j := 0) rfl
                        have el := own_atC HO5.out (j := 1) rfl (i := d) (by rw [nL_len]; exact hdl)
                        rw [Hcd.out] at el
                        have bl := own_lt HO5.out (j := 1) rfl
                        refine wp_region_over (by kernel_rfl) (by kernel_rfl) ?_; (repeat (go_big_quiet_step (fail))); refine wpQuiet_nil ?_; intro w6 hW; replace hW : Grew _ w6 := hW
                        rw [He.out]
                        have HO6 := Lib.hid (HO5.out.grew hW)
                        have Hg6 := Lib.hid (Hg5.out.trans hW)
                        clear hW HO5 Hg5 z0 z1 ha5 el bl
                        have e8 := own_atB HO6.out (j := 3) rfl (i := o) hon
                        have b8 := own_lt HO6.out (j := 3) rfl
                        by_cases hin : o ∈ S'.O
                        · rw [HSn.out.v o hon, decide_eq_true hin] at e8
                          have hends : aF E i ∈ S'.O ∧ aT E i ∈ S'.O := by
                            have hcm : c ∈ S'.O := by rw [← Hoc.out]; exact oc_mem htS'
                            rcases Ho.out with ⟨e1, e2⟩ | ⟨e1, e2⟩
                            · rw [e1, ← e2]; exact ⟨hcm, hin⟩
                            · rw [e1, ← e2]; exact ⟨hin, hcm⟩
                          have Hno : Hid (¬ E.length + (B E n n).roots = n) := Lib.hid (by
                            have h1 := HRf.out.err hlt2 hun hends.1 hends.2
                            rw [HS'.out] at h1
                            have h2 := FExt.near (by rw [← Hc.out]; exact oc_mem Ht.out) h1 E.length (by omega) (Nat.le_refl _)
                            have h3 := (HHd.out.next HV.out Ht.out).1
                            rw [Hc.out] at h3
                            rw [h3] at h2
                            exact FExt.fin HV.out (by have := HHd.out.sd.len; have := Ht.out; omega) h2)
                          clear hin hends
                          go_wp2
                          go_ret2
                          exact ⟨Hga.out.trans Hg6.out, Or.inr ⟨n, rfl, HV.out, Or.inl ⟨Hno.out, rfl⟩⟩⟩
                        · rw [HSn.out.v o hon, decide_eq_false hin] at e8
                          have huse := HRf.out.use (o := o) hlt2 hun htS' (by rw [Hoc.out]; exact Ho.out) hin
                          rw [Hoc.out] at huse
                          have hag := HAg.out.use (o := o) (c := c) HSd.out Hol.out hon
                          obtain ⟨S2, hS2⟩ : ∃ S2 : BS, ⟨S'.O ++ [o], S'.par.set o (c : Int), S'.roots⟩ = S2 := ⟨_, rfl⟩
                          have hO2 : S2.O = S'.O ++ [o] := by rw [← hS2]
                          rw [hS2] at huse hag
                          have Hvs : Hid (S2 = visits c S (near E c (i + 1))) := Lib.hid (by rw [near_succ, visits_app, ← HS'.out]; exact huse.1.symm)
                          have HRf2 := Lib.hid huse.2
                          have HAg2 := Lib.hid hag
                          have HSd2 : Hid (Sd n S2) := Lib.hid (by
                            have h := HSd.out.visit hcn hon
                            unfold visit at h
                            rw [if_neg hin, hS2] at h
                            exact h)
                          have HSn2 : Hid (Sn n S2 (sb.set o true)) := Lib.hid (HSn.out.add hon hO2)
                          have Hext2 : Hid (∃ l, S2.O = S.O ++ l) := Lib.hid (by
                            obtain ⟨l, hl⟩ := Hext.out
                            exact ⟨l ++ [o], by rw [hO2, hl, List.append_assoc]⟩)
                          have Hdr2 : Hid (l ++ [o] = S2.O.drop t) := Lib.hid (by rw [hO2, drop_add (by omega), ← Hdr.out])
                          have Hol2 : Hid ((out.set o (c : Int)).length = n) := Lib.hid (by rw [List.length_set]; exact Hol.out)
                          have f8 := own_fr HO6.out (j := 3) rfl
                          replace f8 := f8 o
                          have e7 := own_atI HO6.out (j := 2) rfl (i := o) hon
                          have b7 := own_lt HO6.out (j := 2) rfl
                          have f7 := own_fr HO6.out (j := 2) rfl
                          replace f7 := f7 o
                          have el := own_atC HO6.out (j := 1) rfl (i := d) (by rw [nL_len]; exact hdl)
                          rw [Hcd.out] at el
                          have bl := own_lt HO6.out (j := 1) rfl
                          have HO7 := Lib.hid (own_setI HO6.out (j := 2) rfl o (c : Int))
                          have HO8 := Lib.hid (own_setB HO7.out (j := 3) rfl o true)
                          have Hg7 := Lib.hid (HO6.out.setGrew (w0 := wa) (by have := HB2.out; omega) Hg6.out (k := 2) rfl o (.int .i64 (c : Int)))
                          have Hg8 := Lib.hid (HO7.out.setGrew (w0 := wa) (by have := HB2.out; omega) Hg7.out (k := 3) rfl o (.bool true))
                          clear hO2 hS2 hin huse hag
                          go_upto_region 23 with fail
                          obtain ⟨w8, hw8⟩ : ∃ w8, (w6.setCell ⟨go, o, none⟩ (.int .i64 (c : Int))).setCell ⟨gs, o, none⟩ (.bool true) = w8 := ⟨_, rfl⟩
                          rw [hw8] at HO8 Hg8 ⊢
                          have hB8 : B2 ≤ w8.heap.size := by have := Hg8.out.below.size; have := HB2.out; omega
                          clear hw8 HO6 Hg6 HO7 Hg7 e8 b8 f8 e7 b7 f7 el bl
                          go_upto_region 15 with (at_builtin; refine wp_append_owns rfl _ _ 22 rfl 3 1 8 (.int .i64 0) Try.underlying22 Try.infoInt rfl (by decide) B2 _ 1 _ _ _ (HO8.out.grew (by (repeat (first | exact Grew.refl _ | refine Grew.over ?_ _ | refine Grew.alloc ?_ _ | refine Grew.drew ?_ | refine Grew.drewN ?_ _)))) rfl rfl _ 1 1 rfl [.int .i64 (o : Int)] rfl (fun h => by cases h) (one_news _ (by rw [Addr.add_lit]; (simp [go_sem, ↓IntWalk.iteOmega]))) (by simp [Value.oneCell']) (by simp only [maxLen]; omega) (by omega) (by first | rfl | omega | (simp <;> omega)) ?_; intro v1 w9 hO9 hg9 hb9 hnz; have Hg9 : Hid (Grew wa w9) := Lib.hid (Grew.grownBy (w0 := wa) (Hg8.out.trans (by (repeat (first | exact Grew.refl _ | refine Grew.over ?_ _ | refine Grew.alloc ?_ _ | refine Grew.drew ?_ | refine Grew.drewN ?_ _)))) hg9 (fun k h => by have := hb9 k h; have := HB2.out; omega)); have HO9 := Lib.hid hO9; clear hO9 hg9 hb9 hnz)
                          have hO9 := HO9.out
                          simp only [List.set_cons_succ, List.set_cons_zero] at hO9
                          obtain ⟨g1, c1, hv1, _⟩ := hO9.some (k := 1) rfl (by omega)
                          subst hv1
                          have HO10 : Hid (Owns w9 B2 [rC g1 (l ++ [o]).length c1 (nL (l ++ [o])), rI go n (out.set o (c : Int)), rB gs n (sb.set o true), rB gu E.length (U.set i true)]) := Lib.hid (by
                            have h := hO9.tail
                            rw [List.length_append, nL_app]
                            unfold rC
                            rw [intVs_app]
                            exact h)
                          clear hO9 HO9
                          go_wp2
                          go_roundw
                          case rel => exact ⟨i + 1, S2, g1, c1, _, _, _, l ++ [o], by omega, by go_num, by rw [List.length_append]; rfl, Hdr2.out, Hvs.out, HSd2.out, Hext2.out, HSn2.out, HRf2.out, HAg2.out, Hol2.out, HO10.out, Hg9.out⟩
                          case measure => simp [intOf]; omega
                      · have hq1 : ((fa : Int) != (c : Int)) = true := by rw [bne_iff_ne]; omega
                        have hq2 : ((ta : Int) != (c : Int)) = true := by rw [bne_iff_ne]; omega
                        have hsk0 : gb U i = true ∨ (aF E i ≠ oc S' (t + d) ∧ aT E i ≠ oc S' (t + d)) := Or.inr ⟨by rw [Hfa.out, Hoc.out]; exact hfc, by rw [Hta.out, Hoc.out]; exact htc⟩
                        have Hsk0 := Lib.hid hsk0
                        clear hsk0 hfc htc
                        have Hsk := Lib.hid (HRf.out.skip hlt2 Hsk0.out)
                        refine wp_region_over (by kernel_rfl) (by kernel_rfl) ?_; (repeat (go_big_quiet_step (fail))); refine wpQuiet_nil ?_; intro w4 hW; replace hW : Grew _ w4 := hW
                        have HO4 := Lib.hid ((HO3.out.grew hW).tail)
                        have Hg4 := Lib.hid (Hg3.out.trans hW)
                        have Hvs : Hid (S' = visits c S (near E c (i + 1))) := Lib.hid (by rw [near_succ, visits_app, ← HS'.out, ← Hoc.out]; exact Hsk.out.1.symm)
                        clear hW
                        go_wp2
                        go_roundw
                        case rel => exact ⟨i + 1, S', gl, cl, out, sb, U, l, by omega, by go_num, rfl, Hdr.out, Hvs.out, HSd.out, Hext.out, HSn.out, Hsk.out.2, HAg.out, Hol.out, HO4.out, Hg4.out⟩
                        case measure => simp [intOf]; omega
                · have hie : i = E.length := by omega
                  subst hie
                  have HSB : Hid (S' = B E n (t + d + 1) ∧ Hd E n (t + d + 1) S') := Lib.hid (by
                    have h1 := HHd.out.next HV.out Ht.out
                    have h2 := HS'.out
                    rw [Hc.out] at h1
                    rw [h1.1] at h2
                    exact ⟨h2, by rw [h2]; exact h1.2⟩)
                  have HAl : Hid (∀ u, u < v + 1 → u ∈ S'.O) := Lib.hid (fun u hu => by
                    obtain ⟨l, hl⟩ := Hext.out
                    rw [hl]
                    exact List.mem_append_left _ (Hal.out u hu))
                  have HRf3 := Lib.hid HRf.out.next
                  have Htn : Hid (t + d + 1 ≤ n) := Lib.hid HSB.out.2.tn
                  have He : Hid ((d : Int) + 1 = ((t + d + 1 - t : Nat) : Int)) := Lib.hid (by omega)
                  go_wp2
                  go_roundg (n - (t + d + 1))
                  case rel => exact ⟨t + d + 1, S', gl, cl, out, sb, U, by rw [← Hdr.out], by rw [← He.out], by omega, rfl, HSB.out.2, HAl.out, HSn.out, HRf3.out, HAg.out, Hol.out, by rw [← Hdr.out]; exact HO.out, Hg.out⟩
                  case measure => have := Htn.out; omega
            · have hS := HHd.out.stop HV.out ht
              subst hS
              have htl : t + d = (B E n (t + d)).O.length := by have := HHd.out.tl; omega
              have Htl2 := Lib.hid htl
              have hdl : ¬ d < l0.length := by omega
              have hdi : ¬ (d : Int) < (l0.length : Int) := by omega
              have HO2 := Lib.hid HO.out.tail
              clear hl0 hll htl ht
              go_wp2
              go_roundw
              case rel => exact ⟨v + 1, t + d, out, sb, U, by omega, by go_num, htn', Htl2.out, Hal.out, HSn.out, HRf.out, HAg.out, Hol.out, HO2.out, Hg.out⟩
              case measure => simp [intOf]; omega
      · have hve : v = n := by omega
        subst hve
        have hsd := (Bn_sd HV.out htn).1
        have hol := all_len hsd Hall.out
        have hte : t = v := by have := Htl.out; omega
        subst hte
        have hpl := hsd.pl
        have hout := HAg.out.done hsd Hol.out hol
        rw [hout] at HO
        have HI : Hid (Ints wr (some ⟨go, 0, none⟩) (B E t t).par) := Lib.hid (own_intsG HO.out (k := 0) rfl hpl (by omega) (par_ints hsd (by omega)))
        have hcnt := Rf.done (N := (t : Int)) HV.out (S := B E t t) (U := U) (by rw [toNat_n]; exact hsd) (by rw [toNat_n]; exact hol) (by rw [toNat_n]; exact HRf.out)
        rw [toNat_n] at hcnt
        have Hc := Lib.hid hcnt
        have Hgw := Lib.hid (Hga.out.trans Hg.out)
        have HL := Lib.hid hpl
        clear hsd hol hpl hout hcnt HO HSn Hall Htl Hg HAg HRf Hol
        cases hf : vForB (B E t t).par
        · have Hf := Lib.hid hf
          have Hno : Hid (¬ vFor (B E t t).par) := Lib.hid (fun h => by rw [vForB_iff.2 h] at hf; cases hf)
          clear hf
          go_wp2_with (go_at_call 20; apply Calls.mono; (with_reducible exact validr_e Hf.out HI.out HL.out); rintro e w' ⟨rfl, rfl⟩)
          go_ret2
          exact ⟨Hgw.out, Or.inr ⟨t, rfl, HV.out, Or.inr (Or.inl ⟨Hc.out, Hno.out, rfl⟩)⟩⟩
        · have Hf := Lib.hid hf
          have Hno : Hid (vFor (B E t t).par) := Lib.hid (vForB_iff.1 hf)
          clear hf
          go_wp2_with (go_at_call 20; apply Calls.mono; (with_reducible exact validr_e Hf.out HI.out HL.out); rintro e w' ⟨rfl, rfl⟩)
          go_ret2
          exact ⟨Hgw.out, Or.inr ⟨t, rfl, HV.out, Or.inr (Or.inr ⟨Hc.out, Hno.out, _, _, rfl, HI.out⟩)⟩⟩
end Go.Proofs.Ytgodoeefgmfpfaa
