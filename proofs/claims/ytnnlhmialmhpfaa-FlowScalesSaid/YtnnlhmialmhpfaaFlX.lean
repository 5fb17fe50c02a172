/- The augmentation of the reference. -/
import Derived.Test.YtnnlhmialmhpfaaFlW
import Derived.Test.YtnnlhmialmhpfaaFlU
set_option linter.unusedSimpArgs false
set_option linter.unusedVariables false
namespace Go.Proofs.Ytnnlhmialmhpfaa
open Go.RowKit
attribute [local go_sem ↓] Go.wp_at_zero Go.wp_at_succ

set_option maxRecDepth 8000 in
set_option maxHeartbeats 16000000 in
theorem augment_r (p q r x : Option Addr) (n cp m cq cr cx a : Nat) (s : List Int) (A : List Ark) (f xs : List Int) (w : World) (hV : vN s A) (hA : Arks w q A) (hF : Ints w r f) (hX : Ints w x xs) (hSt : St s A f xs) (hn : s.length = n) (hm : A.length = m)
    (ha : a < s.length) (ha0 : 0 < ge xs a) (hnil : r = none → m = 0 ∧ cr = 0) :
    Calls Try.prog 31 #[.agg #[.slice p n cp, .slice q m cq], .slice r m cr, .slice x n cx, .int .i64 a] w fun e w' => Grew w w' ∧ ((e = .returned (.tuple #[.slice none 0 0, .bool false]) ∧ Cut s A) ∨
      ∃ po co f', e = .returned (.tuple #[.slice po m co, .bool true]) ∧ Owns w' w.heap.size [lR (.slice po m co) m f'] ∧ St s A f' (exL s A f' m) ∧ mp s.length (exL s A f' m) < mp s.length xs) := by
  have Hres := Lib.hid (fun (W : World) (hg : Grew w W) => residual_r p q r n cp m cq m cr s A f W (hA.grew hg) (hF.grew hg) hm (hSt.fit.l.trans hm) hV hSt.fit)
  have h256 := hV.n
  have h2048 := hV.m
  obtain ⟨π, hp⟩ := hSt.pot
  have Hpa := Lib.hid (fun (W : World) (pv : Option Addr) (cv : Nat) (hS : StpR W pv A f (resL A f A.length)) => paths_r pv (resL A f A.length).length cv n a s A f π W hV hp hS rfl hn (by omega))
  subst hn hm
  have hl4096 : (resL A f A.length).length ≤ 4096 := by have := resL_len A f A.length; omega
  have HV := Lib.hid hV
  have HX := Lib.hid hX
  have HF := Lib.hid hF
  have HSt := Lib.hid hSt
  have Hnil := Lib.hid hnil
  have Hxl := Lib.hid hSt.xl
  have Hfl := Lib.hid hSt.fit.l
  have Ha0 := Lib.hid ha0
  obtain ⟨L, hL⟩ : ∃ L, resL A f A.length = L := ⟨_, rfl⟩
  rw [hL] at Hres Hpa hl4096
  have HL := Lib.hid hL
  have Hm : Hid (∀ (t i : Nat) (b : Bool), L[t]? = some (i, b) → i < A.length) := Lib.hid (fun t i b ht => by rw [← HL.out] at ht; exact (mem_resL.1 (List.mem_of_getElem? ht)).1)
  clear hV hA hF hX hSt hnil hp hL ha0
  go_enter Try.func31, Try.ntmps31
  go_upto_region 1 with fail
  obtain ⟨wz, hwz⟩ : ∃ wz, w.alloc (.cells #[.slice p s.length cp, .slice q A.length cq] 25) = wz := ⟨_, rfl⟩
  have x0 : wz.cell? ⟨w.heap.size, 0, none⟩ = some (.slice p s.length cp) := by rw [← hwz]; simp [go_sem]
  have x1 : wz.cell? ⟨w.heap.size, 1, none⟩ = some (.slice q A.length cq) := by rw [← hwz]; simp [go_sem]
  have Hgz : Hid (Grew w wz) := Lib.hid (by rw [← hwz]; (repeat (first | exact Grew.refl _ | refine Grew.over ?_ _ | refine Grew.alloc ?_ _ | refine Grew.drew ?_ | refine Grew.drewN ?_ _)))
  have hbz : w.heap.size < wz.heap.size := by rw [← hwz]; simp
  rw [hwz]
  clear hwz
  go_upto_region 2 with (go_at_call 27; apply Calls.mono; (with_reducible exact Hres.out _ Hgz.out); rintro e w2 ⟨hg2, v5, rfl, hO⟩; obtain ⟨pv, cv, rfl, hSt⟩ := own_stpr hO (k := 0) rfl; have Hg2 := Lib.hid (Hgz.out.trans hg2); have hbz2 := Nat.lt_of_lt_of_le hbz hg2.below.size; have HS := Lib.hid hSt; clear hg2 hO hSt x0 x1)
  go_upto_region 3 with (go_at_call 36; apply Calls.mono; (with_reducible exact Hpa.out _ _ _ HS.out); rintro e w1 ⟨hg1, g6, g7, d, pr, rfl, hO1, hOut⟩; have Hg1 := Lib.hid hg1; have HO1 := Lib.hid hO1; have HOut := Lib.hid hOut; clear hg1 hO1 hOut)
  obtain ⟨ch, hSe, hStt⟩ := HOut.out
  have HSe := Lib.hid hSe
  have HStt := Lib.hid hStt
  have Hlo : Hid (∀ v, v < s.length → ge d v = farR ∨ ge d v ≤ 256000) := Lib.hid (fun v hv => by
    by_cases e : ge d v = farR
    · exact Or.inl e
    · exact Or.inr (by have := hSe.bf.bound hv e; omega))
  clear hSe hStt HOut
  have Hgw1 := Lib.hid (Hg2.out.trans Hg1.out)
  go_wp2
  go_loopw [13, 14] (fun v13 v14 wr => ∃ (v : Nat) (tv : Int), v ≤ s.length ∧ v14 = .int .i64 v ∧ v13 = .int .i64 tv ∧ ToS xs d farR v tv ∧ Grew w1 wr) (fun _ v14 _ => s.length - (intOf v14).toNat)
  case atStart => exact ⟨0, -1, Nat.zero_le _, rfl, rfl, ToS.zero _ _ _, Grew.refl _⟩
  case round =>
    obtain ⟨v, tv, hv, rfl, rfl, hT, hg⟩ := hrel
    have HT := Lib.hid hT
    have Hg := Lib.hid hg
    clear hT hg
    by_cases hlt : v < s.length
    · obtain ⟨bx, ox, hx3, hx4⟩ := (HX.out.grew (Hgw1.out.trans Hg.out)).open
      obtain ⟨rfl, hbx⟩ := hx3 (by have := Hxl.out; omega)
      have cx := hx4 v (by have := Hxl.out; omega)
      have e6 := own_atI (HO1.out.grew Hg.out) (j := 0) rfl (i := v) hlt
      have b6 := own_lt (HO1.out.grew Hg.out) (j := 0) rfl
      have hlo := Hlo.out v hlt
      have HTk := Lib.hid (fun h => HT.out.keep h)
      have HTh := Lib.hid (fun (h1 : ge xs v < 0) (h2 : ge d v ≠ farR) => (ToS.here h1 h2 : ToS xs d farR (v + 1) v))
      obtain ⟨xv, hxv⟩ : ∃ x, ge xs v = x := ⟨_, rfl⟩
      obtain ⟨dv, hdv⟩ : ∃ x, ge d v = x := ⟨_, rfl⟩
      rw [hxv] at cx HTk HTh
      rw [hdv] at e6 hlo HTk HTh
      clear hx3 hx4 hxv hdv
      go_upto_region 7 with fail
      by_cases hx0 : xv < 0
      · by_cases hd0 : dv < 1125899906842624
        · have hdf : Hid (dv ≠ farR) := Lib.hid (fun e => by rw [e] at hd0; exact absurd hd0 (by decide))
          rcases HT.out with ⟨rfl, _⟩ | ⟨t, rfl, htv, _, _⟩
          · have HT2 := Lib.hid (HTh.out hx0 hdf.out)
            refine wp_region_over (by kernel_rfl) (by kernel_rfl) ?_; (repeat (go_big_quiet_step (fail))); refine wpQuiet_nil ?_; intro w4 hW; replace hW : Grew _ w4 := hW
            have Hg4 := Lib.hid (Hg.out.trans hW)
            clear hW
            go_wp2
            go_roundw
            case rel => exact ⟨v + 1, v, by omega, by go_num, rfl, HT2.out, Hg4.out⟩
            case measure => simp [intOf]; omega
          · have et := own_atI (HO1.out.grew Hg.out) (j := 0) rfl (i := t) (by omega)
            obtain ⟨dt, hdt⟩ : ∃ x, ge d t = x := ⟨_, rfl⟩
            rw [hdt] at et
            clear hdt
            have htl : t < s.length := by omega
            have ht0 : ¬ (t : Int) < 0 := by omega
            by_cases hdd : dv < dt
            · have HT2 := Lib.hid (HTh.out hx0 hdf.out)
              refine wp_region_over (by kernel_rfl) (by kernel_rfl) ?_; (repeat (go_big_quiet_step (fail))); refine wpQuiet_nil ?_; intro w4 hW; replace hW : Grew _ w4 := hW
              have Hg4 := Lib.hid (Hg.out.trans hW)
              clear hW
              go_wp2
              go_roundw
              case rel => exact ⟨v + 1, v, by omega, by go_num, rfl, HT2.out, Hg4.out⟩
              case measure => simp [intOf]; omega
            · have HT2 := Lib.hid (HTk.out (Or.inl (by omega)))
              refine wp_region_over (by kernel_rfl) (by kernel_rfl) ?_; (repeat (go_big_quiet_step (fail))); refine wpQuiet_nil ?_; intro w4 hW; replace hW : Grew _ w4 := hW
              have Hg4 := Lib.hid (Hg.out.trans hW)
              clear hW
              go_wp2
              go_roundw
              case rel => exact ⟨v + 1, t, by omega, by go_num, rfl, HT2.out, Hg4.out⟩
              case measure => simp [intOf]; omega
        · have HT2 := Lib.hid (HTk.out (Or.inr (Or.inr (by rcases hlo with g | g; exact g; omega))))
          refine wp_region_over (by kernel_rfl) (by kernel_rfl) ?_; (repeat (go_big_quiet_step (fail))); refine wpQuiet_nil ?_; intro w4 hW; replace hW : Grew _ w4 := hW
          have Hg4 := Lib.hid (Hg.out.trans hW)
          clear hW
          go_wp2
          go_roundw
          case rel => exact ⟨v + 1, tv, by omega, by go_num, rfl, HT2.out, Hg4.out⟩
          case measure => simp [intOf]; omega
      · have HT2 := Lib.hid (HTk.out (Or.inr (Or.inl hx0)))
        refine wp_region_over (by kernel_rfl) (by kernel_rfl) ?_; (repeat (go_big_quiet_step (fail))); refine wpQuiet_nil ?_; intro w4 hW; replace hW : Grew _ w4 := hW
        have Hg4 := Lib.hid (Hg.out.trans hW)
        clear hW
        go_wp2
        go_roundw
        case rel => exact ⟨v + 1, tv, by omega, by go_num, rfl, HT2.out, Hg4.out⟩
        case measure => simp [intOf]; omega
    · have hve : v = s.length := by omega
      subst hve
      rcases HT.out with ⟨rfl, hno⟩ | ⟨t, rfl, htv, hxt, hdt⟩
      · have Hno : Hid (Cut s A) := Lib.hid (HSt.out.none2 HV.out (far := farR) (a := a) ⟨d, by rw [HL.out]; exact HStt.out, HSe.out.srcf, hno⟩ ha Ha0.out)
        clear hno
        go_wp2
        go_ret2
        exact ⟨Hgw1.out.trans (Hg.out.trans (by (repeat (first | exact Grew.refl _ | refine Grew.over ?_ _ | refine Grew.alloc ?_ _ | refine Grew.drew ?_ | refine Grew.drewN ?_ _)))), Or.inl ⟨rfl, Hno.out⟩⟩
      · obtain ⟨P, hTr⟩ := HSe.out.traceAll HStt.out (fun i b hm => by
          obtain ⟨t', ht'⟩ := List.getElem?_of_mem hm
          exact sF_lt HV.out (Hm.out t' i b ht') b) htv hdt
        have HTr := Lib.hid hTr
        have Hsend := Lib.hid (fun (k : Int) (hk : Snd s A f xs P a t k) => (by
          have hw := hTr.wy
          have hs := HStt.out
          rw [← HL.out] at hw hs
          exact HSt.out.send2 HV.out hs hw htv hk : St s A (addP f k P.reverse) (exL s A (addP f k P.reverse) A.length) ∧ mp s.length (exL s A (addP f k P.reverse) A.length) < mp s.length xs))
        have Harc := Lib.hid hTr.wy.arcs
        have HmA : Hid (∀ y ∈ P, y.1 < A.length) := Lib.hid (fun y hy => by
          obtain ⟨t', ht'⟩ := List.getElem?_of_mem (hTr.wy.stp y hy).1
          exact Hm.out t' y.1 y.2 ht')
        have Hz0 : Hid (vx A P t 0 = a) := Lib.hid (vx_zero hTr.wy.way)
        have Hzn : Hid (vx A P t P.length = t) := Lib.hid (vx_end A P t)
        have h0P : 0 < P.length := by
          cases P with
          | nil =>
            have e : a = t := hTr.wy.way
            have := Ha0.out
            rw [e] at this
            omega
          | cons x P => simp
        have Hta : Hid (t ≠ a) := Lib.hid (fun e => by have := Ha0.out; rw [← e] at this; omega)
        have hA0 : 0 < A.length := by
          have := HmA.out _ (List.getElem_mem h0P)
          omega
        have hP256 : P.length ≤ s.length := hTr.wy.len
        clear hTr hdt HT
        obtain ⟨bx, ox, hx3, hx4⟩ := (HX.out.grew (Hgw1.out.trans Hg.out)).open
        obtain ⟨rfl, hbx⟩ := hx3 (by have := Hxl.out; omega)
        have ca := hx4 a (by have := Hxl.out; omega)
        have ct := hx4 t (by have := Hxl.out; omega)
        have hba := HSt.out.bd HV.out ha
        have hbt := HSt.out.bd HV.out htv
        obtain ⟨xa, exa⟩ : ∃ x, ge xs a = x := ⟨_, rfl⟩
        obtain ⟨xt, ext⟩ : ∃ x, ge xs t = x := ⟨_, rfl⟩
        have hxa0 : 0 < xa := by rw [← exa]; exact Ha0.out
        rw [exa] at ca hba
        rw [ext] at ct hxt hbt
        obtain ⟨nt, hnt⟩ : ∃ x, -xt = x := ⟨_, rfl⟩
        have hnt0 : 0 < nt ∧ nt ≤ 2148532224 := by omega
        obtain ⟨hnt1, hnt2⟩ := hnt0
        have hwn : IntKind.i64.wrap (-xt) = nt := by rw [hnt]; exact IntWalk.i64_in _ ⟨by omega, by omega⟩
        have Hexa := Lib.hid exa
        have Hext := Lib.hid ext
        have Hnt := Lib.hid hnt
        have ht0 : ¬ (t : Int) < 0 := by omega
        clear hx3 hx4 exa ext hnt
        go_upto_region 11 with fail
        refine wp_region_over (by kernel_rfl) (by kernel_rfl) ?_; (repeat (go_big_quiet_step (fail))); refine wpQuiet_nil ?_; intro w5 hW; replace hW : Grew _ w5 := hW
        have Hg5 := Lib.hid (Hg.out.trans hW)
        clear hW ca ct hbx
        obtain ⟨k0, hk0⟩ : ∃ k0, (if nt < xa then nt else xa) = k0 := ⟨_, rfl⟩
        have Hk0 : Hid (0 < k0 ∧ k0 ≤ xa ∧ k0 ≤ nt) := Lib.hid (by rw [← hk0]; split <;> omega)
        rw [hk0]
        clear hk0 Hg
        go_wp2
        go_loopg [15, 16] P.length (fun gk v15 v16 wk => ∃ k : Int, gk ≤ P.length ∧ v15 = .int .i64 k ∧ v16 = .int .i64 (vx A P t gk : Int) ∧ (0 < k ∧ k ≤ xa ∧ k ≤ nt) ∧ (∀ i y, gk ≤ i → P[i]? = some y → k ≤ sR A f y.1 y.2) ∧ Grew w1 wk)
        case atStart => exact ⟨k0, Nat.le_refl _, rfl, by rw [Hzn.out], Hk0.out, fun i y hi hy => (by have := (List.getElem?_eq_some_iff.1 hy).1; omega), Hg5.out⟩
        case round =>
          clear Hk0 Hg5
          obtain ⟨k, hgk, rfl, rfl, hk, hall, hg⟩ := hrel
          have Hk := Lib.hid hk
          have Hall := Lib.hid hall
          have Hg := Lib.hid hg
          clear hk hall hg
          cases gk with
          | succ r =>
            obtain ⟨⟨i, b⟩, hib⟩ : ∃ x, P[r]? = some x := ⟨_, List.getElem?_eq_getElem (by omega)⟩
            obtain ⟨j, hj1, hj2⟩ := HTr.out.st r i b hib
            have hne := HTr.out.ne (r + 1) (by omega) hgk
            have hul := HTr.out.lt hgk
            have hvr := vx_at (A := A) (t := t) hib
            have hjL : j < L.length := (List.getElem?_eq_some_iff.1 hj2).1
            have hrm : 0 < sR A f i b := by rw [← HL.out] at hj2; exact (mem_resL.1 (List.mem_of_getElem? hj2)).2
            obtain ⟨u, hu⟩ : ∃ u, vx A P t (r + 1) = u := ⟨_, rfl⟩
            rw [hu] at hj1 hne hul ⊢
            have e7 := own_atI (HO1.out.grew Hg.out) (j := 1) rfl (i := u) hul
            rw [hj1] at e7
            have b7 := own_lt (HO1.out.grew Hg.out) (j := 1) rfl
            obtain ⟨gS, g1, g2⟩ := HS.out.grew (Hg1.out.trans Hg.out)
            obtain ⟨rfl, hgS⟩ := g1 (by omega)
            obtain ⟨c0, c1, c2, c3, c4, c5⟩ := g2 j i b hj2
            obtain ⟨ro, hro⟩ : ∃ x, sR A f i b = x := ⟨_, rfl⟩
            rw [hro] at c5 hrm
            rw [← hvr] at c2
            have hne2 : ((u : Int) != (a : Int)) = true := by rw [bne_iff_ne]; omega
            have Hro := Lib.hid hro
            have Hib := Lib.hid hib
            obtain ⟨vr, hvr2⟩ : ∃ x, vx A P t r = x := ⟨_, rfl⟩
            rw [hvr2] at c2
            have Hvr2 := Lib.hid hvr2
            clear hu hj1 hj2 hne hvr hvr2 hro hib g1 g2 c0 c1 c3 c4
            by_cases hrk : ro < k
            · have Hk2 : Hid (0 < ro ∧ ro ≤ xa ∧ ro ≤ nt) := Lib.hid (by have := Hk.out; omega)
              have Ha2 : Hid (∀ i y, r ≤ i → P[i]? = some y → ro ≤ sR A f y.1 y.2) := Lib.hid (fun i' y hi' hy => by
                by_cases e : i' = r
                · subst e; rw [Hib.out] at hy; cases hy; rw [Hro.out]; exact Int.le_refl _
                · have := Hall.out i' y (by omega) hy; omega)
              go_wp2
              go_roundg r
              case rel => exact ⟨ro, by omega, rfl, by rw [Hvr2.out], Hk2.out, Ha2.out, Hg.out⟩
              case measure => omega
            · have Ha2 : Hid (∀ i y, r ≤ i → P[i]? = some y → k ≤ sR A f y.1 y.2) := Lib.hid (fun i' y hi' hy => by
                by_cases e : i' = r
                · subst e; rw [Hib.out] at hy; cases hy; rw [Hro.out]; omega
                · exact Hall.out i' y (by omega) hy)
              go_wp2
              go_roundg r
              case rel => exact ⟨k, by omega, rfl, by rw [Hvr2.out], Hk.out, Ha2.out, Hg.out⟩
              case measure => omega
          | zero =>
            obtain ⟨wq, hwq⟩ : ∃ wq, wq = wr := ⟨_, rfl⟩
            subst hwq
            rw [Hz0.out]
            have Hsnd : Hid (Snd s A f xs P a t k) := Lib.hid ⟨Hk.out.1, by rw [Hexa.out]; exact Hk.out.2.1, by rw [Hext.out, Hnt.out]; exact Hk.out.2.2, fun y hy => by
              obtain ⟨i, hi⟩ := List.getElem?_of_mem hy
              exact Hall.out i y (Nat.zero_le _) hi⟩
            have Hend := Lib.hid (Hsend.out k Hsnd.out)
            have hk1 := Hk.out
            obtain ⟨hk1, hk2, hk3⟩ := hk1
            have hkb : k ≤ 2148532224 := by omega
            have hne2 : ((a : Int) != (a : Int)) = false := by simp
            obtain ⟨Bo, hBo⟩ : ∃ Bo, wq.heap.size = Bo := ⟨_, rfl⟩
            have HBo := Lib.hid hBo
            have hwBo : w.heap.size ≤ Bo := by have := (Hgw1.out.trans Hg.out).below.size; omega
            clear Hall Hsnd Hsend
            go_upto_region 18 with (at_builtin; refine wp_append_owns rfl _ _ 22 rfl 3 1 8 (.int .i64 0) Try.underlying22 Try.infoInt rfl (by decide) Bo _ 0 _ _ _ ((Owns.nil _ Bo).none 3 1) rfl rfl r A.length cr rfl (intVs f) (by rw [intVs_length, Hfl.out, Nat.mul_one]) Hnil.out ((HF.out.grew ((Hgw1.out.trans Hg.out).trans (by (repeat (first | exact Grew.refl _ | refine Grew.over ?_ _ | refine Grew.alloc ?_ _ | refine Grew.drew ?_ | refine Grew.drewN ?_ _))))).newsO) (intVs_one _) (by simp only [maxLen]; omega) (by omega) (by first | rfl | omega | (simp <;> omega)) ?_; intro v1 w6 hO6 hg6 hb6 _; have Hg6 : Hid (Grew wq w6) := Lib.hid (Grew.grownBy (w0 := wq) (Grew.refl _) hg6 (fun k hk => by have := hb6 k hk; omega)); have HO6 := Lib.hid hO6; clear hO6 hg6 hb6)
            have hO6 := HO6.out
            simp only [List.set_cons_zero, Nat.zero_add, List.nil_append] at hO6
            obtain ⟨po, co, rfl⟩ := own_form hO6 (k := 0) rfl
            obtain ⟨g, rfl, hgB, hgl⟩ := own_some hO6 (k := 0) rfl hA0
            have HO7 : Hid (Owns w6 Bo [rC g A.length co (addP f k (P.drop P.length).reverse)]) := Lib.hid (by rw [List.drop_length]; exact hO6)
            have hBo2 : Bo ≤ w6.heap.size := by have := Hg6.out.below.size; omega
            clear hO6 HO6 hgl hne2
            go_wp2
            go_loopg [18] P.length (fun gk v18 wk => gk ≤ P.length ∧ v18 = .int .i64 (vx A P t gk : Int) ∧ Owns wk Bo [rC g A.length co (addP f k (P.drop gk).reverse)] ∧ Grew wq wk)
            case atStart => exact ⟨Nat.le_refl _, by rw [Hzn.out], HO7.out, Hg6.out⟩
            case round =>
              clear HO7 Hg6 hBo2 hgk
              obtain ⟨hgk, rfl, hO, hg⟩ := hrel
              have HO := Lib.hid hO
              have Hg3 := Lib.hid hg
              clear hO hg
              cases gk with
              | succ r' =>
                obtain ⟨⟨i, b⟩, hib⟩ : ∃ x, P[r']? = some x := ⟨_, List.getElem?_eq_getElem (by omega)⟩
                obtain ⟨j, hj1, hj2⟩ := HTr.out.st r' i b hib
                have hne := HTr.out.ne (r' + 1) (by omega) hgk
                have hul := HTr.out.lt hgk
                have hvr := vx_at (A := A) (t := t) hib
                have hjL : j < L.length := (List.getElem?_eq_some_iff.1 hj2).1
                have hiA : i < A.length := HmA.out _ (List.mem_of_getElem? hib)
                obtain ⟨u, hu⟩ : ∃ u, vx A P t (r' + 1) = u := ⟨_, rfl⟩
                rw [hu] at hj1 hne hul ⊢
                have e7q := own_atI (HO1.out.grew Hg.out) (j := 1) rfl (i := u) hul
                rw [hj1] at e7q
                have e7 := Hg3.out.cellEq e7q
                have b7 := cell_lt e7
                obtain ⟨gS, g1, g2⟩ := HS.out.grew (Hg1.out.trans Hg.out)
                obtain ⟨rfl, hgS0⟩ := g1 (by omega)
                obtain ⟨c0, c1, c2, c3, c4, c5⟩ := g2 j i b hj2
                have hgS := Nat.lt_of_lt_of_le hgS0 Hg3.out.below.size
                rw [← hvr] at c2
                have hne2 : ((u : Int) != (a : Int)) = true := by rw [bne_iff_ne]; omega
                obtain ⟨vr, hvr2⟩ : ∃ x, vx A P t r' = x := ⟨_, rfl⟩
                rw [hvr2] at c2
                have Hvr2 := Lib.hid hvr2
                obtain ⟨vv, hvv⟩ : ∃ x, sT A i b = x := ⟨_, rfl⟩
                obtain ⟨sc, hsc⟩ : ∃ x, sC A i b = x := ⟨_, rfl⟩
                obtain ⟨ro, hro⟩ : ∃ x, sR A f i b = x := ⟨_, rfl⟩
                rw [hvv] at c3
                rw [hsc] at c4
                rw [hro] at c5
                have He7q := Lib.hid e7q
                have Hc2q := Lib.hid c2
                replace c0 := Hg3.out.cellEq c0
                replace c1 := Hg3.out.cellEq c1
                replace c2 := Hg3.out.cellEq c2
                replace c3 := Hg3.out.cellEq c3
                replace c4 := Hg3.out.cellEq c4
                replace c5 := Hg3.out.cellEq c5
                clear e7q hgS0
                have hbd := addP_bd2 HV.out HSt.out.fit (Q := (P.drop (r' + 1)).reverse) (List.pairwise_reverse.2 ((Harc.out.sublist (List.drop_sublist _ _)).imp fun h => Ne.symm h)) (fun y hy => HmA.out y (List.mem_of_mem_drop (List.mem_reverse.1 hy))) hk1 hkb hiA
                have Hnx : Hid (addP f k (P.drop r').reverse = (addP f k (P.drop (r' + 1)).reverse).set i (if b then ge (addP f k (P.drop (r' + 1)).reverse) i - k else ge (addP f k (P.drop (r' + 1)).reverse) i + k)) := Lib.hid (by rw [drop_rev hib, addP_snoc])
                have hfl2 : (addP f k (P.drop (r' + 1)).reverse).length = A.length := by rw [addP_length]; exact Hfl.out
                obtain ⟨fj, hfj⟩ : ∃ x, addP f k (P.drop (r' + 1)).reverse = x := ⟨_, rfl⟩
                rw [hfj] at HO Hnx hbd hfl2
                obtain ⟨fi, hfi⟩ : ∃ x, ge fj i = x := ⟨_, rfl⟩
                rw [hfi] at Hnx hbd
                have Hfi := Lib.hid hfi
                clear hu hj1 hj2 hne hvr hvr2 hro hvv hsc hib g1 g2 hfj hfi
                go_upto_region 22 with fail
                obtain ⟨w7, hw7⟩ : ∃ w7, wr.alloc (.cells #[.int .i64 (i : Int), .bool b, .int .i64 (vr : Int), .int .i64 (vv : Int), .int .i64 sc, .int .i64 ro] 50) = w7 := ⟨_, rfl⟩
                obtain ⟨aw, haw⟩ : ∃ aw, wr.heap.size = aw := ⟨_, rfl⟩
                have HO6 : Hid (Owns w7 Bo [⟨.slice (some ⟨aw, 0, none⟩) 6 6, 50, 1, 6, [.int .i64 (i : Int), .bool b, .int .i64 (vr : Int), .int .i64 (vv : Int), .int .i64 sc, .int .i64 ro]⟩, rC g A.length co fj]) :=
                  Lib.hid (by rw [← hw7]; exact HO.out.made (by rw [← HBo.out]; exact Hg3.out.below.size) #[.int .i64 (i : Int), .bool b, .int .i64 (vr : Int), .int .i64 (vv : Int), .int .i64 sc, .int .i64 ro] 50 1 6 aw rfl (by decide) haw.symm)
                have Hg6 : Hid (Grew wq w7) := Lib.hid (by rw [← hw7]; exact Hg3.out.trans (by (repeat (first | exact Grew.refl _ | refine Grew.over ?_ _ | refine Grew.alloc ?_ _ | refine Grew.drew ?_ | refine Grew.drewN ?_ _))))
                rw [hw7]
                try rw [haw]
                clear hw7 haw c0 c1 c2 c3 c4 c5 e7
                have hbz6 := own_blk HO6.out (j := 0) rfl
                have z0 := hbz6.2.2.2.2 0 _ rfl
                have z1 := hbz6.2.2.2.2 1 _ rfl
                have ha6 := hbz6.2.2.1
                clear hbz6
                have e4 := own_atC HO6.out (j := 1) rfl (i := i) (by rw [hfl2]; exact hiA)
                rw [Hfi.out] at e4
                have b4 := own_lt HO6.out (j := 1) rfl
                have f4 := own_fr HO6.out (j := 1) rfl
                replace f4 := f4 i
                cases b
                · have hwr : IntKind.i64.wrap (fi + k) = fi + k := IntWalk.i64_in _ ⟨by omega, by omega⟩
                  have HO7 : Hid (Owns (w7.setCell ⟨g, i, none⟩ (.int .i64 (fi + k))) Bo [rC g A.length co (addP f k (P.drop r').reverse)]) := Lib.hid (by rw [Hnx.out]; exact (own_setC HO6.out (j := 1) rfl i (fi + k)).tail)
                  have Hg7 := Lib.hid (HO6.out.setGrew (w0 := wq) (by rw [HBo.out]; exact Nat.le_refl _) Hg6.out (k := 1) rfl i (.int .i64 (fi + k)))
                  go_upto_region 24 with fail
                  refine wp_region_lex (One 11 (fun c => if c then w7.setCell ⟨g, i, none⟩ (.int .i64 (fi + k)) else w7)) (by kernel_rfl) (by kernel_rfl) ?_ ?_
                  · (repeat (first | exact Grew.refl _ | refine Grew.over ?_ _ | refine Grew.alloc ?_ _ | refine Grew.drew ?_ | refine Grew.drewN ?_ _))
                  repeat (first
                    | (refine lex_skip rfl ?_ ?_
                       · exact One.keep (by decide)
                       (try simp only [Act.put, List.setIfInBounds_toArray, List.set_cons_zero, List.set_cons_succ]))
                    | (refine lex_pure (v := ?_) rfl ?_ (fun d w hd hr hC => ?_) ?_
                       rotate_left
                       · exact One.keep (by decide)
                       · ((try (have hs := closed_undone (s := 11) hr.2 rfl (by decide +kernel) hd; unfold One at hC; rw [hs] at hC)); obtain ⟨x, rfl⟩ := hC; simp [go_sem, ↓IntWalk.iteOmega, z0, e4, f4, hwr]; try rfl)
                       (try simp only [Act.put, List.setIfInBounds_toArray, List.set_cons_zero, List.set_cons_succ]))
                    | (refine lex_call (v := ?_) (f := ?_) (args := ?_) rfl ?_ One.grew (fun d w hd hr hC => ?_) (fun d w hd hr hC => ?_) ?_
                       rotate_left 3
                       · exact One.keep (by decide)
                       · ((try (have hs := closed_undone (s := 11) hr.2 rfl (by decide +kernel) hd; unfold One at hC; rw [hs] at hC)); obtain ⟨x, rfl⟩ := hC; simp [go_sem, ↓IntWalk.iteOmega, z0, e4, f4, hwr]; (refine ⟨?_, ?_⟩ <;> rfl))
                       · ((try (have hs := closed_undone (s := 11) hr.2 rfl (by decide +kernel) hd; unfold One at hC; rw [hs] at hC)); obtain ⟨x, rfl⟩ := hC; (fail))
                       (try simp only [Act.put, List.setIfInBounds_toArray, List.set_cons_zero, List.set_cons_succ]))
                    | (refine lex_store rfl (fun d w hd hr hC => ?_) ?_
                       · (unfold One at hC ⊢; rw [hd] at hC; rw [mark_same]; obtain ⟨x, rfl⟩ := hC; refine ⟨?_, ?_, ?_⟩; rotate_left; (simp [go_sem, ↓IntWalk.iteOmega, z0, e4, f4, hwr]; try rfl); (simp; exact ⟨_, rfl⟩))
                       (try simp only [Act.put, List.setIfInBounds_toArray, List.set_cons_zero, List.set_cons_succ])))
                  refine lex_nil ?_
                  intro dLx w8 hd hw8
                  unfold One at hw8; rw [hd 11 (by decide)] at hw8; simp only [if_true] at hw8
                  have HO8 := Lib.hid (HO7.out.grew hw8)
                  have Hg8 := Lib.hid (Hg7.out.trans hw8)
                  clear hw8 HO7 Hg7 z0 z1 e4 f4 b4 ha6 hwr b7 hgS
                  have e7 := Hg8.out.cellEq He7q.out
                  have c2 := Hg8.out.cellEq Hc2q.out
                  have b7 := cell_lt e7
                  have hgS := cell_lt c2
                  go_wp2
                  go_roundg r'
                  case rel => exact ⟨by omega, by rw [Hvr2.out], HO8.out, Hg8.out⟩
                  case measure => omega
                · have hwr : IntKind.i64.wrap (fi - k) = fi - k := IntWalk.i64_in _ ⟨by omega, by omega⟩
                  have HO7 : Hid (Owns (w7.setCell ⟨g, i, none⟩ (.int .i64 (fi - k))) Bo [rC g A.length co (addP f k (P.drop r').reverse)]) := Lib.hid (by rw [Hnx.out]; exact (own_setC HO6.out (j := 1) rfl i (fi - k)).tail)
                  have Hg7 := Lib.hid (HO6.out.setGrew (w0 := wq) (by rw [HBo.out]; exact Nat.le_refl _) Hg6.out (k := 1) rfl i (.int .i64 (fi - k)))
                  go_upto_region 23 with fail
                  refine wp_region_lex (One 11 (fun c => if c then w7.setCell ⟨g, i, none⟩ (.int .i64 (fi - k)) else w7)) (by kernel_rfl) (by kernel_rfl) ?_ ?_
                  · (repeat (first | exact Grew.refl _ | refine Grew.over ?_ _ | refine Grew.alloc ?_ _ | refine Grew.drew ?_ | refine Grew.drewN ?_ _))
                  repeat (first
                    | (refine lex_skip rfl ?_ ?_
                       · exact One.keep (by decide)
                       (try simp only [Act.put, List.setIfInBounds_toArray, List.set_cons_zero, List.set_cons_succ]))
                    | (refine lex_pure (v := ?_) rfl ?_ (fun d w hd hr hC => ?_) ?_
                       rotate_left
                       · exact One.keep (by decide)
                       · ((try (have hs := closed_undone (s := 11) hr.2 rfl (by decide +kernel) hd; unfold One at hC; rw [hs] at hC)); obtain ⟨x, rfl⟩ := hC; simp [go_sem, ↓IntWalk.iteOmega, z0, e4, f4, hwr]; try rfl)
                       (try simp only [Act.put, List.setIfInBounds_toArray, List.set_cons_zero, List.set_cons_succ]))
                    | (refine lex_call (v := ?_) (f := ?_) (args := ?_) rfl ?_ One.grew (fun d w hd hr hC => ?_) (fun d w hd hr hC => ?_) ?_
                       rotate_left 3
                       · exact One.keep (by decide)
                       · ((try (have hs := closed_undone (s := 11) hr.2 rfl (by decide +kernel) hd; unfold One at hC; rw [hs] at hC)); obtain ⟨x, rfl⟩ := hC; simp [go_sem, ↓IntWalk.iteOmega, z0, e4, f4, hwr]; (refine ⟨?_, ?_⟩ <;> rfl))
                       · ((try (have hs := closed_undone (s := 11) hr.2 rfl (by decide +kernel) hd; unfold One at hC; rw [hs] at hC)); obtain ⟨x, rfl⟩ := hC; (fail))
                       (try simp only [Act.put, List.setIfInBounds_toArray, List.set_cons_zero, List.set_cons_succ]))
                    | (refine lex_store rfl (fun d w hd hr hC => ?_) ?_
                       · (unfold One at hC ⊢; rw [hd] at hC; rw [mark_same]; obtain ⟨x, rfl⟩ := hC; refine ⟨?_, ?_, ?_⟩; rotate_left; (simp [go_sem, ↓IntWalk.iteOmega, z0, e4, f4, hwr]; try rfl); (simp; exact ⟨_, rfl⟩))
                       (try simp only [Act.put, List.setIfInBounds_toArray, List.set_cons_zero, List.set_cons_succ])))
                  refine lex_nil ?_
                  intro dLx w8 hd hw8
                  unfold One at hw8; rw [hd 11 (by decide)] at hw8; simp only [if_true] at hw8
                  have HO8 := Lib.hid (HO7.out.grew hw8)
                  have Hg8 := Lib.hid (Hg7.out.trans hw8)
                  clear hw8 HO7 Hg7 z0 z1 e4 f4 b4 ha6 hwr b7 hgS
                  have e7 := Hg8.out.cellEq He7q.out
                  have c2 := Hg8.out.cellEq Hc2q.out
                  have b7 := cell_lt e7
                  have hgS := cell_lt c2
                  go_wp2
                  go_roundg r'
                  case rel => exact ⟨by omega, by rw [Hvr2.out], HO8.out, Hg8.out⟩
                  case measure => omega
              | zero =>
                rw [Hz0.out]
                have hne2 : ((a : Int) != (a : Int)) = false := by simp
                have HO2 := Lib.hid (HO.out.base hwBo)
                go_wp2
                go_ret2
                exact ⟨Hgw1.out.trans (Hg.out.trans Hg3.out), Or.inr ⟨_, _, _, rfl, HO2.out, Hend.out.1, Hend.out.2⟩⟩
end Go.Proofs.Ytnnlhmialmhpfaa
