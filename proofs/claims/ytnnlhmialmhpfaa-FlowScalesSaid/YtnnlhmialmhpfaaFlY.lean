/- Solve of the reference. -/
import Derived.Test.YtnnlhmialmhpfaaFlX
set_option linter.unusedSimpArgs false
set_option linter.unusedVariables false
namespace Go.Proofs.Ytnnlhmialmhpfaa
open Go.RowKit
attribute [local go_sem ↓] Go.wp_at_zero Go.wp_at_succ

theorem Fi.fill {s : List Int} {A : List Ark} {f xs : List Int} (h : Fi s A f xs A.length) (hV : vN s A) : St s A f (exL s A f A.length) := by
  have h1 := h.done hV
  rw [h1.ex hV]
  exact h1
/-- The slice that the call owns, in the end. -/
theorem fit_ints {A : List Ark} {f : List Int} {s : List Int} (hV : vN s A) (hf : Fit A f) : ∀ x ∈ f, -9223372036854775808 ≤ x ∧ x ≤ 9223372036854775807 :=
  ints_mem hf.l (lo := 0) (hi := 1048576) (fun i hi => ⟨(hf.b i hi).1, Int.le_trans (hf.b i hi).2 (hV.a i hi).2.2.1.2⟩) (by decide) (by decide)

theorem augment_q (p q r x : Option Addr) (n cp m cq cr cx a : Nat) (s : List Int) (A : List Ark) (f xs : List Int) (w : World) (hV : vN s A) (hA : Arks w q A) (hF : Ints w r f) (hX : Ints w x xs) (hSt : St s A f xs) (hn : s.length = n) (hm : A.length = m)
    (ha : a < s.length) (ha0 : 0 < ge xs a) (hnil : r = none → m = 0 ∧ cr = 0) :
    Calls Try.prog 31 #[.agg #[.slice p n cp, .slice q m cq], .slice r m cr, .slice x n cx, .int .i64 a] w fun e w' => Grew w w' ∧ ∃ lp ln lc ok, e = .returned (.tuple #[.slice lp ln lc, .bool ok]) ∧ ((ok = false ∧ Cut s A) ∨
      (ok = true ∧ ln = m ∧ ∃ f', Owns w' w.heap.size [lR (.slice lp m lc) m f'] ∧ St s A f' (exL s A f' m) ∧ mp s.length (exL s A f' m) < mp s.length xs)) := by
  apply Calls.mono
  with_reducible exact augment_r p q r x n cp m cq cr cx a s A f xs w hV hA hF hX hSt hn hm ha ha0 hnil
  rintro e w' ⟨hg, ⟨h1, h2⟩ | ⟨po, co, f', h1, h2, h3, h4⟩⟩
  · exact ⟨hg, none, 0, 0, false, h1, Or.inl ⟨rfl, h2⟩⟩
  · exact ⟨hg, po, m, co, true, h1, Or.inr ⟨rfl, rfl, f', h2, h3, h4⟩⟩

set_option maxRecDepth 8000 in
set_option maxHeartbeats 16000000 in
theorem solve_r (p q : Option Addr) (n cp m cq : Nat) (s : List Int) (A : List Ark) (w : World) (hS : Ints w p s) (hA : Arks w q A) (hn : s.length = n) (hm : A.length = m) (hnil : p = none → n = 0 ∧ cp = 0) :
    Calls Try.prog 19 #[.agg #[.slice p n cp, .slice q m cq]] w fun e w' => Grew w w' ∧ ((¬ vN s A ∧ e = .returned (.tuple #[.slice none 0 0, .int .i64 1])) ∨ (vN s A ∧ Cut s A ∧ e = .returned (.tuple #[.slice none 0 0, .int .i64 15])) ∨
      (vN s A ∧ ∃ po co f, isFlow s A f ∧ (∃ π, Pot A f π) ∧ e = .returned (.tuple #[.slice po m co, .int .i64 0]) ∧ Owns w' w.heap.size [lR (.slice po m co) m f])) := by
  have Hval := Lib.hid (fun (W : World) (hg : Grew w W) => valid_r p q n cp m cq s A W (hS.grew hg) (hA.grew hg) hn hm)
  subst hn hm
  have HS := Lib.hid hS
  have HA := Lib.hid hA
  have Hnil := Lib.hid hnil
  have ham := hA.1
  clear hS hA hnil
  cases hv : nB s A
  · have Hno : Hid (¬ vN s A) := Lib.hid (fun h => by rw [nB_iff.2 h] at hv; cases hv)
    rw [hv] at Hval
    clear hv
    go_enter Try.func19, Try.ntmps19
    go_wp2_with ((go_at_call 11; apply Calls.mono; (with_reducible exact Hval.out _ (by (repeat (first | exact Grew.refl _ | refine Grew.over ?_ _ | refine Grew.alloc ?_ _ | refine Grew.drew ?_ | refine Grew.drewN ?_ _)))); rintro e w' ⟨rfl, x, rfl⟩))
    go_ret2
    exact ⟨by (repeat (first | exact Grew.refl _ | refine Grew.over ?_ _ | refine Grew.alloc ?_ _ | refine Grew.drew ?_ | refine Grew.drewN ?_ _)), Or.inl ⟨Hno.out, rfl⟩⟩
  have HV := Lib.hid (nB_iff.1 hv)
  have h256 := HV.out.n
  have h2048 := HV.out.m
  rw [hv] at Hval
  clear hv
  go_enter Try.func19, Try.ntmps19
  go_upto_region 1 with fail
  obtain ⟨wz, hwz⟩ : ∃ wz, w.alloc (.cells #[.slice p s.length cp, .slice q A.length cq] 25) = wz := ⟨_, rfl⟩
  have x0 : wz.cell? ⟨w.heap.size, 0, none⟩ = some (.slice p s.length cp) := by rw [← hwz]; simp [go_sem]
  have x1 : wz.cell? ⟨w.heap.size, 1, none⟩ = some (.slice q A.length cq) := by rw [← hwz]; simp [go_sem]
  have Hgz : Hid (Grew w wz) := Lib.hid (by rw [← hwz]; (repeat (first | exact Grew.refl _ | refine Grew.over ?_ _ | refine Grew.alloc ?_ _ | refine Grew.drew ?_ | refine Grew.drewN ?_ _)))
  have hbz : w.heap.size < wz.heap.size := by rw [← hwz]; simp
  have hmk := make_ints A.length (by omega)
  rw [hwz]
  clear hwz
  go_upto_region 3 with (go_at_call 11; apply Calls.mono; (with_reducible exact Hval.out _ Hgz.out); rintro e wa ⟨rfl, hga⟩; have Hga := Lib.hid (Hgz.out.trans hga); replace x0 := hga.cellEq x0; replace x1 := hga.cellEq x1; have hbz := Nat.lt_of_lt_of_le hbz hga.below.size; clear hga)
  obtain ⟨g4, hg4⟩ : ∃ g4, wa.heap.size = g4 := ⟨_, rfl⟩
  go_upto_region 4 with fail
  obtain ⟨wb, hwb⟩ : ∃ wb, wa.alloc (.cells (Array.replicate A.length (.int .i64 0)) 3) = wb := ⟨_, rfl⟩
  have HOb : Hid (Owns wb wa.heap.size [rI g4 A.length (List.replicate A.length 0)]) := Lib.hid (by rw [← hwb]; exact own_newI (Owns.nil _ _) (Nat.le_refl _) A.length _ (by omega) hg4.symm)
  have Hgb : Hid (Grew wa wb) := Lib.hid (by rw [← hwb]; (repeat (first | exact Grew.refl _ | refine Grew.over ?_ _ | refine Grew.alloc ?_ _ | refine Grew.drew ?_ | refine Grew.drewN ?_ _)))
  rw [hwb]
  clear hwb hmk
  have HF0 := Lib.hid (Fi.begin s A)
  have hga4 : w.heap.size < g4 := by omega
  have Hg4 : Hid (wa.heap.size = g4) := Lib.hid hg4
  clear hg4
  replace x0 := Hgb.out.cellEq x0
  replace x1 := Hgb.out.cellEq x1
  clear hbz
  go_wp2
  go_loopw [5] (fun v5 wr => ∃ (j : Nat) (f xs : List Int), j ≤ A.length ∧ v5 = .int .i64 j ∧ Fi s A f xs j ∧ Owns wr wa.heap.size [rI g4 A.length f] ∧ Grew wa wr ∧ wr.cell? ⟨w.heap.size, 0, none⟩ = some (.slice p s.length cp) ∧ wr.cell? ⟨w.heap.size, 1, none⟩ = some (.slice q A.length cq)) (fun v5 _ => A.length - (intOf v5).toNat)
  case atStart => exact ⟨0, _, _, Nat.zero_le _, rfl, HF0.out, HOb.out, Hgb.out, x0, x1⟩
  case round =>
    clear HF0 HOb Hgb x0 x1
    obtain ⟨j, f, xs, hj, rfl, hF, hO, hg, x0, x1⟩ := hrel
    have HF := Lib.hid hF
    have HO := Lib.hid hO
    have Hg := Lib.hid hg
    have hbw := cell_lt x0
    clear hF hO hg
    by_cases hlt : j < A.length
    · obtain ⟨b2, o2, h2a, hb20, _⟩ := HA.out.open hlt
      subst h2a
      obtain ⟨b2', o2', h2b, hb2, c0, c1, c2, c3⟩ := (HA.out.grew (Hga.out.trans Hg.out)).open hlt
      simp only [Option.some.injEq, Addr.mk.injEq, and_true] at h2b
      obtain ⟨rfl, rfl⟩ := h2b
      have hcap : (aK A j).cap = cap A j := rfl
      have hcos : (aK A j).cost = cst A j := rfl
      rw [hcap] at c2
      rw [hcos] at c3
      have Hneg := Lib.hid (HF.out.neg HV.out hlt)
      have Hnon := Lib.hid (HF.out.non hlt)
      obtain ⟨cj, hcj⟩ : ∃ x, cap A j = x := ⟨_, rfl⟩
      obtain ⟨kj, hkj⟩ : ∃ x, cst A j = x := ⟨_, rfl⟩
      rw [hcj] at c2 Hneg
      rw [hkj] at c3 Hneg Hnon
      clear hcap hcos hcj hkj c0 c1
      by_cases hk0 : kj < 0
      · have HF2 : Hid (∃ xs, Fi s A (f.set j cj) xs (j + 1)) := Lib.hid ⟨_, Hneg.out hk0⟩
        obtain ⟨xs2, hF2⟩ := HF2.out
        have HF3 := Lib.hid hF2
        clear hF2 HF2
        have e4 := own_atI HO.out (j := 0) rfl (i := j) hlt
        have b4 := own_lt HO.out (j := 0) rfl
        have f4 := own_fr HO.out (j := 0) rfl
        replace f4 := f4 j
        have HO4 := Lib.hid (own_setI HO.out (j := 0) rfl j cj)
        have Hg4 := Lib.hid (HO.out.setGrew (w0 := wa) (Nat.le_refl _) Hg.out (k := 0) rfl j (.int .i64 cj))
        have y0 : (wr.setCell ⟨g4, j, none⟩ (.int .i64 cj)).cell? ⟨w.heap.size, 0, none⟩ = some (.slice p s.length cp) := by
          rw [World.cell?_setCell_other _ _ _ _ (fun e => by have := congrArg Addr.block e; simp at this; omega)]; exact x0
        have y1 : (wr.setCell ⟨g4, j, none⟩ (.int .i64 cj)).cell? ⟨w.heap.size, 1, none⟩ = some (.slice (some ⟨b2, o2, none⟩) A.length cq) := by
          rw [World.cell?_setCell_other _ _ _ _ (fun e => by have := congrArg Addr.block e; simp at this; omega)]; exact x1
        have Y0 := Lib.hid y0
        have Y1 := Lib.hid y1
        clear y0 y1
        go_wp2
        go_roundw
        case rel => exact ⟨j + 1, _, _, by omega, by go_num, HF3.out, HO4.out, Hg4.out, Y0.out, Y1.out⟩
        case measure => simp [intOf]; omega
      · have HF3 := Lib.hid (Hnon.out hk0)
        go_wp2
        go_roundw
        case rel => exact ⟨j + 1, _, _, by omega, by go_num, HF3.out, HO.out, Hg.out, x0, x1⟩
        case measure => simp [intOf]; omega
    · have hje : j = A.length := by omega
      subst hje
      have HSt := Lib.hid (HF.out.fill HV.out)
      have HO2 : Hid (Owns wr w.heap.size [lR (.slice (some ⟨g4, 0, none⟩) A.length A.length) A.length f]) := Lib.hid (HO.out.base Hga.out.below.size)
      have Hgw := Lib.hid (Hga.out.trans Hg.out)
      have hnil0 : Hid ((some ⟨g4, 0, none⟩ : Option Addr) = none → A.length = 0 ∧ A.length = 0) := Lib.hid (fun h => by cases h)
      clear HF HO Hg hbw
      go_wp2
      go_loopg [4] (mp s.length (exL s A f A.length)) (fun gk v4 wr => ∃ (f : List Int) (po : Option Addr) (co : Nat), v4 = .slice po A.length co ∧ (po = none → A.length = 0 ∧ co = 0) ∧ St s A f (exL s A f A.length) ∧ mp s.length (exL s A f A.length) = gk ∧ Owns wr w.heap.size [lR (.slice po A.length co) A.length f] ∧ Grew w wr ∧ wr.cell? ⟨w.heap.size, 0, none⟩ = some (.slice p s.length cp) ∧ wr.cell? ⟨w.heap.size, 1, none⟩ = some (.slice q A.length cq))
      case atStart => exact ⟨f, _, _, rfl, hnil0.out, HSt.out, rfl, HO2.out, Hgw.out, x0, x1⟩
      case round =>
        clear HSt HO2 Hgw x0 x1 hnil0
        obtain ⟨f, po, co, rfl, hnil, hSt, hgk, hO, hg, x0, x1⟩ := hrel
        have HSt := Lib.hid hSt
        have HO := Lib.hid hO
        have Hg := Lib.hid hg
        have Hgk := Lib.hid hgk
        have hbw := cell_lt x0
        have HfI : Hid (Ints wr po f) := Lib.hid (own_intsG HO.out (k := 0) rfl HSt.out.fit.l (by omega) (fit_ints HV.out HSt.out.fit))
        have Hnil2 := Lib.hid hnil
        have Hex := Lib.hid (fun (W : World) (hgW : Grew wr W) => excess_r p q po s.length cp A.length cq A.length co s A f W (HS.out.grew (Hg.out.trans hgW)) (HA.out.grew (Hg.out.trans hgW)) (HfI.out.grew hgW) rfl rfl HSt.out.fit.l Hnil.out HV.out HSt.out.fit)
        obtain ⟨xs, hxs⟩ : ∃ xs, exL s A f A.length = xs := ⟨_, rfl⟩
        rw [hxs] at HSt Hgk Hex
        have hxl := HSt.out.xl
        clear hSt hO hg hgk hnil hxs
        go_upto_region 10 with (go_at_call 24; apply Calls.mono; (with_reducible exact Hex.out _ (Grew.refl _)); rintro e w2 ⟨hg2, v5, rfl, hO2⟩; obtain ⟨px, cx, rfl⟩ := own_form hO2 (k := 0) rfl; have Hg2 := Lib.hid hg2; have HO2 := Lib.hid hO2; replace x0 := hg2.cellEq x0; replace x1 := hg2.cellEq x1; have hbw := Nat.lt_of_lt_of_le hbw hg2.below.size; clear hg2 hO2)
        have HxI : Hid (Ints w2 px xs) := Lib.hid (own_intsG HO2.out (k := 0) rfl hxl (by omega) (ints_mem hxl (fun v hv => HSt.out.bd HV.out hv) (by decide) (by decide)))
        obtain ⟨bx, ox, hx3, hx4⟩ := HxI.out.open
        have Hx4 := Lib.hid hx4
        clear hx4
        go_wp2
        go_loop [7] (fun v7 => ∃ a : Nat, a ≤ s.length ∧ v7 = .int .i64 a ∧ (∀ v, v < a → ¬ 0 < ge xs v)) (fun v7 => s.length - (intOf v7).toNat)
        case atStart => exact ⟨0, Nat.zero_le _, rfl, fun v hv => (by omega)⟩
        case round =>
          obtain ⟨a, hal, rfl, hall⟩ := hrel
          have Hall := Lib.hid hall
          clear hall
          by_cases hlt : a < s.length
          · obtain ⟨rfl, hbx⟩ := hx3 (by omega)
            have cx0 := Hx4.out a (by omega)
            obtain ⟨xa, hxa⟩ : ∃ x, ge xs a = x := ⟨_, rfl⟩
            rw [hxa] at cx0
            have Hxa := Lib.hid hxa
            clear hxa
            by_cases h0 : xa ≤ 0
            · have Ha2 : Hid (∀ v, v < a + 1 → ¬ 0 < ge xs v) := Lib.hid (fun v hv => by
                by_cases e : v = a
                · rw [e, Hxa.out]; omega
                · exact Hall.out v (by omega))
              go_wp2
              go_round
              case rel => exact ⟨a + 1, by omega, by go_num, Ha2.out⟩
              case measure => simp [intOf]; omega
            · have Hau := Lib.hid (fun (W : World) (hgW : Grew w2 W) => augment_q p q po (some ⟨bx, ox, none⟩) s.length cp A.length cq co cx a s A f xs W HV.out (HA.out.grew (Hg.out.trans (Hg2.out.trans hgW))) (HfI.out.grew (Hg2.out.trans hgW)) (HxI.out.grew hgW) HSt.out rfl rfl hlt (by rw [Hxa.out]; omega) Hnil2.out)
              have hae : ((a : Int) == (s.length : Int)) = false := by rw [beq_eq_false_iff_ne]; omega
              have hae2 : ¬ (a : Int) = (s.length : Int) := by omega
              go_upto_region 16 with (go_at_call 31; apply Calls.mono; (with_reducible exact Hau.out _ (Grew.refl _)); rintro e w3 ⟨hg3, lp, ln, lc, ok, rfl, hres⟩; have Hg3 := Lib.hid hg3; replace x0 := hg3.cellEq x0; replace x1 := hg3.cellEq x1; have Hres := Lib.hid hres; clear hg3 hres)
              cases ok
              · have Hno : Hid (Cut s A) := Lib.hid (by
                  rcases Hres.out with ⟨_, h⟩ | ⟨h, _⟩
                  · exact h
                  · cases h)
                go_wp2
                go_ret2
                exact ⟨Hg.out.trans (Hg2.out.trans (Hg3.out.trans (by (repeat (first | exact Grew.refl _ | refine Grew.over ?_ _ | refine Grew.alloc ?_ _ | refine Grew.drew ?_ | refine Grew.drewN ?_ _))))), Or.inr (Or.inl ⟨HV.out, Hno.out, rfl⟩)⟩
              · have h := Hres.out
                rcases h with ⟨h, _⟩ | ⟨_, rfl, f2, hO3, hS3, hm3⟩
                · cases h
                have Hnil3 : Hid (lp = none → A.length = 0 ∧ lc = 0) := Lib.hid (fun e => by
                  rcases (hO3.get (k := 0) rfl).2 with ⟨g1, g2⟩ | ⟨g, c, g1, _⟩
                  · simp only [Value.slice.injEq] at g1
                    exact ⟨g1.2.1, g1.2.2⟩
                  · rw [e] at g1
                    simp only [Value.slice.injEq] at g1
                    cases g1.1)
                have HO3 := Lib.hid (hO3.base (Hg.out.trans Hg2.out).below.size)
                have HS3 := Lib.hid hS3
                have Hm3 : Hid (mp s.length (exL s A f2 A.length) < gk) := Lib.hid (by rw [← Hgk.out]; exact hm3)
                have Hgw := Lib.hid (Hg.out.trans (Hg2.out.trans Hg3.out))
                clear hO3 hS3 hm3 Hres Hau
                go_wp2
                go_roundg (mp s.length (exL s A f2 A.length))
                case rel => exact ⟨f2, _, _, rfl, Hnil3.out, HS3.out, rfl, HO3.out, Hgw.out, x0, x1⟩
                case measure => exact Hm3.out
          · have hae : a = s.length := by omega
            have Hd := Lib.hid (HSt.out.done HV.out (fun v hv => Hall.out v (by omega)))
            subst hae
            go_wp2
            go_ret2
            exact ⟨Hg.out.trans Hg2.out, Or.inr (Or.inr ⟨HV.out, po, co, f, Hd.out.1, Hd.out.2, rfl, HO.out.grew Hg2.out⟩)⟩
end Go.Proofs.Ytnnlhmialmhpfaa
