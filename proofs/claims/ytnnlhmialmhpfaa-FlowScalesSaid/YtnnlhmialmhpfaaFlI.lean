/- Cost of the program; Excess, Check and Cost of the reference. -/
import Derived.Test.YtnnlhmialmhpfaaFlH
set_option linter.unusedSimpArgs false
set_option linter.unusedVariables false
namespace Go.Proofs.Ytnnlhmialmhpfaa
open Go.RowKit
attribute [local go_sem ↓] Go.wp_at_zero Go.wp_at_succ

def cosS (s : List Int) (A : List Ark) (f : List Int) : Int := if fitsS s A f = 0 then costF A f else 0
theorem mul_bd {a b X Y : Int} (h1 : 0 ≤ a) (h2 : a ≤ X) (h3 : -Y ≤ b) (h4 : b ≤ Y) : -(X * Y) ≤ a * b ∧ a * b ≤ X * Y := by
  have hX : 0 ≤ X := by omega
  have hY : 0 ≤ Y := by omega
  have e1 : a * b ≤ a * Y := Int.mul_le_mul_of_nonneg_left h4 h1
  have e2 : a * Y ≤ X * Y := Int.mul_le_mul_of_nonneg_right h2 hY
  have e3 : a * (-Y) ≤ a * b := Int.mul_le_mul_of_nonneg_left h3 h1
  rw [Int.mul_neg] at e3
  omega
theorem cos_bd {A : List Ark} {f : List Int} (hf : Fit A f) (hc : ∀ i, i < A.length → cap A i ≤ 1048576 ∧ -1000 ≤ cst A i ∧ cst A i ≤ 1000) : ∀ k, k ≤ A.length →
    -((k : Int) * 1048576000) ≤ sumN (fun i => ge f i * cst A i) k ∧ sumN (fun i => ge f i * cst A i) k ≤ (k : Int) * 1048576000
  | 0, _ => ⟨Int.le_refl _, Int.le_refl _⟩
  | k + 1, hk => by
    have ih := cos_bd hf hc k (by omega)
    have hb := hf.b k (by omega)
    obtain ⟨h1, h2, h3⟩ := hc k (by omega)
    have := mul_bd (X := 1048576) (Y := 1000) hb.1 (by omega) h2 h3
    rw [sumN]
    omega

set_option maxHeartbeats 4000000 in
theorem cost_p (p q r : Option Addr) (n cp m cq k cr : Nat) (s : List Int) (A : List Ark) (f : List Int) (w : World) (hS : Ints w p s) (hA : Arks w q A) (hF : Ints w r f) (hn : s.length = n) (hm : A.length = m) (hk : f.length = k) :
    Calls Try.prog 14 #[.agg #[.slice p n cp, .slice q m cq], .slice r k cr] w fun e w' => e = .returned (.int .i64 (cosS s A f)) ∧ Grew w w' := by
  subst hn hm hk
  have ham := hA.1
  have HS := Lib.hid hS
  have HA := Lib.hid hA
  have HF := Lib.hid hF
  obtain ⟨z, hz⟩ : ∃ z, fitsS s A f = z := ⟨_, rfl⟩
  have Hz := Lib.hid hz
  have Hfits : Hid (∀ (w1 : World), Grew w w1 → Calls Try.prog 22 #[.agg #[.slice p s.length cp, .slice q A.length cq], .slice r f.length cr] w1 fun e w' => e = .returned (.int .i64 z) ∧ Grew w1 w') := Lib.hid (fun w1 hg => by
    have := fits_p p q r s.length cp A.length cq f.length cr s A f w1 (HS.out.grew hg) (HA.out.grew hg) (HF.out.grew hg) rfl rfl rfl
    rw [Hz.out] at this
    exact this)
  clear hS hA hF
  by_cases hz0 : z = 0
  case neg =>
    have Hf : Hid (cosS s A f = 0) := Lib.hid (if_neg (by rw [hz]; exact hz0))
    have hz1 : (z != 0) = true := by rw [bne_iff_ne]; exact hz0
    clear hz hz0
    go_enter Try.func14, Try.ntmps14
    go_wp2_with (go_at_call 22; apply Calls.mono; (with_reducible exact Hfits.out _ (by (repeat (first | exact Grew.refl _ | refine Grew.over ?_ _ | refine Grew.alloc ?_ _ | refine Grew.drew ?_ | refine Grew.drewN ?_ _)))); rintro e w' ⟨rfl, x, rfl⟩)
    go_ret
    exact ⟨ret_int Hf.out.symm, by (repeat (first | exact Grew.refl _ | refine Grew.over ?_ _ | refine Grew.alloc ?_ _ | refine Grew.drew ?_ | refine Grew.drewN ?_ _))⟩
  subst hz0
  have hfit := fitsS_zero hz
  have HV := Lib.hid hfit.1
  have Hfit := Lib.hid hfit.2
  have h2048 := hfit.1.m
  have Hl := Lib.hid hfit.2.l
  have Hf : Hid (cosS s A f = sumN (fun i => ge f i * cst A i) A.length) := Lib.hid (if_pos hz)
  clear hfit hz
  go_enter Try.func14, Try.ntmps14
  go_wp2_with (go_at_call 22; apply Calls.mono; (with_reducible exact Hfits.out _ (by (repeat (first | exact Grew.refl _ | refine Grew.over ?_ _ | refine Grew.alloc ?_ _ | refine Grew.drew ?_ | refine Grew.drewN ?_ _)))); rintro e w1 ⟨rfl, hg1⟩; have Hg1 : Hid (Grew w w1) := Lib.hid (Grew.trans (by (repeat (first | exact Grew.refl _ | refine Grew.over ?_ _ | refine Grew.alloc ?_ _ | refine Grew.drew ?_ | refine Grew.drewN ?_ _))) hg1); have x1 : w1.cell? ⟨w.heap.size, 1, none⟩ = some (.slice q A.length cq) := Grew.cellEq hg1 (by simp [go_sem]); clear hg1)
  go_loopw [5, 15] (fun v5 v15 wr => ∃ j : Nat, j ≤ A.length ∧ v15 = .int .i64 j ∧ v5 = .int .i64 (sumN (fun i => ge f i * cst A i) j) ∧ Grew w1 wr) (fun _ v15 _ => A.length - (intOf v15).toNat)
  case atStart => exact ⟨0, Nat.zero_le _, rfl, rfl, Grew.refl _⟩
  case round =>
    obtain ⟨j, hj, rfl, rfl, hg⟩ := hrel
    have Hg := Lib.hid hg
    clear hg
    obtain ⟨sb1, sb2⟩ := cos_bd Hfit.out (fun i hi => ⟨(HV.out.a i hi).2.2.1.2, (HV.out.a i hi).2.2.2⟩) j hj
    obtain ⟨S, hS0⟩ : ∃ S, sumN (fun i => ge f i * cst A i) j = S := ⟨_, rfl⟩
    rw [hS0] at sb1 sb2 ⊢
    have HS0 := Lib.hid hS0
    clear hS0
    have hSb : -2147483648000 ≤ S ∧ S ≤ 2147483648000 := by omega
    obtain ⟨hS1, hS2⟩ := hSb
    clear sb1 sb2
    by_cases hlt : j < A.length
    · obtain ⟨b2, o2, rfl, hb2, c0, c1, c2, c3⟩ := (HA.out.grew (Hg1.out.trans Hg.out)).open hlt
      have hjf : j < f.length := by have := Hl.out; omega
      obtain ⟨bf, of, hf3, hf4⟩ := (HF.out.grew (Hg1.out.trans Hg.out)).open
      obtain ⟨rfl, hbf⟩ := hf3 (by omega)
      have df := hf4 j hjf
      have hfb := Hfit.out.b j hlt
      have hcb := (HV.out.a j hlt).2.2
      have hsn : sumN (fun i => ge f i * cst A i) (j + 1) = S + ge f j * cst A j := by rw [sumN, HS0.out]
      have hprod := mul_bd (X := 1048576) (Y := 1000) hfb.1 (by omega) hcb.2.1 hcb.2.2
      obtain ⟨fj, hfj⟩ : ∃ x, ge f j = x := ⟨_, rfl⟩
      obtain ⟨cj, hcj⟩ : ∃ x, cst A j = x := ⟨_, rfl⟩
      obtain ⟨fc, hfc⟩ : ∃ x, fj * cj = x := ⟨_, rfl⟩
      have hc3 : (aK A j).cost = cj := hcj
      rw [hfj] at df hsn hprod
      rw [hcj] at hsn hprod
      rw [hfc] at hsn hprod
      rw [hc3] at c3
      obtain ⟨hp1, hp2⟩ := hprod
      have hp1' : -1048576000 ≤ fj * cj := by rw [hfc]; omega
      have hp2' : fj * cj ≤ 1048576000 := by rw [hfc]; omega
      have hwr : IntKind.i64.wrap (fj * cj) = fc := by rw [← hfc]; exact IntWalk.i64_in _ ⟨by omega, by omega⟩
      have hwr2 : IntKind.i64.wrap (S + fc) = S + fc := IntWalk.i64_in _ ⟨by omega, by omega⟩
      have Hsn := Lib.hid hsn
      clear hsn hfj hcj hfc hc3 hfb hcb hf3 hf4
      go_wp2
      refine wp_region_over (by kernel_rfl) (by kernel_rfl) ?_; (repeat (go_big_quiet_step (fail))); refine wpQuiet_nil ?_; intro w3 hW; replace hW : Grew _ w3 := hW
      have Hg3 : Hid (Grew w1 w3) := Lib.hid (Hg.out.trans (Grew.trans (by (repeat (first | exact Grew.refl _ | refine Grew.over ?_ _ | refine Grew.alloc ?_ _ | refine Grew.drew ?_ | refine Grew.drewN ?_ _))) hW))
      clear hW
      go_wp2
      go_roundw
      case rel => exact ⟨j + 1, by omega, by go_num, by rw [Hsn.out], Hg3.out⟩
      case measure => simp [intOf]; omega
    · have hje : j = A.length := by omega
      subst hje
      have Hf2 : Hid (cosS s A f = S) := Lib.hid (by rw [Hf.out, HS0.out])
      go_wp2
      go_ret
      exact ⟨ret_int Hf2.out.symm, Hg1.out.trans Hg.out⟩

set_option maxHeartbeats 8000000 in
theorem excess_r (p q r : Option Addr) (n cp m cq k cr : Nat) (s : List Int) (A : List Ark) (f : List Int) (w : World) (hS : Ints w p s) (hA : Arks w q A) (hF : Ints w r f) (hn : s.length = n) (hm : A.length = m) (hk : f.length = k)
    (hnil : p = none → n = 0 ∧ cp = 0) (hV : vN s A) (hfit : Fit A f) :
    Calls Try.prog 24 #[.agg #[.slice p n cp, .slice q m cq], .slice r k cr] w fun e w' => Grew w w' ∧ ∃ v, e = .returned v ∧ Owns w' w.heap.size [⟨v, 3, 1, n, intVs (exL s A f m)⟩] := by
  subst hn hm hk
  have HS := Lib.hid hS
  have HA := Lib.hid hA
  have HF := Lib.hid hF
  have HV := Lib.hid hV
  have Hfit := Lib.hid hfit
  have Hnil := Lib.hid hnil
  have h256 := hV.n
  have h2048 := hV.m
  have Hl := Lib.hid hfit.l
  have ham := hA.1
  clear hS hA hF hV hfit hnil
  go_enter Try.func24, Try.ntmps24
  go_upto_region 3 with (at_builtin; refine wp_append_owns rfl _ _ 22 rfl 3 1 8 (.int .i64 0) Try.underlying22 Try.infoInt rfl (by decide) (w.heap.size + 1) _ 0 _ _ _ ((Owns.nil _ (w.heap.size + 1)).none 3 1) rfl rfl p s.length cp rfl (intVs s) (by rw [intVs_length, Nat.mul_one]) Hnil.out ((HS.out.grew (by (repeat (first | exact Grew.refl _ | refine Grew.over ?_ _ | refine Grew.alloc ?_ _ | refine Grew.drew ?_ | refine Grew.drewN ?_ _)))).newsO) (intVs_one _) (by simp only [maxLen]; omega) (by omega) (by first | rfl | omega | (simp <;> omega)) ?_; intro v1 w1 hO1 hg1 hb1 _; have Hg1 := Lib.hid (Grew.grownBy (w0 := w) (by (repeat (first | exact Grew.refl _ | refine Grew.over ?_ _ | refine Grew.alloc ?_ _ | refine Grew.drew ?_ | refine Grew.drewN ?_ _))) hg1 (fun k hk => by have := hb1 k hk; omega)); have hgb := Grew.grownBy (w0 := w.alloc (.cells #[.slice p s.length cp, .slice q A.length cq] 25)) (Grew.refl _) hg1 (fun k hk => by simp [Value.ownBlock] at hk); have HO1 := Lib.hid hO1; clear hO1 hg1 hb1)
  have x0 : w1.cell? ⟨w.heap.size, 0, none⟩ = some (.slice p s.length cp) := Grew.cellEq hgb (by simp [go_sem])
  have x1 : w1.cell? ⟨w.heap.size, 1, none⟩ = some (.slice q A.length cq) := Grew.cellEq hgb (by simp [go_sem])
  have hbx := hgb.below.size
  have hO1 := HO1.out
  simp only [List.set_cons_zero, Nat.zero_add, List.nil_append] at hO1
  clear hgb
  have Hx0 := Lib.hid x0
  have Hx1 := Lib.hid x1
  rcases own_shape hO1 with ⟨rfl, hn0⟩ | ⟨g, c6, rfl, hB6, hs6, hc6⟩
  · have hm0 : A.length = 0 := by
      rcases Nat.eq_zero_or_pos A.length with h | h
      · exact h
      · have := (HV.out.a 0 h).1; omega
    have Hr : Hid (exL s A f A.length = s) := Lib.hid (by rw [hm0]; rfl)
    have HO2 := Lib.hid (hO1.base (Nat.le_succ w.heap.size))
    clear hO1 HO1
    go_wp2
    go_loopw [6] (fun v6 wr => v6 = .int .i64 0 ∧ Grew w1 wr) (fun _ _ => 0)
    case atStart => exact ⟨rfl, Grew.refl _⟩
    case round =>
      obtain ⟨rfl, y, rfl⟩ := hrel
      replace x1 := Grew.cellEq (W := over w1 y) (by (repeat (first | exact Grew.refl _ | refine Grew.over ?_ _ | refine Grew.alloc ?_ _ | refine Grew.drew ?_ | refine Grew.drewN ?_ _))) x1
      go_wp2
      go_ret
      refine ⟨Hg1.out.trans (by (repeat (first | exact Grew.refl _ | refine Grew.over ?_ _ | refine Grew.alloc ?_ _ | refine Grew.drew ?_ | refine Grew.drewN ?_ _))), _, rfl, ?_⟩
      have h := HO2.out.grew (w' := over w1 y) (by (repeat (first | exact Grew.refl _ | refine Grew.over ?_ _ | refine Grew.alloc ?_ _ | refine Grew.drew ?_ | refine Grew.drewN ?_ _)))
      first | exact h | (rw [Hr.out]; exact h)
  have HO := Lib.hid (hO1.base (Nat.le_succ w.heap.size))
  have hgx : g ≠ w.heap.size := by omega
  have hgw1 : w.heap.size < w1.heap.size := by simp at hbx; omega
  have Hgw1 := Lib.hid hgw1
  clear hO1 HO1
  go_wp2
  go_loopw [6] (fun v6 wr => ∃ j : Nat, j ≤ A.length ∧ v6 = .int .i64 j ∧ Owns wr w.heap.size [rC g s.length c6 (exL s A f j)] ∧ Grew w wr ∧ g ≠ w.heap.size ∧ w.heap.size < wr.heap.size ∧ wr.cell? ⟨w.heap.size, 0, none⟩ = some (.slice p s.length cp) ∧ wr.cell? ⟨w.heap.size, 1, none⟩ = some (.slice q A.length cq)) (fun v6 _ => A.length - (intOf v6).toNat)
  case atStart => exact ⟨0, Nat.zero_le _, rfl, HO.out, Hg1.out, hgx, hgw1, x0, x1⟩
  case round =>
    clear HO Hg1 x0 x1 hgx
    obtain ⟨j, hj, rfl, hO, hg, hgx, hbw, x0, x1⟩ := hrel
    have HO := Lib.hid hO
    have Hg := Lib.hid hg
    clear hO hg
    by_cases hlt : j < A.length
    · obtain ⟨b2, o2, h2a, hb20, _⟩ := HA.out.open hlt
      subst h2a
      obtain ⟨b2', o2', h2b, hb2, c0, c1, c2, c3⟩ := (HA.out.grew Hg.out).open hlt
      simp only [Option.some.injEq, Addr.mk.injEq, and_true] at h2b
      obtain ⟨rfl, rfl⟩ := h2b
      have hjf : j < f.length := by have := Hl.out; omega
      obtain ⟨bf, of, hf3, hf4⟩ := HF.out.open
      obtain ⟨rfl, hbf0⟩ := hf3 (by omega)
      have df := Hg.out.cellEq (hf4 j hjf)
      have hbf := Nat.lt_of_lt_of_le hbf0 Hg.out.below.size
      have hF1 := HV.out.vF hlt
      have hT1 := HV.out.vT hlt
      rw [HV.out.fr hlt] at c0
      rw [HV.out.ed hlt] at c1
      obtain ⟨u, hu⟩ : ∃ u, vF A j = u := ⟨_, rfl⟩
      obtain ⟨v, hv⟩ : ∃ v, vT A j = v := ⟨_, rfl⟩
      rw [hu] at c0 hF1
      rw [hv] at c1 hT1
      have hbd := fun t ht => exL_bd (f := f) (k := j) (v := t) HV.out Hfit.out (by omega) ht
      have hfb := Hfit.out.b j hlt
      have hcb := (HV.out.a j hlt).2.2.1
      obtain ⟨xs, hxs⟩ : ∃ xs, exL s A f j = xs := ⟨_, rfl⟩
      have hxl : xs.length = s.length := by rw [← hxs, exL_length]
      have Hxs := Lib.hid hxs
      rw [hxs] at HO hbd
      obtain ⟨fj, hfj⟩ : ∃ x, ge f j = x := ⟨_, rfl⟩
      rw [hfj] at df hfb
      have hb1 := hbd u hF1
      have hb2v := hbd v hT1
      have Hxl := Lib.hid hxl
      have Hnext : Hid (exL s A f (j + 1) = (xs.set u (ge xs u - fj)).set v (ge (xs.set u (ge xs u - fj)) v + fj)) := Lib.hid (by simp only [exL]; rw [hxs, hu, hv, hfj])
      have hgv : ge (xs.set u (ge xs u - fj)) v = if v = u then ge xs u - fj else ge xs v := ge_set xs (by rw [hxl]; exact hF1) _ v
      obtain ⟨xu, hxu⟩ : ∃ x, ge xs u = x := ⟨_, rfl⟩
      obtain ⟨xs2, hxs2⟩ : ∃ l, xs.set u (ge xs u - fj) = l := ⟨_, rfl⟩
      rw [hxs2] at hgv Hnext
      obtain ⟨xv, hxv⟩ : ∃ x, ge xs2 v = x := ⟨_, rfl⟩
      rw [hxv] at hgv Hnext
      have hxvb : -2160000000 ≤ xv ∧ xv ≤ 2160000000 := by rw [hgv]; split <;> omega
      rw [hxu] at hb1 hxs2
      have hwr1 : IntKind.i64.wrap (xu - fj) = xu - fj := IntWalk.i64_in _ ⟨by omega, by omega⟩
      have hwr2 : IntKind.i64.wrap (xv + fj) = xv + fj := IntWalk.i64_in _ ⟨by omega, by omega⟩
      have hl2 : xs2.length = s.length := by rw [← hxs2, List.length_set]; exact hxl
      have Hxs2 := Lib.hid hxs2
      have Hxu := Lib.hid hxu
      have Hxv := Lib.hid hxv
      have Hl2 := Lib.hid hl2
      clear hbd hxs hfj hu hv hxl hgv hxs2 hxu hxv hl2 hf3 hf4 hcb c2 c3
      have e0 := own_atC HO.out (j := 0) rfl (i := u) (by rw [Hxl.out]; exact hF1)
      rw [Hxu.out] at e0
      have bg := own_lt HO.out (j := 0) rfl
      have fg := own_fr HO.out (j := 0) rfl
      replace fg := fg u
      have HO4 := Lib.hid (own_setC HO.out (j := 0) rfl u (xu - fj))
      have Hg4 := Lib.hid (HO.out.setGrew (w0 := w) (Nat.le_refl _) Hg.out (k := 0) rfl u (.int .i64 (xu - fj)))
      have hne1 : g ≠ bf := by omega
      have hne2 : g ≠ b2 := by omega
      clear hbf0 hb20
      go_upto_region 6 with fail
      refine wp_region_lex (One 22 (fun b => if b then wr.setCell ⟨g, u, none⟩ (.int .i64 (xu - fj)) else wr)) (by kernel_rfl) (by kernel_rfl) ?_ ?_
      · (repeat (first | exact Grew.refl _ | refine Grew.over ?_ _ | refine Grew.alloc ?_ _ | refine Grew.drew ?_ | refine Grew.drewN ?_ _))
      repeat (first
        | (refine lex_skip rfl ?_ ?_
           · exact One.keep (by decide)
           (try simp only [Act.put, List.setIfInBounds_toArray, List.set_cons_zero, List.set_cons_succ]))
        | (refine lex_pure (v := ?_) rfl ?_ (fun d w hd hr hC => ?_) ?_
           rotate_left
           · exact One.keep (by decide)
           · ((try (have hs := closed_undone (s := 22) hr.2 rfl (by decide +kernel) hd; unfold One at hC; rw [hs] at hC)); obtain ⟨x, rfl⟩ := hC; simp [go_sem, ↓IntWalk.iteOmega, x1, c0, e0, df, fg, hwr1]; try rfl)
           (try simp only [Act.put, List.setIfInBounds_toArray, List.set_cons_zero, List.set_cons_succ]))
        | (refine lex_call (v := ?_) (f := ?_) (args := ?_) rfl ?_ One.grew (fun d w hd hr hC => ?_) (fun d w hd hr hC => ?_) ?_
           rotate_left 3
           · exact One.keep (by decide)
           · ((try (have hs := closed_undone (s := 22) hr.2 rfl (by decide +kernel) hd; unfold One at hC; rw [hs] at hC)); obtain ⟨x, rfl⟩ := hC; simp [go_sem, ↓IntWalk.iteOmega, x1, c0, e0, df, fg, hwr1]; (refine ⟨?_, ?_⟩ <;> rfl))
           · ((try (have hs := closed_undone (s := 22) hr.2 rfl (by decide +kernel) hd; unfold One at hC; rw [hs] at hC)); obtain ⟨x, rfl⟩ := hC; (fail))
           (try simp only [Act.put, List.setIfInBounds_toArray, List.set_cons_zero, List.set_cons_succ]))
        | (refine lex_store rfl (fun d w hd hr hC => ?_) ?_
           · (unfold One at hC ⊢; rw [hd] at hC; rw [mark_same]; obtain ⟨x, rfl⟩ := hC; refine ⟨?_, ?_, ?_⟩; rotate_left; (simp [go_sem, ↓IntWalk.iteOmega, x1, c0, e0, df, fg, hwr1]; try rfl); (simp; exact ⟨_, rfl⟩))
           (try simp only [Act.put, List.setIfInBounds_toArray, List.set_cons_zero, List.set_cons_succ])))
      refine lex_nil ?_
      intro dLx w4 hd hw4
      unfold One at hw4; rw [hd 22 (by decide)] at hw4; simp only [if_true] at hw4
      have HO5 : Hid (Owns w4 w.heap.size [rC g s.length c6 xs2]) := Lib.hid (by
        have h := HO4.out.grew hw4
        rw [← Hxs2.out]
        exact h)
      have Hg5 := Lib.hid (Hg4.out.trans hw4)
      replace x0 : w4.cell? ⟨w.heap.size, 0, none⟩ = _ := hw4.cellEq (v := .slice p s.length cp) (by first | (go_simp; done) | (simp [go_sem, ↓IntWalk.iteOmega, *]; done))
      replace x1 : w4.cell? ⟨w.heap.size, 1, none⟩ = _ := hw4.cellEq (v := .slice (some ⟨b2, o2, none⟩) A.length cq) (by first | (go_simp; done) | (simp [go_sem, ↓IntWalk.iteOmega, *]; done))
      replace c1 : w4.cell? ⟨b2, o2 + j * 4 + 1, none⟩ = _ := hw4.cellEq (v := .int .i64 (v : Int)) (by first | (go_simp; done) | (simp [go_sem, ↓IntWalk.iteOmega, *]; done))
      replace df : w4.cell? ⟨bf, of + j, none⟩ = _ := hw4.cellEq (v := .int .i64 fj) (by first | (go_simp; done) | (simp [go_sem, ↓IntWalk.iteOmega, *]; done))
      have hz4 : w.heap.size < w4.heap.size := by have := hw4.below.size; simp at this; omega
      have hbf4 : bf < w4.heap.size := by have := hw4.below.size; simp at this; omega
      have hb24 : b2 < w4.heap.size := by have := hw4.below.size; simp at this; omega
      clear e0 fg hwr1 hw4 c0
      have e1 := own_atC HO5.out (j := 0) rfl (i := v) (by rw [Hl2.out]; exact hT1)
      rw [Hxv.out] at e1
      have bg5 := own_lt HO5.out (j := 0) rfl
      have fg5 := own_fr HO5.out (j := 0) rfl
      replace fg5 := fg5 v
      have HO6 := Lib.hid (own_setC HO5.out (j := 0) rfl v (xv + fj))
      have Hg6 := Lib.hid (HO5.out.setGrew (w0 := w) (Nat.le_refl _) Hg5.out (k := 0) rfl v (.int .i64 (xv + fj)))
      go_upto_region 7 with fail
      refine wp_region_lex (One 22 (fun b => if b then w4.setCell ⟨g, v, none⟩ (.int .i64 (xv + fj)) else w4)) (by kernel_rfl) (by kernel_rfl) ?_ ?_
      · (repeat (first | exact Grew.refl _ | refine Grew.over ?_ _ | refine Grew.alloc ?_ _ | refine Grew.drew ?_ | refine Grew.drewN ?_ _))
      repeat (first
        | (refine lex_skip rfl ?_ ?_
           · exact One.keep (by decide)
           (try simp only [Act.put, List.setIfInBounds_toArray, List.set_cons_zero, List.set_cons_succ]))
        | (refine lex_pure (v := ?_) rfl ?_ (fun d w hd hr hC => ?_) ?_
           rotate_left
           · exact One.keep (by decide)
           · ((try (have hs := closed_undone (s := 22) hr.2 rfl (by decide +kernel) hd; unfold One at hC; rw [hs] at hC)); obtain ⟨x, rfl⟩ := hC; simp [go_sem, ↓IntWalk.iteOmega, x1, c1, e1, df, fg5, hwr2]; try rfl)
           (try simp only [Act.put, List.setIfInBounds_toArray, List.set_cons_zero, List.set_cons_succ]))
        | (refine lex_call (v := ?_) (f := ?_) (args := ?_) rfl ?_ One.grew (fun d w hd hr hC => ?_) (fun d w hd hr hC => ?_) ?_
           rotate_left 3
           · exact One.keep (by decide)
           · ((try (have hs := closed_undone (s := 22) hr.2 rfl (by decide +kernel) hd; unfold One at hC; rw [hs] at hC)); obtain ⟨x, rfl⟩ := hC; simp [go_sem, ↓IntWalk.iteOmega, x1, c1, e1, df, fg5, hwr2]; (refine ⟨?_, ?_⟩ <;> rfl))
           · ((try (have hs := closed_undone (s := 22) hr.2 rfl (by decide +kernel) hd; unfold One at hC; rw [hs] at hC)); obtain ⟨x, rfl⟩ := hC; (fail))
           (try simp only [Act.put, List.setIfInBounds_toArray, List.set_cons_zero, List.set_cons_succ]))
        | (refine lex_store rfl (fun d w hd hr hC => ?_) ?_
           · (unfold One at hC ⊢; rw [hd] at hC; rw [mark_same]; obtain ⟨x, rfl⟩ := hC; refine ⟨?_, ?_, ?_⟩; rotate_left; (simp [go_sem, ↓IntWalk.iteOmega, x1, c1, e1, df, fg5, hwr2]; try rfl); (simp; exact ⟨_, rfl⟩))
           (try simp only [Act.put, List.setIfInBounds_toArray, List.set_cons_zero, List.set_cons_succ])))
      refine lex_nil ?_
      intro dLx w5 hd hw5
      unfold One at hw5; rw [hd 22 (by decide)] at hw5; simp only [if_true] at hw5
      have HO7 : Hid (Owns w5 w.heap.size [rC g s.length c6 (exL s A f (j + 1))]) := Lib.hid (by
        have h := HO6.out.grew hw5
        rw [Hnext.out]
        exact h)
      have Hg7 := Lib.hid (Hg6.out.trans hw5)
      replace x0 : w5.cell? ⟨w.heap.size, 0, none⟩ = _ := hw5.cellEq (v := .slice p s.length cp) (by first | (go_simp; done) | (simp [go_sem, ↓IntWalk.iteOmega, *]; done))
      replace x1 : w5.cell? ⟨w.heap.size, 1, none⟩ = _ := hw5.cellEq (v := .slice (some ⟨b2, o2, none⟩) A.length cq) (by first | (go_simp; done) | (simp [go_sem, ↓IntWalk.iteOmega, *]; done))
      have hz5 : w.heap.size < w5.heap.size := by have := hw5.below.size; simp at this; omega
      clear hw5
      go_wp2
      go_roundw
      case rel => exact ⟨j + 1, by omega, by go_num, HO7.out, Hg7.out, hgx, hz5, x0, x1⟩
      case measure => simp [intOf]; omega
    · have hje : j = A.length := by omega
      subst hje
      go_wp2
      go_ret
      exact ⟨Hg.out, _, rfl, HO.out⟩
end Go.Proofs.Ytnnlhmialmhpfaa
