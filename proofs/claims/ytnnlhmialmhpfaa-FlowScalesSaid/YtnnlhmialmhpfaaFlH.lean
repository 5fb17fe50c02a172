/- Check of the program. -/
import Derived.Test.YtnnlhmialmhpfaaFlG
import Derived.Test.YtnnlhmialmhpfaaOwnI
set_option linter.unusedSimpArgs false
set_option linter.unusedVariables false
namespace Go.Proofs.Ytnnlhmialmhpfaa
open Go.RowKit
attribute [local go_sem ↓] Go.wp_at_zero Go.wp_at_succ

def chkS (s : List Int) (A : List Ark) (f : List Int) : Int := if fitsS s A f = 0 then (if ∀ v, v < s.length → exc s A f v = 0 then 0 else 15) else fitsS s A f
theorem chkS_err {s : List Int} {A : List Ark} {f : List Int} (h : fitsS s A f ≠ 0) : chkS s A f = fitsS s A f := if_neg h
theorem fitsS_zero {s : List Int} {A : List Ark} {f : List Int} (h : fitsS s A f = 0) : vN s A ∧ Fit A f := by
  cases hv : nB s A
  · rw [fitsS_bad hv] at h; omega
  · by_cases hf : Fit A f
    · exact ⟨nB_iff.1 hv, hf⟩
    · rw [fitsS_no hv hf] at h; omega
theorem inF_bd {A : List Ark} {f : List Int} (hf : Fit A f) (hc : ∀ i, i < A.length → cap A i ≤ 1048576) (v : Nat) : ∀ k, k ≤ A.length → -((k : Int) * 1048576) ≤ inF A f v k ∧ inF A f v k ≤ (k : Int) * 1048576
  | 0, _ => ⟨Int.le_refl _, Int.le_refl _⟩
  | k + 1, hk => by
    have ih := inF_bd hf hc v k (by omega)
    have hb := hf.b k (by omega)
    have hc' := hc k (by omega)
    have e : inF A f v (k + 1) = inF A f v k + ((if vT A k = v then ge f k else 0) - (if vF A k = v then ge f k else 0)) := rfl
    rw [e]
    split <;> split <;> omega
theorem exL_bd {s : List Int} {A : List Ark} {f : List Int} (hV : vN s A) (hf : Fit A f) {k : Nat} (hk : k ≤ A.length) {v : Nat} (hv : v < s.length) : -2148532224 ≤ ge (exL s A f k) v ∧ ge (exL s A f k) v ≤ 2148532224 := by
  rw [ge_exL hV f k hk]
  have h1 := inF_bd hf (fun i hi => (hV.a i hi).2.2.1.2) v k hk
  have h2 := hV.sb v hv
  have h3 := hV.m
  omega

set_option maxHeartbeats 8000000 in
theorem check_p (p q r : Option Addr) (n cp m cq k cr : Nat) (s : List Int) (A : List Ark) (f : List Int) (w : World) (hS : Ints w p s) (hA : Arks w q A) (hF : Ints w r f) (hn : s.length = n) (hm : A.length = m) (hk : f.length = k) (hnil : p = none → n = 0 ∧ cp = 0) :
    Calls Try.prog 12 #[.agg #[.slice p n cp, .slice q m cq], .slice r k cr] w fun e w' => e = .returned (.int .i64 (chkS s A f)) ∧ Grew w w' := by
  subst hn hm hk
  have hsm := hS.1
  have ham := hA.1
  have hfm := hF.1
  have Hnil := Lib.hid hnil
  have HS := Lib.hid hS
  have HA := Lib.hid hA
  have HF := Lib.hid hF
  obtain ⟨z, hz⟩ : ∃ z, fitsS s A f = z := ⟨_, rfl⟩
  have Hz := Lib.hid hz
  have Hfits : Hid (∀ (w1 : World), Grew w w1 → Calls Try.prog 22 #[.agg #[.slice p s.length cp, .slice q A.length cq], .slice r f.length cr] w1 fun e w' => e = .returned (.int .i64 z) ∧ Grew w1 w') := Lib.hid (fun w1 hg => by
    have := fits_p p q r s.length cp A.length cq f.length cr s A f w1 (HS.out.grew hg) (HA.out.grew hg) (HF.out.grew hg) rfl rfl rfl
    rw [Hz.out] at this
    exact this)
  clear hnil hS hA hF
  by_cases hz0 : z = 0
  case neg =>
    have Hf := Lib.hid (chkS_err (s := s) (A := A) (f := f) (by rw [hz]; exact hz0))
    rw [hz] at Hf
    have hz1 : (z != 0) = true := by rw [bne_iff_ne]; exact hz0
    clear hz hz0
    go_enter Try.func12, Try.ntmps12
    go_wp2_with (go_at_call 22; apply Calls.mono; (with_reducible exact Hfits.out _ (by (repeat (first | exact Grew.refl _ | refine Grew.over ?_ _ | refine Grew.alloc ?_ _ | refine Grew.drew ?_ | refine Grew.drewN ?_ _)))); rintro e w' ⟨rfl, x, rfl⟩)
    go_ret
    exact ⟨ret_int Hf.out.symm, by (repeat (first | exact Grew.refl _ | refine Grew.over ?_ _ | refine Grew.alloc ?_ _ | refine Grew.drew ?_ | refine Grew.drewN ?_ _))⟩
  subst hz0
  have hfit := fitsS_zero hz
  have HV := Lib.hid hfit.1
  have Hfit := Lib.hid hfit.2
  have h256 := hfit.1.n
  have h2048 := hfit.1.m
  have hl := hfit.2.l
  have Hl := Lib.hid hl
  have hf4096 : f.length ≤ 4096 := by omega
  have Hchk : Hid (chkS s A f = if ∀ v, v < s.length → exc s A f v = 0 then 0 else 15) := Lib.hid (by unfold chkS; rw [if_pos hz])
  have Hex : Hid (∀ v, v < s.length → ge (exL s A f A.length) v = exc s A f v) := Lib.hid (fun v _ => ge_exL HV.out f A.length (Nat.le_refl _) v)
  have hs4096 : s.length ≤ 4096 := by omega
  clear hfit hz hl
  go_enter Try.func12, Try.ntmps12
  go_upto_region 5 with (first
    | (go_at_call 22; apply Calls.mono; (with_reducible exact Hfits.out _ (by (repeat (first | exact Grew.refl _ | refine Grew.over ?_ _ | refine Grew.alloc ?_ _ | refine Grew.drew ?_ | refine Grew.drewN ?_ _)))); rintro e w1 ⟨rfl, hg1⟩; have Hg1 : Hid (Grew w w1) := Lib.hid (Grew.trans (by (repeat (first | exact Grew.refl _ | refine Grew.over ?_ _ | refine Grew.alloc ?_ _ | refine Grew.drew ?_ | refine Grew.drewN ?_ _))) hg1); have x0 : w1.cell? ⟨w.heap.size, 0, none⟩ = some (.slice p s.length cp) := Grew.cellEq hg1 (by simp [go_sem]); have x1 : w1.cell? ⟨w.heap.size, 1, none⟩ = some (.slice q A.length cq) := Grew.cellEq hg1 (by simp [go_sem]); clear hg1)
    | (go_at_call 23; apply Calls.mono; (with_reducible exact clone_g _ _ _ s _ (HS.out.grew Hg1.out) rfl hs4096 Hnil.out); rintro e w2 ⟨hg2, v6, rfl, hO⟩; have Hg2 := Lib.hid hg2; have HO := Lib.hid hO; have Hx0 := Lib.hid x0; have Hx1 := Lib.hid x1; replace x0 := hg2.cellEq x0; replace x1 := hg2.cellEq x1; clear hg2 hO))
  rcases own_shape HO.out with ⟨rfl, hn0⟩ | ⟨g, c6, rfl, hB6, hs6, hc6⟩
  · have hm0 : A.length = 0 := by
      rcases Nat.eq_zero_or_pos A.length with h | h
      · exact h
      · have := (HV.out.a 0 h).1; omega
    have Hr : Hid (chkS s A f = 0) := Lib.hid (by rw [Hchk.out, if_pos (fun v hv => by omega)])
    go_wp2
    go_loopw [23] (fun v23 wr => v23 = .int .i64 0 ∧ Grew w2 wr) (fun _ _ => 0)
    case atStart => exact ⟨rfl, Grew.refl _⟩
    case round =>
      obtain ⟨rfl, y, rfl⟩ := hrel
      go_wp2
      go_loopw [53] (fun v53 wr => v53 = .int .i64 0 ∧ Grew w2 wr) (fun _ _ => 0)
      case atStart => exact ⟨rfl, by (repeat (first | exact Grew.refl _ | refine Grew.over ?_ _ | refine Grew.alloc ?_ _ | refine Grew.drew ?_ | refine Grew.drewN ?_ _))⟩
      case round =>
        obtain ⟨rfl, y, rfl⟩ := hrel
        go_wp2
        go_ret
        exact ⟨ret_int Hr.out.symm, (Hg1.out.trans Hg2.out).trans (by (repeat (first | exact Grew.refl _ | refine Grew.over ?_ _ | refine Grew.alloc ?_ _ | refine Grew.drew ?_ | refine Grew.drewN ?_ _)))⟩
  go_wp2
  go_loopw [23] (fun v23 wr => ∃ j : Nat, j ≤ A.length ∧ v23 = .int .i64 j ∧ Owns wr w1.heap.size [rC g s.length c6 (exL s A f j)] ∧ Grew w1 wr) (fun v23 _ => A.length - (intOf v23).toNat)
  case atStart => exact ⟨0, Nat.zero_le _, rfl, HO.out, Hg2.out⟩
  case round =>
    clear HO Hg2 x0 x1
    obtain ⟨j, hj, rfl, hO, hg⟩ := hrel
    have HO := Lib.hid hO
    have Hg := Lib.hid hg
    clear hO hg
    have x0 := Hg.out.cellEq Hx0.out
    have x1 := Hg.out.cellEq Hx1.out
    by_cases hlt : j < A.length
    · obtain ⟨b2, o2, rfl, hb2, c0, c1, c2, c3⟩ := (HA.out.grew (Hg1.out.trans Hg.out)).open hlt
      have hjf : j < f.length := by have := Hl.out; omega
      obtain ⟨bf, of, hf3, hf4⟩ := HF.out.open
      obtain ⟨rfl, hbf0⟩ := hf3 (by omega)
      have df := (Hg1.out.trans Hg.out).cellEq (hf4 j hjf)
      have hbf1 := Nat.lt_of_lt_of_le hbf0 Hg1.out.below.size
      have hbf := Nat.lt_of_lt_of_le hbf1 Hg.out.below.size
      have hgr := own_lt HO.out (j := 0) rfl
      have hF1 := HV.out.vF hlt
      have hT1 := HV.out.vT hlt
      rw [HV.out.fr hlt] at c0
      rw [HV.out.ed hlt] at c1
      obtain ⟨u, hu⟩ : ∃ u, vF A j = u := ⟨_, rfl⟩
      obtain ⟨v, hv⟩ : ∃ v, vT A j = v := ⟨_, rfl⟩
      rw [hu] at c0 hF1
      rw [hv] at c1 hT1
      have hbd := fun t ht => exL_bd (f := f) (k := j) (v := t) HV.out Hfit.out (by omega) ht
      have hfb := Hfit.out.b j hlt
      have hcb := (HV.out.a j hlt).2.2.1
      obtain ⟨xs, hxs⟩ : ∃ xs, exL s A f j = xs := ⟨_, rfl⟩
      have hxl : xs.length = s.length := by rw [← hxs, exL_length]
      have Hxs := Lib.hid hxs
      rw [hxs] at HO hbd
      obtain ⟨fj, hfj⟩ : ∃ x, ge f j = x := ⟨_, rfl⟩
      rw [hfj] at df hfb
      have hb1 := hbd u hF1
      have hb2 := hbd v hT1
      have Hfj := Lib.hid hfj
      have Hu := Lib.hid hu
      have Hv := Lib.hid hv
      have Hxl := Lib.hid hxl
      have Hnext : Hid (exL s A f (j + 1) = (xs.set u (ge xs u - fj)).set v (ge (xs.set u (ge xs u - fj)) v + fj)) := Lib.hid (by simp only [exL]; rw [hxs, hu, hv, hfj])
      have hgv : ge (xs.set u (ge xs u - fj)) v = if v = u then ge xs u - fj else ge xs v := ge_set xs (by rw [hxl]; exact hF1) _ v
      obtain ⟨xu, hxu⟩ : ∃ x, ge xs u = x := ⟨_, rfl⟩
      obtain ⟨xs2, hxs2⟩ : ∃ l, xs.set u (ge xs u - fj) = l := ⟨_, rfl⟩
      rw [hxs2] at hgv Hnext
      obtain ⟨xv, hxv⟩ : ∃ x, ge xs2 v = x := ⟨_, rfl⟩
      rw [hxv] at hgv Hnext
      have hxvb : -2160000000 ≤ xv ∧ xv ≤ 2160000000 := by rw [hgv]; split <;> omega
      rw [hxu] at hb1 hxs2
      have hwr1 : IntKind.i64.wrap (xu - fj) = xu - fj := IntWalk.i64_in _ ⟨by omega, by omega⟩
      have hwr2 : IntKind.i64.wrap (xv + fj) = xv + fj := IntWalk.i64_in _ ⟨by omega, by omega⟩
      have hl2 : xs2.length = s.length := by rw [← hxs2, List.length_set]; exact hxl
      have Hxs2 := Lib.hid hxs2
      have Hxu := Lib.hid hxu
      have Hxv := Lib.hid hxv
      have Hl2 := Lib.hid hl2
      clear hbd hxs hfj hu hv hxl hgv hxs2 hxu hxv hl2 hf3 hf4 hcb
      go_upto_region 8 with fail
      obtain ⟨w3, hw3⟩ : ∃ w3, wr.alloc (.cells #[.int .i64 (u : Int), .int .i64 (v : Int), .int .i64 (aK A j).cap, .int .i64 (aK A j).cost] 36) = w3 := ⟨_, rfl⟩
      have z0 : w3.cell? ⟨wr.heap.size, 0, none⟩ = some (.int .i64 (u : Int)) := by rw [← hw3]; simp [go_sem]
      have z1 : w3.cell? ⟨wr.heap.size, 1, none⟩ = some (.int .i64 (v : Int)) := by rw [← hw3]; simp [go_sem]
      have hg3 : Grew wr w3 := by rw [← hw3]; (repeat (first | exact Grew.refl _ | refine Grew.over ?_ _ | refine Grew.alloc ?_ _ | refine Grew.drew ?_ | refine Grew.drewN ?_ _))
      have hz3 : wr.heap.size < w3.heap.size := by rw [← hw3]; simp
      have HO3 := Lib.hid (HO.out.grew hg3)
      have Hg3 := Lib.hid (Hg.out.trans hg3)
      replace df := hg3.cellEq df
      rw [hw3]
      have Hx03 := Lib.hid (hg3.cellEq x0)
      have Hx13 := Lib.hid (hg3.cellEq x1)
      clear hw3 c0 c1 c2 c3 x0 x1 HO Hg
      have e0 := own_atC HO3.out (j := 0) rfl (i := u) (by rw [Hxl.out]; exact hF1)
      rw [Hxu.out] at e0
      have bg := own_lt HO3.out (j := 0) rfl
      have fg := own_fr HO3.out (j := 0) rfl
      replace fg := fg u
      have HO4 := Lib.hid (own_setC HO3.out (j := 0) rfl u (xu - fj))
      have Hg4 := Lib.hid (HO3.out.setGrew (w0 := w1) (Nat.le_refl _) Hg3.out (k := 0) rfl u (.int .i64 (xu - fj)))
      have hbf3 := Nat.lt_of_lt_of_le hbf hg3.below.size
      have hne1 : g ≠ bf := by omega
      have hne2 : g ≠ wr.heap.size := by omega
      clear hg3 hbf0 hbf1 hgr
      refine wp_region_lex (One 11 (fun b => if b then w3.setCell ⟨g, u, none⟩ (.int .i64 (xu - fj)) else w3)) (by kernel_rfl) (by kernel_rfl) ?_ ?_
      · (repeat (first | exact Grew.refl _ | refine Grew.over ?_ _ | refine Grew.alloc ?_ _ | refine Grew.drew ?_ | refine Grew.drewN ?_ _))
      repeat (first
        | (refine lex_skip rfl ?_ ?_
           · exact One.keep (by decide)
           (try simp only [Act.put, List.setIfInBounds_toArray, List.set_cons_zero, List.set_cons_succ]))
        | (refine lex_pure (v := ?_) rfl ?_ (fun d w hd hr hC => ?_) ?_
           rotate_left
           · exact One.keep (by decide)
           · ((try (have hs := closed_undone (s := 11) hr.2 rfl (by decide +kernel) hd; unfold One at hC; rw [hs] at hC)); obtain ⟨x, rfl⟩ := hC; simp [go_sem, ↓IntWalk.iteOmega, z0, e0, df, fg, hwr1]; try rfl)
           (try simp only [Act.put, List.setIfInBounds_toArray, List.set_cons_zero, List.set_cons_succ]))
        | (refine lex_call (v := ?_) (f := ?_) (args := ?_) rfl ?_ One.grew (fun d w hd hr hC => ?_) (fun d w hd hr hC => ?_) ?_
           rotate_left 3
           · exact One.keep (by decide)
           · ((try (have hs := closed_undone (s := 11) hr.2 rfl (by decide +kernel) hd; unfold One at hC; rw [hs] at hC)); obtain ⟨x, rfl⟩ := hC; simp [go_sem, ↓IntWalk.iteOmega, z0, e0, df, fg, hwr1]; (refine ⟨?_, ?_⟩ <;> rfl))
           · ((try (have hs := closed_undone (s := 11) hr.2 rfl (by decide +kernel) hd; unfold One at hC; rw [hs] at hC)); obtain ⟨x, rfl⟩ := hC; (fail))
           (try simp only [Act.put, List.setIfInBounds_toArray, List.set_cons_zero, List.set_cons_succ]))
        | (refine lex_store rfl (fun d w hd hr hC => ?_) ?_
           · (unfold One at hC ⊢; rw [hd] at hC; rw [mark_same]; obtain ⟨x, rfl⟩ := hC; refine ⟨?_, ?_, ?_⟩; rotate_left; (simp [go_sem, ↓IntWalk.iteOmega, z0, e0, df, fg, hwr1]; try rfl); (simp; exact ⟨_, rfl⟩))
           (try simp only [Act.put, List.setIfInBounds_toArray, List.set_cons_zero, List.set_cons_succ])))
      refine lex_nil ?_
      intro dLx w4 hd hw4
      unfold One at hw4; rw [hd 11 (by decide)] at hw4; simp only [if_true] at hw4
      have HO5 : Hid (Owns w4 w1.heap.size [rC g s.length c6 xs2]) := Lib.hid (by
        have h := HO4.out.grew hw4
        rw [← Hxs2.out]
        exact h)
      have Hg5 := Lib.hid (Hg4.out.trans hw4)
      replace z1 : w4.cell? ⟨wr.heap.size, 1, none⟩ = _ := hw4.cellEq (v := .int .i64 (v : Int)) (by first | (go_simp; done) | (simp [go_sem, ↓IntWalk.iteOmega, *]; done))
      replace df : w4.cell? ⟨bf, of + j, none⟩ = _ := hw4.cellEq (v := .int .i64 fj) (by first | (go_simp; done) | (simp [go_sem, ↓IntWalk.iteOmega, *]; done))
      have hz4 : wr.heap.size < w4.heap.size := by have := hw4.below.size; simp at this; omega
      have hbf4 : bf < w4.heap.size := by omega
      have hg45 := Lib.hid hw4
      clear z0 e0 fg hwr1 hw4
      have e1 := own_atC HO5.out (j := 0) rfl (i := v) (by rw [Hl2.out]; exact hT1)
      rw [Hxv.out] at e1
      have bg5 := own_lt HO5.out (j := 0) rfl
      have fg5 := own_fr HO5.out (j := 0) rfl
      replace fg5 := fg5 v
      have HO6 := Lib.hid (own_setC HO5.out (j := 0) rfl v (xv + fj))
      have Hg6 := Lib.hid (HO5.out.setGrew (w0 := w1) (Nat.le_refl _) Hg5.out (k := 0) rfl v (.int .i64 (xv + fj)))
      go_upto_region 9 with fail
      refine wp_region_lex (One 11 (fun b => if b then w4.setCell ⟨g, v, none⟩ (.int .i64 (xv + fj)) else w4)) (by kernel_rfl) (by kernel_rfl) ?_ ?_
      · (repeat (first | exact Grew.refl _ | refine Grew.over ?_ _ | refine Grew.alloc ?_ _ | refine Grew.drew ?_ | refine Grew.drewN ?_ _))
      repeat (first
        | (refine lex_skip rfl ?_ ?_
           · exact One.keep (by decide)
           (try simp only [Act.put, List.setIfInBounds_toArray, List.set_cons_zero, List.set_cons_succ]))
        | (refine lex_pure (v := ?_) rfl ?_ (fun d w hd hr hC => ?_) ?_
           rotate_left
           · exact One.keep (by decide)
           · ((try (have hs := closed_undone (s := 11) hr.2 rfl (by decide +kernel) hd; unfold One at hC; rw [hs] at hC)); obtain ⟨x, rfl⟩ := hC; simp [go_sem, ↓IntWalk.iteOmega, z1, e1, df, fg5, hwr2]; try rfl)
           (try simp only [Act.put, List.setIfInBounds_toArray, List.set_cons_zero, List.set_cons_succ]))
        | (refine lex_call (v := ?_) (f := ?_) (args := ?_) rfl ?_ One.grew (fun d w hd hr hC => ?_) (fun d w hd hr hC => ?_) ?_
           rotate_left 3
           · exact One.keep (by decide)
           · ((try (have hs := closed_undone (s := 11) hr.2 rfl (by decide +kernel) hd; unfold One at hC; rw [hs] at hC)); obtain ⟨x, rfl⟩ := hC; simp [go_sem, ↓IntWalk.iteOmega, z1, e1, df, fg5, hwr2]; (refine ⟨?_, ?_⟩ <;> rfl))
           · ((try (have hs := closed_undone (s := 11) hr.2 rfl (by decide +kernel) hd; unfold One at hC; rw [hs] at hC)); obtain ⟨x, rfl⟩ := hC; (fail))
           (try simp only [Act.put, List.setIfInBounds_toArray, List.set_cons_zero, List.set_cons_succ]))
        | (refine lex_store rfl (fun d w hd hr hC => ?_) ?_
           · (unfold One at hC ⊢; rw [hd] at hC; rw [mark_same]; obtain ⟨x, rfl⟩ := hC; refine ⟨?_, ?_, ?_⟩; rotate_left; (simp [go_sem, ↓IntWalk.iteOmega, z1, e1, df, fg5, hwr2]; try rfl); (simp; exact ⟨_, rfl⟩))
           (try simp only [Act.put, List.setIfInBounds_toArray, List.set_cons_zero, List.set_cons_succ])))
      refine lex_nil ?_
      intro dLx w5 hd hw5
      unfold One at hw5; rw [hd 11 (by decide)] at hw5; simp only [if_true] at hw5
      have HO7 : Hid (Owns w5 w1.heap.size [rC g s.length c6 (exL s A f (j + 1))]) := Lib.hid (by
        have h := HO6.out.grew hw5
        rw [Hnext.out]
        exact h)
      have Hg7 := Lib.hid (Hg6.out.trans hw5)
      go_wp2
      go_roundw
      case rel => exact ⟨j + 1, by omega, by go_num, HO7.out, Hg7.out⟩
      case measure => simp [intOf]; omega
    · have hje : j = A.length := by omega
      subst hje
      have HO0 := HO
      have hlen : (exL s A f A.length).length = s.length := exL_length _ _ _ _
      have Hlen := Lib.hid hlen
      clear hlen
      go_wp2
      go_loop [53] (fun v53 => ∃ t : Nat, t ≤ s.length ∧ v53 = .int .i64 t ∧ ∀ v, v < t → exc s A f v = 0) (fun v53 => s.length - (intOf v53).toNat)
      case atStart => exact ⟨0, Nat.zero_le _, rfl, fun v hv => by omega⟩
      case round =>
        obtain ⟨t, ht, rfl, hall⟩ := hrel
        have Hall := Lib.hid hall
        clear hall
        by_cases hlt2 : t < s.length
        · have e0 := own_atC HO0.out (j := 0) rfl (i := t) (by rw [Hlen.out]; exact hlt2)
          rw [Hex.out t hlt2] at e0
          have bg := own_lt HO0.out (j := 0) rfl
          obtain ⟨x, hx⟩ : ∃ x, exc s A f t = x := ⟨_, rfl⟩
          rw [hx] at e0
          have Hx := Lib.hid hx
          clear hx
          by_cases h0 : x = 0
          · subst h0
            go_wp2
            go_round
            case rel =>
              refine ⟨t + 1, by omega, by go_num, fun v hv => ?_⟩
              by_cases e : v = t
              · rw [e]; exact Hx.out
              · exact Hall.out v (by omega)
            case measure => simp [intOf]; omega
          · have hx1 : (x != 0) = true := by rw [bne_iff_ne]; exact h0
            have Hr : Hid (chkS s A f = 15) := Lib.hid (by rw [Hchk.out, if_neg (fun h => h0 (by rw [← Hx.out]; exact h t hlt2))])
            clear h0
            go_wp2
            go_ret
            exact ⟨ret_int Hr.out.symm, Hg1.out.trans Hg.out⟩
        · have Hr : Hid (chkS s A f = 0) := Lib.hid (by rw [Hchk.out, if_pos (fun v hv => Hall.out v (by omega))])
          go_wp2
          go_ret
          exact ⟨ret_int Hr.out.symm, Hg1.out.trans Hg.out⟩
end Go.Proofs.Ytnnlhmialmhpfaa
