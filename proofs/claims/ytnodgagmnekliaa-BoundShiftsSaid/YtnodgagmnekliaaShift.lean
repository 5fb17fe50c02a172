/- The law BoundShifts. -/
import Derived.Test.YtnodgagmnekliaaOMat
set_option linter.unusedSimpArgs false
set_option linter.unusedVariables false
namespace Go.Proofs.Ytnodgagmnekliaa
open Go.RowKit

theorem OMat.two {w : World} {B go co : Nat} {m : List (List Int)} (h : OMat w B go co m) (hsq : sqM m) {u v : Nat} (hu : u < m.length) (hv : v < m.length) (huv : u ≠ v) :
    ∃ gu cu gv cv, w.cell? ⟨go, u, none⟩ = some (.slice (some ⟨gu, 0, none⟩) m.length cu) ∧ w.cell? ⟨go, v, none⟩ = some (.slice (some ⟨gv, 0, none⟩) m.length cv) ∧ B ≤ go ∧ go < w.heap.size ∧ B ≤ gu ∧ gu < w.heap.size ∧ B ≤ gv ∧ gv < w.heap.size ∧
      go ≠ gu ∧ go ≠ gv ∧ gu ≠ gv ∧ (∀ j, w.frozen? ⟨gu, j, none⟩ = false) ∧ (∀ j, w.frozen? ⟨gv, j, none⟩ = false) ∧
      (∀ j, j < m.length → w.cell? ⟨gu, j, none⟩ = some (.int .i64 (at2 m u j))) ∧ (∀ j, j < m.length → w.cell? ⟨gv, j, none⟩ = some (.int .i64 (at2 m v j))) ∧
      ∀ x y, OMat ((w.setCell ⟨gu, v, none⟩ (.int .i64 x)).setCell ⟨gv, u, none⟩ (.int .i64 y)) B go co (set2 (set2 m u v x) v u y) := by
  obtain ⟨gu, cu, c1, b1, b2, b3, b4, n1, f1, e1, s1, p1⟩ := h.row hsq hu
  obtain ⟨gv, cv, c2, _, _, b5, b6, n2, f2, e2, _, _⟩ := h.row hsq hv
  refine ⟨gu, cu, gv, cv, c1, c2, b1, b2, b3, b4, b5, b6, n1, n2, fun e => p1 v gv cv hv (Ne.symm huv) c2 e.symm, f1, f2, e1, e2, fun x y => ?_⟩
  have h2 := s1 v x
  obtain ⟨gw, cw, c3, _, _, _, _, _, _, _, s3, _⟩ := h2.row (hsq.set2 hu v x) (u := v) (by rw [set2_length]; exact hv)
  rw [set2_length] at c3
  have hsame : (w.setCell ⟨gu, v, none⟩ (.int .i64 x)).cell? ⟨go, v, none⟩ = w.cell? ⟨go, v, none⟩ := by
    refine World.cell?_of_block ?_
    simp only [World.setCell, Array.getElem?_modify]
    rw [if_neg (Ne.symm n1)]
  rw [hsame, c2] at c3
  cases c3
  exact s3 u y

theorem vMat_sq {m : List (List Int)} (h : vMat m) : sqM m := fun u hu => (h.2 u hu).1
theorem copied_e {p : Option Addr} {n cp : Nat} {m : List (List Int)} {w : World} (hM : Mat w p m) (hV : vMat m) (hn : m.length = n) (hpos : 0 < m.length) :
    Calls Try.prog 16 #[.slice p n cp] w fun e w' => Grew w w' ∧ ∃ go co, e = .returned (.slice (some ⟨go, 0, none⟩) m.length co) ∧ OMat w' w.heap.size go co m :=
  (copied_l p n cp m w hM hV hn).mono fun e w' h => ⟨h.1, (h.2.resolve_left (by omega)).2⟩

/-- A number at both cells of a pair shifts the best order's cost. -/
theorem best_two {m : List (List Int)} (hV : vMat m) {u v : Nat} (hu : u < m.length) (hv : v < m.length) (huv : u ≠ v) (d : Int) :
    bestF (set2 (set2 m u v (at2 m u v + d)) v u (at2 m v u + d)).length (at2 (set2 (set2 m u v (at2 m u v + d)) v u (at2 m v u + d))) (set2 (set2 m u v (at2 m u v + d)) v u (at2 m v u + d)).length [] =
      shiftO d (bestF m.length (at2 m) m.length []) := by
  rw [set2_length, set2_length]
  refine bestF_shift _ _ _ d _ [] (by rw [left_nil]; simp) fun r hr => ?_
  rw [left_nil] at hr
  simp only [List.nil_append]
  have hnd : r.Nodup := hr.nodup_iff.2 List.nodup_range
  have hmem : ∀ x, x < m.length → x ∈ r := fun x hx => hr.mem_iff.2 (List.mem_range.2 hx)
  have hsq := vMat_sq hV
  have e1 : costL (at2 (set2 (set2 m u v (at2 m u v + d)) v u (at2 m v u + d))) r = costL (fun x y => at2 m x y + dlt u v d x y) r := by
    refine costL_congr (hnd.imp fun {x y} _ => ?_)
    rw [at2_set2 _ _ (by rw [set2_length]; exact hv) (by rw [rowlen_set2 m v _ hu, hsq v hv]; exact hu), at2_set2 m _ hu (by rw [hsq u hu]; exact hv)]
    unfold dlt
    by_cases h1 : x = v ∧ y = u
    · rw [if_pos h1, if_pos (Or.inr h1), h1.1, h1.2]
    · rw [if_neg h1]
      by_cases h2 : x = u ∧ y = v
      · rw [if_pos h2, if_pos (Or.inl h2), h2.1, h2.2]
      · rw [if_neg h2, if_neg (by rintro (h | h); exact h2 h; exact h1 h)]
        omega
  rw [e1, costL_add, costL_dlt huv d hnd, if_pos ⟨hmem u hu, hmem v hv⟩]
theorem best_diag {m : List (List Int)} (hV : vMat m) {u : Nat} (hu : u < m.length) (d : Int) :
    bestF (set2 m u u d).length (at2 (set2 m u u d)) (set2 m u u d).length [] = shiftO 0 (bestF m.length (at2 m) m.length []) := by
  rw [set2_length]
  refine bestF_shift _ _ _ 0 _ [] (by rw [left_nil]; simp) fun r hr => ?_
  rw [left_nil] at hr
  simp only [List.nil_append]
  have hnd : r.Nodup := hr.nodup_iff.2 List.nodup_range
  have e1 : costL (at2 (set2 m u u d)) r = costL (at2 m) r := by
    refine costL_congr (hnd.imp fun {x y} hxy => ?_)
    rw [at2_set2 m _ hu (by rw [vMat_sq hV u hu]; exact hu), if_neg (fun h => hxy (h.1.trans h.2.symm))]
  rw [e1]
  omega

def wfM (m : List (List Int)) : Prop := ∀ u, u < m.length → ∀ v, v < m.length → -9223372036854775808 ≤ at2 m u v ∧ at2 m u v ≤ 9223372036854775807
theorem vMat_wf {m : List (List Int)} (h : vMat m) : wfM m := fun u hu v hv => by
  have := (h.2 u hu).2 v hv
  omega
theorem wfM.set2 {m : List (List Int)} (h : wfM m) (hs : sqM m) {u j : Nat} (hu : u < m.length) (hj : j < m.length) {x : Int} (hx : -9223372036854775808 ≤ x ∧ x ≤ 9223372036854775807) : wfM (set2 m u j x) := by
  intro a ha b hb
  rw [set2_length] at ha hb
  rw [at2_set2 m x hu (by rw [hs u hu]; exact hj)]
  split
  · exact hx
  · exact h a ha b hb
theorem best_bd {m : List (List Int)} (hV : vMat m) {o : List Nat} {c : Int} (h : bestF m.length (at2 m) m.length [] = some (o, c)) : 0 ≤ c ∧ c ≤ 64000000 :=
  sound_bd hV (k := m.length) (l := []) (fun x hx => by cases hx) (by rw [left_nil]; simp) (by simp) h

set_option maxHeartbeats 4000000 in
theorem shifts_l (p : Option Addr) (n cp : Nat) (m : List (List Int)) (a b : Nat) (d : Int) (w : World) (hM : Mat w p m) (hn : m.length = n) (ha : a ≤ 255) (hb : b ≤ 255) (hd0 : 0 ≤ d) (hd : d ≤ 65535) :
    Calls Try.prog 5 #[.slice p n cp, .agg #[.int .u8 a, .int .u8 b], .int .u16 d] w fun e w' => e = .returned (.bool true) ∧ Grew w w' := by
  subst hn
  have hmm := hM.1
  cases hv : vMatB m
  case false =>
    have Hv := Lib.hid hv
    clear hv
    go_enter Try.func5, Try.ntmps5
    go_wp2_with (first
      | (go_at_call 8; apply Calls.mono; (with_reducible exact validr_e Hv.out (hM.grew (by (repeat (first | exact Grew.refl _ | refine Grew.over ?_ _ | refine Grew.alloc ?_ _ | refine Grew.drew ?_ | refine Grew.drewN ?_ _)))) rfl); rintro e w' ⟨rfl, rfl⟩)
      | (go_at_call 9; apply Calls.mono; (with_reducible exact awake_l _); rintro e w' ⟨rfl, x, rfl⟩))
    go_ret
    exact ⟨rfl, by (repeat (first | exact Grew.refl _ | refine Grew.over ?_ _ | refine Grew.alloc ?_ _ | refine Grew.drew ?_ | refine Grew.drewN ?_ _))⟩
  case true =>
  have Hv := Lib.hid hv
  have HV := Lib.hid (vMatB_iff.1 hv)
  have h8 := HV.out.1
  clear hv
  by_cases h2 : m.length < 2
  · go_enter Try.func5, Try.ntmps5
    go_wp2_with (first
      | (go_at_call 8; apply Calls.mono; (with_reducible exact validr_e Hv.out (hM.grew (by (repeat (first | exact Grew.refl _ | refine Grew.over ?_ _ | refine Grew.alloc ?_ _ | refine Grew.drew ?_ | refine Grew.drewN ?_ _)))) rfl); rintro e w' ⟨rfl, rfl⟩)
      | (go_at_call 9; apply Calls.mono; (with_reducible exact awake_l _); rintro e w' ⟨rfl, x, rfl⟩))
    go_ret
    exact ⟨rfl, by (repeat (first | exact Grew.refl _ | refine Grew.over ?_ _ | refine Grew.alloc ?_ _ | refine Grew.drew ?_ | refine Grew.drewN ?_ _))⟩
  have hpos : 2 ≤ m.length := by omega
  clear h2
  obtain ⟨u, hu⟩ : ∃ u, u = a % m.length := ⟨_, rfl⟩
  obtain ⟨v, hv⟩ : ∃ v, v = b % m.length := ⟨_, rfl⟩
  have hul : u < m.length := hu ▸ Nat.mod_lt _ (by omega)
  have hvl : v < m.length := hv ▸ Nat.mod_lt _ (by omega)
  have hu' : ((a : Int) % (m.length : Int)) = (u : Int) := by rw [hu]; omega
  have hv' : ((b : Int) % (m.length : Int)) = (v : Int) := by rw [hv]; omega
  obtain ⟨o, c, hbest⟩ := best_all m
  have Hb := Lib.hid hbest
  clear hu hv hbest
  by_cases huv : u = v
  · subst huv
    have hbest2 := best_diag HV.out hul d
    rw [Hb.out] at hbest2
    simp only [shiftO, Option.map_some, Int.add_zero] at hbest2
    have Hbest2 := Lib.hid hbest2
    clear hbest2
    obtain ⟨bc1, bc2⟩ := best_bd HV.out Hb.out
    have Hlo := Lib.hid (intL_length o)
    have Hlen2 := Lib.hid (show (set2 m u u d).length = m.length by rw [set2_length])
    have Hsq2 := Lib.hid ((vMat_sq HV.out).set2 hul u d)
    have Hwf2 := Lib.hid ((vMat_wf HV.out).set2 (vMat_sq HV.out) hul hul (x := d) ⟨by omega, by omega⟩)
    cases hv2 : vMatB (set2 m u u d)
    case false =>
      have Hv2 := Lib.hid hv2
      clear hv2
      go_enter Try.func5, Try.ntmps5
      go_wp2_with (first
        | (go_at_call 8; apply Calls.mono; (with_reducible exact validr_e Hv.out (hM.grew (by (repeat (first | exact Grew.refl _ | refine Grew.over ?_ _ | refine Grew.alloc ?_ _ | refine Grew.drew ?_ | refine Grew.drewN ?_ _)))) rfl); rintro e w' ⟨rfl, rfl⟩)
        | (go_at_call 16; apply Calls.mono; (with_reducible exact copied_e (hM.grew (by (repeat (first | exact Grew.refl _ | refine Grew.over ?_ _ | refine Grew.alloc ?_ _ | refine Grew.drew ?_ | refine Grew.drewN ?_ _)))) HV.out rfl (by omega)); rintro e w1 ⟨hg1, go, co, rfl, hO⟩; obtain ⟨gu, cu, c1, b1, b2, b3, b4, n1, f1, e1, hset, _⟩ := hO.row (vMat_sq HV.out) hul; have k1 := e1 u hul; have f1' := f1 u; have Hg1 : Hid (Grew w w1) := Lib.hid (Grew.trans (by (repeat (first | exact Grew.refl _ | refine Grew.over ?_ _ | refine Grew.alloc ?_ _ | refine Grew.drew ?_ | refine Grew.drewN ?_ _))) hg1); have Hg2 := Lib.hid (Hg1.out.setCell (p := ⟨gu, u, none⟩) (by simp at b3 ⊢; omega) (.int .i64 d)); have Hm2 := Lib.hid ((hset u d).mat Hsq2.out (by rw [Hlen2.out]; omega) (by rw [Hlen2.out]; omega) Hwf2.out); clear hg1 hO b1 b3 f1 e1 hset)
        | (go_at_call 8; apply Calls.mono; (with_reducible exact validr_e Hv2.out Hm2.out Hlen2.out); rintro e w' ⟨rfl, rfl⟩)
        | (go_at_call 9; apply Calls.mono; (with_reducible exact awake_l _); rintro e w' ⟨rfl, x, rfl⟩))
      go_ret
      exact ⟨rfl, Hg2.out.trans (by (repeat (first | exact Grew.refl _ | refine Grew.over ?_ _ | refine Grew.alloc ?_ _ | refine Grew.drew ?_ | refine Grew.drewN ?_ _)))⟩
    case true =>
      have Hv2 := Lib.hid hv2
      clear hv2
      go_enter Try.func5, Try.ntmps5
      go_wp2_with (first
        | (go_at_call 8; apply Calls.mono; (with_reducible exact validr_e Hv.out (hM.grew (by (repeat (first | exact Grew.refl _ | refine Grew.over ?_ _ | refine Grew.alloc ?_ _ | refine Grew.drew ?_ | refine Grew.drewN ?_ _)))) rfl); rintro e w' ⟨rfl, rfl⟩)
        | (go_at_call 16; apply Calls.mono; (with_reducible exact copied_e (hM.grew (by (repeat (first | exact Grew.refl _ | refine Grew.over ?_ _ | refine Grew.alloc ?_ _ | refine Grew.drew ?_ | refine Grew.drewN ?_ _)))) HV.out rfl (by omega)); rintro e w1 ⟨hg1, go, co, rfl, hO⟩; obtain ⟨gu, cu, c1, b1, b2, b3, b4, n1, f1, e1, hset, _⟩ := hO.row (vMat_sq HV.out) hul; have k1 := e1 u hul; have f1' := f1 u; have Hg1 : Hid (Grew w w1) := Lib.hid (Grew.trans (by (repeat (first | exact Grew.refl _ | refine Grew.over ?_ _ | refine Grew.alloc ?_ _ | refine Grew.drew ?_ | refine Grew.drewN ?_ _))) hg1); have Hg2 := Lib.hid (Hg1.out.setCell (p := ⟨gu, u, none⟩) (by simp at b3 ⊢; omega) (.int .i64 d)); have Hm2 := Lib.hid ((hset u d).mat Hsq2.out (by rw [Hlen2.out]; omega) (by rw [Hlen2.out]; omega) Hwf2.out); clear hg1 hO b1 b3 f1 e1 hset)
        | (go_at_call 8; apply Calls.mono; (with_reducible exact validr_e Hv2.out Hm2.out Hlen2.out); rintro e w' ⟨rfl, rfl⟩)
        | (go_at_call 10; apply Calls.mono; (with_reducible exact least_ok (hM.grew Hg2.out) rfl Hv.out Hb.out); rintro e w' ⟨⟨x, rfl⟩, q1, cap1, rfl, hI1, hcap1, hnil1⟩)
        | (go_at_call 10; apply Calls.mono; (with_reducible exact least_ok (Hm2.out.grew (by (repeat (first | exact Grew.refl _ | refine Grew.over ?_ _ | refine Grew.alloc ?_ _ | refine Grew.drew ?_ | refine Grew.drewN ?_ _)))) Hlen2.out Hv2.out Hbest2.out); rintro e w' ⟨⟨x2, rfl⟩, q2, cap2, rfl, hI2, hcap2, hnil2⟩)
        | (go_at_call 12; apply Calls.mono; (with_reducible exact same_e rfl (hI1.grew (by (repeat (first | exact Grew.refl _ | refine Grew.over ?_ _ | refine Grew.alloc ?_ _ | refine Grew.drew ?_ | refine Grew.drewN ?_ _)))) (hI2.grew (by (repeat (first | exact Grew.refl _ | refine Grew.over ?_ _ | refine Grew.alloc ?_ _ | refine Grew.drew ?_ | refine Grew.drewN ?_ _)))) Hlo.out Hlo.out); rintro e w' ⟨rfl, x, rfl⟩)
        | (go_at_call 9; apply Calls.mono; (with_reducible exact awake_l _); rintro e w' ⟨rfl, x, rfl⟩))
      go_ret
      exact ⟨rfl, Hg2.out.trans (by (repeat (first | exact Grew.refl _ | refine Grew.over ?_ _ | refine Grew.alloc ?_ _ | refine Grew.drew ?_ | refine Grew.drewN ?_ _)))⟩
  · have Huv := Lib.hid huv
    have hq1 : ((u : Int) == (v : Int)) = false := by rw [beq_eq_false_iff_ne]; omega
    clear huv
    have hbest2 := best_two HV.out hul hvl Huv.out d
    rw [Hb.out] at hbest2
    simp only [shiftO, Option.map_some] at hbest2
    have Hbest2 := Lib.hid hbest2
    clear hbest2
    obtain ⟨bu1, bu2⟩ := (HV.out.2 u hul).2 v hvl
    obtain ⟨bv1, bv2⟩ := (HV.out.2 v hvl).2 u hul
    obtain ⟨bc1, bc2⟩ := best_bd HV.out Hb.out
    have Hlo := Lib.hid (intL_length o)
    have Hlen2 := Lib.hid (show (set2 (set2 m u v (at2 m u v + d)) v u (at2 m v u + d)).length = m.length by rw [set2_length, set2_length])
    have hsq1 := (vMat_sq HV.out).set2 hul v (at2 m u v + d)
    have Hsq2 := Lib.hid (hsq1.set2 (by rw [set2_length]; exact hvl) u (at2 m v u + d))
    have hwf1 := (vMat_wf HV.out).set2 (vMat_sq HV.out) hul hvl (x := at2 m u v + d) ⟨by omega, by omega⟩
    have Hwf2 := Lib.hid (hwf1.set2 hsq1 (u := v) (j := u) (by rw [set2_length]; exact hvl) (by rw [set2_length]; exact hul) (x := at2 m v u + d) ⟨by omega, by omega⟩)
    clear hsq1 hwf1
    cases hv2 : vMatB (set2 (set2 m u v (at2 m u v + d)) v u (at2 m v u + d))
    case false =>
      have Hv2 := Lib.hid hv2
      clear hv2
      go_enter Try.func5, Try.ntmps5
      go_wp2_with (first
        | (go_at_call 8; apply Calls.mono; (with_reducible exact validr_e Hv.out (hM.grew (by (repeat (first | exact Grew.refl _ | refine Grew.over ?_ _ | refine Grew.alloc ?_ _ | refine Grew.drew ?_ | refine Grew.drewN ?_ _)))) rfl); rintro e w' ⟨rfl, rfl⟩)
        | (go_at_call 16; apply Calls.mono; (with_reducible exact copied_e (hM.grew (by (repeat (first | exact Grew.refl _ | refine Grew.over ?_ _ | refine Grew.alloc ?_ _ | refine Grew.drew ?_ | refine Grew.drewN ?_ _)))) HV.out rfl (by omega)); rintro e w1 ⟨hg1, go, co, rfl, hO⟩; obtain ⟨gu, cu, gv, cv, c1, c2, b1, b2, b3, b4, b5, b6, n1, n2, n3, f1, f2, e1, e2, hset⟩ := hO.two (vMat_sq HV.out) hul hvl Huv.out; have k1 := e1 v hvl; have k2 := e2 u hul; have f1' := f1 v; have f2' := f2 u; have Hg1 : Hid (Grew w w1) := Lib.hid (Grew.trans (by (repeat (first | exact Grew.refl _ | refine Grew.over ?_ _ | refine Grew.alloc ?_ _ | refine Grew.drew ?_ | refine Grew.drewN ?_ _))) hg1); have Hg2 := Lib.hid ((Hg1.out.setCell (p := ⟨gu, v, none⟩) (by simp at b3 ⊢; omega) (.int .i64 (at2 m u v + d))).setCell (p := ⟨gv, u, none⟩) (by simp at b5 ⊢; omega) (.int .i64 (at2 m v u + d))); have Hm2 := Lib.hid ((hset (at2 m u v + d) (at2 m v u + d)).mat Hsq2.out (by rw [Hlen2.out]; omega) (by rw [Hlen2.out]; omega) Hwf2.out); clear hg1 hO b1 b3 b5 f1 f2 e1 e2 hset)
        | (go_at_call 8; apply Calls.mono; (with_reducible exact validr_e Hv2.out Hm2.out Hlen2.out); rintro e w' ⟨rfl, rfl⟩)
        | (go_at_call 9; apply Calls.mono; (with_reducible exact awake_l _); rintro e w' ⟨rfl, x, rfl⟩))
      go_ret
      exact ⟨rfl, Hg2.out.trans (by (repeat (first | exact Grew.refl _ | refine Grew.over ?_ _ | refine Grew.alloc ?_ _ | refine Grew.drew ?_ | refine Grew.drewN ?_ _)))⟩
    case true =>
      have Hv2 := Lib.hid hv2
      clear hv2
      go_enter Try.func5, Try.ntmps5
      go_wp2_with (first
        | (go_at_call 8; apply Calls.mono; (with_reducible exact validr_e Hv.out (hM.grew (by (repeat (first | exact Grew.refl _ | refine Grew.over ?_ _ | refine Grew.alloc ?_ _ | refine Grew.drew ?_ | refine Grew.drewN ?_ _)))) rfl); rintro e w' ⟨rfl, rfl⟩)
        | (go_at_call 16; apply Calls.mono; (with_reducible exact copied_e (hM.grew (by (repeat (first | exact Grew.refl _ | refine Grew.over ?_ _ | refine Grew.alloc ?_ _ | refine Grew.drew ?_ | refine Grew.drewN ?_ _)))) HV.out rfl (by omega)); rintro e w1 ⟨hg1, go, co, rfl, hO⟩; obtain ⟨gu, cu, gv, cv, c1, c2, b1, b2, b3, b4, b5, b6, n1, n2, n3, f1, f2, e1, e2, hset⟩ := hO.two (vMat_sq HV.out) hul hvl Huv.out; have k1 := e1 v hvl; have k2 := e2 u hul; have f1' := f1 v; have f2' := f2 u; have Hg1 : Hid (Grew w w1) := Lib.hid (Grew.trans (by (repeat (first | exact Grew.refl _ | refine Grew.over ?_ _ | refine Grew.alloc ?_ _ | refine Grew.drew ?_ | refine Grew.drewN ?_ _))) hg1); have Hg2 := Lib.hid ((Hg1.out.setCell (p := ⟨gu, v, none⟩) (by simp at b3 ⊢; omega) (.int .i64 (at2 m u v + d))).setCell (p := ⟨gv, u, none⟩) (by simp at b5 ⊢; omega) (.int .i64 (at2 m v u + d))); have Hm2 := Lib.hid ((hset (at2 m u v + d) (at2 m v u + d)).mat Hsq2.out (by rw [Hlen2.out]; omega) (by rw [Hlen2.out]; omega) Hwf2.out); clear hg1 hO b1 b3 b5 f1 f2 e1 e2 hset)
        | (go_at_call 8; apply Calls.mono; (with_reducible exact validr_e Hv2.out Hm2.out Hlen2.out); rintro e w' ⟨rfl, rfl⟩)
        | (go_at_call 10; apply Calls.mono; (with_reducible exact least_ok (hM.grew Hg2.out) rfl Hv.out Hb.out); rintro e w' ⟨⟨x, rfl⟩, q1, cap1, rfl, hI1, hcap1, hnil1⟩)
        | (go_at_call 10; apply Calls.mono; (with_reducible exact least_ok (Hm2.out.grew (by (repeat (first | exact Grew.refl _ | refine Grew.over ?_ _ | refine Grew.alloc ?_ _ | refine Grew.drew ?_ | refine Grew.drewN ?_ _)))) Hlen2.out Hv2.out Hbest2.out); rintro e w' ⟨⟨x2, rfl⟩, q2, cap2, rfl, hI2, hcap2, hnil2⟩)
        | (go_at_call 12; apply Calls.mono; (with_reducible exact same_e rfl (hI1.grew (by (repeat (first | exact Grew.refl _ | refine Grew.over ?_ _ | refine Grew.alloc ?_ _ | refine Grew.drew ?_ | refine Grew.drewN ?_ _)))) (hI2.grew (by (repeat (first | exact Grew.refl _ | refine Grew.over ?_ _ | refine Grew.alloc ?_ _ | refine Grew.drew ?_ | refine Grew.drewN ?_ _)))) Hlo.out Hlo.out); rintro e w' ⟨rfl, x, rfl⟩)
        | (go_at_call 9; apply Calls.mono; (with_reducible exact awake_l _); rintro e w' ⟨rfl, x, rfl⟩))
      go_ret
      exact ⟨rfl, Hg2.out.trans (by (repeat (first | exact Grew.refl _ | refine Grew.over ?_ _ | refine Grew.alloc ?_ _ | refine Grew.drew ?_ | refine Grew.drewN ?_ _)))⟩

end Go.Proofs.Ytnodgagmnekliaa
