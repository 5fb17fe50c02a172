/- The peeling of the program: rest and free. -/
import Derived.Test.YtdacnkjmimhcaaaDoorCanG
set_option linter.unusedSimpArgs false
set_option linter.unusedVariables false
namespace Go.Proofs.YtdacnkjmimhcaaaDoor
open Go.RowKit
attribute [local go_sem ↓] Go.wp_at_zero Go.wp_at_succ

/-- The peeling in memory: block g, the states in block gs, the contour elsewhere. -/
structure Peel (w : World) (g gs : Nat) (N : Int) (pE pA : Option Addr) (nE nA cE cA : Nat) (st : List Int) (pC : Option Addr) (cC : Nat) (C : List Int) : Prop where
  c0 : w.cell? ⟨g, 0, none⟩ = some (.int .i64 N)
  c1 : w.cell? ⟨g, 1, none⟩ = some (.slice pE nE cE)
  c2 : w.cell? ⟨g, 2, none⟩ = some (.slice pA nA cA)
  c3 : w.cell? ⟨g, 3, none⟩ = some (.slice (some ⟨gs, 0, none⟩) st.length st.length)
  c4 : w.cell? ⟨g, 4, none⟩ = some (.slice pC C.length cC)
  f4 : w.frozen? ⟨g, 4, none⟩ = false
  hst : ∀ i, i < st.length → w.cell? ⟨gs, i, none⟩ = some (.int .i64 (ge st i)) ∧ w.frozen? ⟨gs, i, none⟩ = false
  hb : gs < w.heap.size
  hC : Ints w pC C
  cC1 : C.length ≤ cC
  cC2 : cC ≤ maxLen
  ne : gs ≠ g
  nC : ∀ a, pC = some a → a.block ≠ g ∧ a.block ≠ gs
theorem Peel.grew {w w' : World} {g gs : Nat} {N : Int} {pE pA : Option Addr} {nE nA cE cA : Nat} {st : List Int} {pC : Option Addr} {cC : Nat} {C : List Int} (h : Peel w g gs N pE pA nE nA cE cA st pC cC C) (hg : Grew w w') : Peel w' g gs N pE pA nE nA cE cA st pC cC C :=
  ⟨hg.cellEq h.c0, hg.cellEq h.c1, hg.cellEq h.c2, hg.cellEq h.c3, hg.cellEq h.c4, hg.frozenEq (World.block_lt_of_cell? w _ h.c4) h.f4, fun i hi => ⟨hg.cellEq (h.hst i hi).1, hg.frozenEq h.hb (h.hst i hi).2⟩, Nat.lt_of_lt_of_le h.hb hg.below.size, h.hC.grew hg, h.cC1, h.cC2, h.ne, h.nC⟩

/-- The neighbours that are left; how many of them are on the contour. -/
def restL (st L : List Int) : List Int := L.filter fun u => (ge st u.toNat == 0) || (ge st u.toNat == 1)
def restN (st L : List Int) : Nat := L.countP fun u => (ge st u.toNat == 1)
theorem restL_take (st : List Int) {L : List Int} {k : Nat} (h : k < L.length) : restL st (L.take (k + 1)) = restL st (L.take k) ++ if ((ge st (ge L k).toNat == 0) || (ge st (ge L k).toNat == 1)) = true then [ge L k] else [] := by
  unfold restL
  rw [List.take_succ_eq_append_getElem h, List.filter_append, ← ge_eq L h]
  congr 1
  rw [List.filter_cons, List.filter_nil]
def RestPost (l : List Int) (n : Nat) (w : World) (e : Ending) (w' : World) : Prop :=
  Grew w w' ∧ ∃ q cap, e = .returned (.tuple #[.slice q l.length cap, .int .i64 (n : Int)]) ∧ Ints w' q l ∧ l.length ≤ cap ∧ cap ≤ maxLen

set_option maxRecDepth 8000 in
set_option maxHeartbeats 8000000 in
theorem rest_p (g gs : Nat) (N : Int) (pE pA : Option Addr) (nE nA cE cA : Nat) (E : List (Int × Int)) (A : List (List Int)) (st : List Int) (pC : Option Addr) (cC : Nat) (C : List Int) (v : Nat) (w : World) (hP : Peel w g gs N pE pA nE nA cE cA st pC cC C)
    (hR : RotAt w pE pA E A) (hL : Lim w) (hV : vRot N E A) (hv : v < A.length) (hst : st.length = A.length) (hnE : E.length = nE) (hnA : A.length = nA) :
    Calls Tryd.prog 41 #[.pointer (some ⟨g, 0, none⟩), .int .i64 v] w (RestPost (restL st (nearL E (rowOf A v))) (restN st (nearL E (rowOf A v))) w) := by
  subst hnE hnA
  have ha1 := hR.a1
  have hrl := hR.r1 v hv
  have HP := Lib.hid hP
  have HR := Lib.hid hR
  have HL := Lib.hid hL
  have HV := Lib.hid hV
  have Hbd := Lib.hid (nearL_bound hV hv)
  have hN : N = A.length := hV.al.symm
  subst hN
  obtain ⟨L, hLe⟩ : ∃ L, nearL E (rowOf A v) = L := ⟨_, rfl⟩
  have hLl : L.length ≤ 100 := by rw [← hLe, nearL_length]; exact hrl
  have HLe := Lib.hid hLe
  rw [hLe] at Hbd ⊢
  have c0 := hP.c0
  have c1 := hP.c1
  have c2 := hP.c2
  have c3 := hP.c3
  rw [hst] at c3
  have Hst := Lib.hid hst
  clear hP hR hL hV hLe hrl hst
  go_enter Tryd.func41, Tryd.ntmps41
  go_wp2_with (go_at_call 53; apply Calls.mono; (with_reducible exact near_p _ _ _ _ _ _ _ _ _ _ _ (HR.out.grew (by (repeat (first | exact Grew.refl _ | refine Grew.over ?_ _ | refine Grew.alloc ?_ _ | refine Grew.drew ?_ | refine Grew.drewN ?_ _)))) (HL.out.grew (by (repeat (first | exact Grew.refl _ | refine Grew.over ?_ _ | refine Grew.alloc ?_ _ | refine Grew.drew ?_ | refine Grew.drewN ?_ _)))) HV.out hv rfl rfl); rintro e wn ⟨hg1, pL, cL, rfl, hI1, _, _, _⟩; rw [HLe.out] at hI1; rw [HLe.out]; have HI1 := Lib.hid hI1; have Hg1 := Lib.hid (Grew.trans (a := w) (by (repeat (first | exact Grew.refl _ | refine Grew.over ?_ _ | refine Grew.alloc ?_ _ | refine Grew.drew ?_ | refine Grew.drewN ?_ _))) hg1); clear hI1 hg1)
  have hsz1 := Hg1.out.below.size
  go_loopw [6, 7, 17] (fun vl vn iv wr => ∃ k : Nat, k ≤ L.length ∧ iv = .int .i64 k ∧ vn = .int .i64 ((restN st (L.take k) : Nat) : Int) ∧ Grew wn wr ∧ Owns wr wn.heap.size [⟨vl, 3, 1, (restL st (L.take k)).length, intVs (restL st (L.take k))⟩]) (fun _ _ iv _ => L.length - (intOf iv).toNat)
  case atStart => exact ⟨0, Nat.zero_le _, rfl, rfl, Grew.refl _, (Owns.nil _ _).none _ _⟩
  case round =>
    obtain ⟨k, hk, rfl, rfl, hgn, hO⟩ := hrel
    have hnl : restN st (L.take k) ≤ k := Nat.le_trans List.countP_le_length (by rw [List.length_take]; omega)
    have hll : (restL st (L.take k)).length ≤ k := Nat.le_trans (List.length_filter_le _ _) (by rw [List.length_take]; omega)
    have hszr := hgn.below.size
    have Hgw : Hid (Grew w wr) := Lib.hid (Hg1.out.trans hgn)
    have q3 := Hgw.out.cellEq c3
    obtain ⟨n, hn⟩ : ∃ n, restN st (L.take k) = n := ⟨_, rfl⟩
    obtain ⟨l, hl⟩ : ∃ l, restL st (L.take k) = l := ⟨_, rfl⟩
    rw [hn] at hnl ⊢
    rw [hl] at hll hO
    have Hn := Lib.hid hn
    have Hl := Lib.hid hl
    have HO := Lib.hid hO
    have Hgn := Lib.hid hgn
    clear hn hl hgn hO
    by_cases hlk : k < L.length
    · obtain ⟨bL, oL, rfl, lL, cL'⟩ := HI1.out.cells (by omega)
      have e1 := cL' wr Hgn.out k hlk
      have hx := Hbd.out _ (ge_mem hlk)
      obtain ⟨x, hxe⟩ : ∃ x : Nat, ge L k = (x : Int) := ⟨(ge L k).toNat, by omega⟩
      have hxl : x < A.length := by omega
      have hxi : (x : Int) < (A.length : Int) := by omega
      have s1 := Hgw.out.cellEq (HP.out.hst x (by rw [Hst.out]; exact hxl)).1
      obtain ⟨s, hs⟩ : ∃ s, ge st x = s := ⟨_, rfl⟩
      have HLn := Lib.hid (restL_take st hlk)
      have HNn := Lib.hid (countP_take (p := fun u => (ge st u.toNat == 1)) hlk)
      rw [hxe] at e1 HLn HNn
      simp only [Int.toNat_natCast] at HLn HNn
      rw [hs] at s1
      simp only [hs] at HLn HNn
      rw [Hl.out] at HLn
      replace HNn : Hid (restN st (L.take (k + 1)) = n + if (s == 1) = true then 1 else 0) := Lib.hid (by have h := HNn.out; rw [← Hn.out]; exact h)
      clear cL' hx hxe hs
      by_cases hs1 : s = 1
      · subst hs1
        replace HLn : Hid (restL st (L.take (k + 1)) = l ++ [(x : Int)]) := Lib.hid (by rw [HLn.out]; simp)
        replace HNn : Hid (restN st (L.take (k + 1)) = n + 1) := Lib.hid (by rw [HNn.out]; simp)
        go_wp2_with (at_builtin; refine wp_append_owns rfl _ _ 26 rfl 3 1 8 (.int .i64 0) Tryd.underlying26 Tryd.infoInt rfl (by decide) (wn.heap.size) _ 0 _ _ _ (HO.out.grew (by (repeat (first | exact Grew.refl _ | refine Grew.over ?_ _ | refine Grew.alloc ?_ _ | refine Grew.drew ?_ | refine Grew.drewN ?_ _)))) rfl rfl _ 1 1 rfl [.int .i64 ((x : Int))] rfl (fun h => by cases h) (one_news _ (by first | (go_simp; done) | (simp [go_sem, ↓IntWalk.iteOmega, *]; done))) (by simp [Value.oneCell']) (by simp only [maxLen]; omega) (by omega) (by first | rfl | omega | (simp <;> omega)) ?_; intro v1 w1 hO1 hg1 hb1 hv1; have Hg3 := Lib.hid (Grew.grownBy (w0 := wn) (Hgn.out.trans (by (repeat (first | exact Grew.refl _ | refine Grew.over ?_ _ | refine Grew.alloc ?_ _ | refine Grew.drew ?_ | refine Grew.drewN ?_ _)))) hg1 (fun g h => by have := hb1 g h; omega)); have HO3 := Lib.hid hO1; clear hO1 hg1 hb1 hv1)
        go_roundw
        case rel => exact ⟨k + 1, by omega, by go_num, by rw [HNn.out]; go_num, Hg3.out.trans (by (repeat (first | exact Grew.refl _ | refine Grew.over ?_ _ | refine Grew.alloc ?_ _ | refine Grew.drew ?_ | refine Grew.drewN ?_ _))), (by rw [HLn.out, intVs_app', List.length_append]; exact HO3.out.grew (by (repeat (first | exact Grew.refl _ | refine Grew.over ?_ _ | refine Grew.alloc ?_ _ | refine Grew.drew ?_ | refine Grew.drewN ?_ _))))⟩
        case measure => simp [intOf]; omega
      by_cases hs0 : s = 0
      · subst hs0
        replace HLn : Hid (restL st (L.take (k + 1)) = l ++ [(x : Int)]) := Lib.hid (by rw [HLn.out]; simp)
        replace HNn : Hid (restN st (L.take (k + 1)) = n) := Lib.hid (by rw [HNn.out]; simp)
        go_wp2_with (at_builtin; refine wp_append_owns rfl _ _ 26 rfl 3 1 8 (.int .i64 0) Tryd.underlying26 Tryd.infoInt rfl (by decide) (wn.heap.size) _ 0 _ _ _ (HO.out.grew (by (repeat (first | exact Grew.refl _ | refine Grew.over ?_ _ | refine Grew.alloc ?_ _ | refine Grew.drew ?_ | refine Grew.drewN ?_ _)))) rfl rfl _ 1 1 rfl [.int .i64 ((x : Int))] rfl (fun h => by cases h) (one_news _ (by first | (go_simp; done) | (simp [go_sem, ↓IntWalk.iteOmega, *]; done))) (by simp [Value.oneCell']) (by simp only [maxLen]; omega) (by omega) (by first | rfl | omega | (simp <;> omega)) ?_; intro v1 w1 hO1 hg1 hb1 hv1; have Hg3 := Lib.hid (Grew.grownBy (w0 := wn) (Hgn.out.trans (by (repeat (first | exact Grew.refl _ | refine Grew.over ?_ _ | refine Grew.alloc ?_ _ | refine Grew.drew ?_ | refine Grew.drewN ?_ _)))) hg1 (fun g h => by have := hb1 g h; omega)); have HO3 := Lib.hid hO1; clear hO1 hg1 hb1 hv1)
        go_roundw
        case rel => exact ⟨k + 1, by omega, by go_num, by rw [HNn.out], Hg3.out.trans (by (repeat (first | exact Grew.refl _ | refine Grew.over ?_ _ | refine Grew.alloc ?_ _ | refine Grew.drew ?_ | refine Grew.drewN ?_ _))), (by rw [HLn.out, intVs_app', List.length_append]; exact HO3.out.grew (by (repeat (first | exact Grew.refl _ | refine Grew.over ?_ _ | refine Grew.alloc ?_ _ | refine Grew.drew ?_ | refine Grew.drewN ?_ _))))⟩
        case measure => simp [intOf]; omega
      · replace HLn : Hid (restL st (L.take (k + 1)) = l) := Lib.hid (by rw [HLn.out]; simp [hs0, hs1])
        replace HNn : Hid (restN st (L.take (k + 1)) = n) := Lib.hid (by rw [HNn.out]; simp [hs1])
        have hb1 : (s == 1) = false := beq_eq_false_iff_ne.2 hs1
        have hb0 : (s == 0) = false := beq_eq_false_iff_ne.2 hs0
        go_wp2
        go_roundw
        case rel => exact ⟨k + 1, by omega, by go_num, by rw [HNn.out], Hgn.out.trans (by (repeat (first | exact Grew.refl _ | refine Grew.over ?_ _ | refine Grew.alloc ?_ _ | refine Grew.drew ?_ | refine Grew.drewN ?_ _))), (by rw [HLn.out]; exact HO.out.grew (by (repeat (first | exact Grew.refl _ | refine Grew.over ?_ _ | refine Grew.alloc ?_ _ | refine Grew.drew ?_ | refine Grew.drewN ?_ _))))⟩
        case measure => simp [intOf]; omega
    · have hke : k = L.length := by omega
      subst hke
      rw [List.take_length] at Hn Hl
      have hbd : ∀ x ∈ l, -9223372036854775808 ≤ x ∧ x ≤ 9223372036854775807 := fun x hx => by
        rw [← Hl.out] at hx
        have := Hbd.out x (List.mem_filter.1 hx).1
        omega
      obtain ⟨p1, cp1, rfl, k1, k2, k3, _, hI⟩ := own_ints HO.out (k := 0) rfl hbd
      have HI := Lib.hid hI
      clear hI hbd
      go_wp2
      go_ret2
      rw [Hn.out, Hl.out]
      exact ⟨Hgw.out.trans (by (repeat (first | exact Grew.refl _ | refine Grew.over ?_ _ | refine Grew.alloc ?_ _ | refine Grew.drew ?_ | refine Grew.drewN ?_ _))), p1, cp1, rfl, HI.out _ (by (repeat (first | exact Grew.refl _ | refine Grew.over ?_ _ | refine Grew.alloc ?_ _ | refine Grew.drew ?_ | refine Grew.drewN ?_ _))), k2, k3⟩

set_option maxHeartbeats 4000000 in
theorem free_p (g gs : Nat) (N : Int) (pE pA : Option Addr) (nE nA cE cA : Nat) (E : List (Int × Int)) (A : List (List Int)) (st : List Int) (pC : Option Addr) (cC : Nat) (C : List Int) (i : Nat) (w : World) (hP : Peel w g gs N pE pA nE nA cE cA st pC cC C)
    (hR : RotAt w pE pA E A) (hL : Lim w) (hV : vRot N E A) (hi : i < C.length) (hC : ∀ u ∈ C, 0 ≤ u ∧ u < (A.length : Int)) (hC1 : C.length ≤ 100) (hst : st.length = A.length) (hnE : E.length = nE) (hnA : A.length = nA) :
    Calls Tryd.prog 27 #[.pointer (some ⟨g, 0, none⟩), .int .i64 i] w fun e w' => e = .returned (.bool (restN st (nearL E (rowOf A (ge C i).toNat)) == 2)) ∧ Grew w w' := by
  have HP := Lib.hid hP
  have c4 := hP.c4
  have hn0 := hP.ne
  obtain ⟨bC, oC, rfl, lC, cC'⟩ := hP.hC.cells (by omega)
  have e1 := cC' w (Grew.refl _) i hi
  have hv := hC _ (ge_mem hi)
  obtain ⟨v, hve⟩ : ∃ v : Nat, ge C i = (v : Int) := ⟨(ge C i).toNat, by omega⟩
  rw [hve] at e1 hv ⊢
  have hii : (i : Int) < (C.length : Int) := by omega
  rw [Int.toNat_natCast]
  have Hr := Lib.hid (fun (W1 : World) (h : Grew w W1) => rest_p g gs N pE pA nE nA cE cA E A st (some ⟨bC, oC, none⟩) cC C v W1 (HP.out.grew h) (hR.grew h) (hL.grew h) hV (by omega) hst hnE hnA)
  have hnl : restN st (nearL E (rowOf A v)) ≤ 100 := Nat.le_trans List.countP_le_length (by rw [nearL_length]; exact hR.r1 v (by omega))
  obtain ⟨n, hn⟩ : ∃ n, restN st (nearL E (rowOf A v)) = n := ⟨_, rfl⟩
  rw [hn] at Hr hnl ⊢
  have Hf : Hid ((((n : Int)) == 2) = (n == 2)) := Lib.hid (by rw [Bool.eq_iff_iff, beq_iff_eq, beq_iff_eq]; omega)
  clear cC' hve hn hP hR hL hV hC hst hnE hnA
  go_enter Tryd.func27, Tryd.ntmps27
  go_wp2_with (go_at_call 41; apply Calls.mono; (with_reducible exact Hr.out _ (by (repeat (first | exact Grew.refl _ | refine Grew.over ?_ _ | refine Grew.alloc ?_ _ | refine Grew.drew ?_ | refine Grew.drewN ?_ _)))); rintro e w4 ⟨hg4, q4, cap4, rfl, _⟩; obtain ⟨x4, rfl⟩ := hg4)
  go_ret
  exact ⟨by rw [← Hf.out]; rfl, by (repeat (first | exact Grew.refl _ | refine Grew.over ?_ _ | refine Grew.alloc ?_ _ | refine Grew.drew ?_ | refine Grew.drewN ?_ _))⟩

end Go.Proofs.YtdacnkjmimhcaaaDoor
