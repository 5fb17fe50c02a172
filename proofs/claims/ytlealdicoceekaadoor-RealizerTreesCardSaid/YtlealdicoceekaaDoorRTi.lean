/- Joined by a program from the texts OrdD RefL RefM Awk TreL. -/
import Derived.Test.YtlealdicoceekaaDoorRTh
/- Order of the reference. -/
set_option linter.unusedSimpArgs false
set_option linter.unusedVariables false
namespace Go.Proofs.YtlealdicoceekaaDoor
open Go.RowKit
attribute [local go_sem ↓] Go.wp_at_zero Go.wp_at_succ

theorem Ints.three {w : World} {b : Nat} {x y z : Int} (h0 : w.cell? ⟨b, 0, none⟩ = some (.int .i64 x)) (h1 : w.cell? ⟨b, 1, none⟩ = some (.int .i64 y)) (h2 : w.cell? ⟨b, 2, none⟩ = some (.int .i64 z)) (hb : ∀ u ∈ [x, y, z], -9223372036854775808 ≤ u ∧ u ≤ 9223372036854775807) : Ints w (some ⟨b, 0, none⟩) [x, y, z] := by
  refine ⟨by simp, hb, b, 0, fun _ => ⟨rfl, World.block_lt_of_cell? w _ h0⟩, fun i hi => ?_⟩
  match i, hi with
  | 0, _ => simpa [ge] using h0
  | 1, _ => simpa [ge] using h1
  | 2, _ => simpa [ge] using h2
section
variable {N : Int} {E : List (Int × Int)} {A : List (List Int)}
/-- The first vertex without a chord. -/
theorem ord_pick (hT : trgB N E A = true) {ord D : List Int} (hP : Pee E A (fun x => x ∈ ord) D) (hm : 3 ≤ D.length) : ∃ t, 0 < t ∧ t + 2 ≤ D.length ∧ (∀ j, 0 < j → j < t → chdK E (D.map (tailE E)) j D.length = true) ∧ chdK E (D.map (tailE E)) t D.length = false := by
  have key : ∀ n, n + 2 ≤ D.length → (∃ t, 0 < t ∧ t ≤ n ∧ (∀ j, 0 < j → j < t → chdK E (D.map (tailE E)) j D.length = true) ∧ chdK E (D.map (tailE E)) t D.length = false) ∨ ∀ j, 0 < j → j ≤ n → chdK E (D.map (tailE E)) j D.length = true := by
    intro n
    induction n with
    | zero => exact fun _ => Or.inr fun j a b => by omega
    | succ n ih =>
      intro hn
      rcases ih (by omega) with ⟨t, a, b, c, d⟩ | h
      · exact Or.inl ⟨t, a, by omega, c, d⟩
      · cases hc : chdK E (D.map (tailE E)) (n + 1) D.length
        · exact Or.inl ⟨n + 1, by omega, Nat.le_refl _, fun j a b => h j a (by omega), hc⟩
        · refine Or.inr fun j a b => ?_
          by_cases e : j = n + 1
          · rw [e]; exact hc
          · exact h j a (by omega)
  rcases key (D.length - 2) (by omega) with ⟨t, a, b, c, d⟩ | h
  · exact ⟨t, a, by omega, c, d⟩
  · have := ord_free hT hP hm fun t a b => h t a (by omega)
    rw [h (D.length - 2) (by omega) (Nat.le_refl _)] at this
    cases this
end
/-- What Order of the reference returns. -/
def OrdPost (E : List (Int × Int)) (A : List (List Int)) (w : World) (e : Ending) (w' : World) : Prop :=
  Grew w w' ∧ ∃ R : List Int, Peels E A [] [oth (nxF A (nxF A 0)), oth (nxF A 0), 1] R ∧ ∃ q cap, e = .returned (.tuple #[.slice q (R.length + 2) cap, .int .i64 0]) ∧ Ints w' q (tailE E 0 :: tailE E 1 :: R.reverse) ∧ R.length + 2 ≤ cap ∧ cap ≤ maxLen
set_option maxRecDepth 8000 in
set_option maxHeartbeats 32000000 in
theorem order_l (N : Int) (pE pA : Option Addr) (nE nA cE cA : Nat) (E : List (Int × Int)) (A : List (List Int)) (w : World) (hR : RotAt w pE pA E A) (hRI : RotIn w pE pA cE E A) (hT : trgB N E A = true) (hnE : E.length = nE) (hnA : A.length = nA) :
    Calls Tryd.prog 22 #[.agg #[.int .i64 N, .slice pE nE cE, .slice pA nA cA]] w (OrdPost E A w) := by
  have hV := trg_valid hT
  have hal := hV.al
  have hN3 := trg_three hT
  obtain rfl : N = (nA : Int) := by omega
  have HR := Lib.hid hR
  have HV := Lib.hid hV
  have HT := Lib.hid hT
  have HnE := Lib.hid hnE
  have HnA := Lib.hid hnA
  have hnA1 : nA ≤ 100 := by have := hR.a1; omega
  have Htr : Hid (∀ W1, Grew w W1 → Calls Tryd.prog 21 #[.agg #[.int .i64 nA, .slice pE nE cE, .slice pA nA cA]] W1 fun e w' => e = .returned (.bool true) ∧ Grew W1 w') := Lib.hid (fun W1 h => by
    have := trg_r nA pE pA nE nA cE cA E A W1 (hRI.grew h) hnE hnA
    rw [hT] at this
    exact this)
  have hst := pee_start hT
  obtain ⟨i0, i1⟩ := dart01 hT
  have e0 : tailF nA E A 0 = tailE E 0 := tailF_eq hV i0
  have e1 : tailF nA E A 1 = tailE E 1 := tailF_eq hV i1
  obtain ⟨y1, hy1⟩ : ∃ y1 : Nat, tailE E 0 = (y1 : Int) := ⟨(tailE E 0).toNat, by have := head_in hV i0; omega⟩
  obtain ⟨y2, hy2⟩ : ∃ y2 : Nat, tailE E 1 = (y2 : Int) := ⟨(tailE E 1).toNat, by have := head_in hV i1; omega⟩
  have hthr : thirdR nA E A = thirdF nA E A := third_same hT
  have hpl : peel0 nA E A = [(y1 : Int), thirdF nA E A, (y2 : Int)] := by unfold peel0; rw [e0, e1, hy1, hy2]
  have h3r : 0 ≤ thirdF nA E A ∧ thirdF nA E A < (nA : Int) := by
    have := fans_range hV hst.1 (thirdF nA E A) (by rw [hst.2, hpl]; simp)
    omega
  obtain ⟨y3, hy3⟩ : ∃ y3 : Nat, thirdF nA E A = (y3 : Int) := ⟨(thirdF nA E A).toNat, by omega⟩
  rw [hy3] at hpl hthr
  have hy1n : y1 < nA := by have := head_in hV i0; omega
  have hy2n : y2 < nA := by have := head_in hV i1; omega
  have hy3n : y3 < nA := by omega
  have Hy1 := Lib.hid hy1
  have Hy2 := Lib.hid hy2
  obtain ⟨D0, hD0⟩ : ∃ D0, [oth (nxF A (nxF A 0)), oth (nxF A 0), 1] = D0 := ⟨_, rfl⟩
  have Hst0 : Hid (Stt E A D0 [(y1 : Int), (y3 : Int), (y2 : Int)] []) := Lib.hid (by
    rw [← hD0]
    exact Stt.more _ (by rw [hst.2, hpl]) (by simp) hst.1 (by simp) (fun u hu => by cases hu) (fun _ => rfl) (fun R hR => by simpa using hR))
  have Hend : Hid (∀ W1, Grew w W1 → Calls Tryd.prog 48 #[.agg #[.int .i64 nA, .slice pE nE cE, .slice pA nA cA]] W1 fun e w' => e = .returned (.tuple #[.int .i64 y1, .int .i64 y2, .int .i64 y3]) ∧ Grew W1 w') := Lib.hid (fun W1 h => by
    have := ends_r nA pE pA nE nA cE cA E A W1 (HR.out.grew h) HT.out hnE hnA
    rw [e0, e1, hthr, hy1, hy2] at this
    exact this)
  have HD0 := Lib.hid hD0
  have hnE100 := hR.e1
  clear hR hRI hT hV hal hst hpl hthr hy1 hy2 hy3 e0 e1 i0 i1 h3r hD0 hnE hnA
  go_enter Tryd.func22, Tryd.ntmps22
  go_upto_region 1 with fail
  have HgB : Hid (Grew w (w.alloc (.cells #[.int .i64 nA, .slice pE nE cE, .slice pA nA cA] 25))) := Lib.hid ((Grew.refl w).alloc _)
  have k0 : (w.alloc (.cells #[.int .i64 nA, .slice pE nE cE, .slice pA nA cA] 25)).cell? ⟨w.heap.size, 0, none⟩ = some (.int .i64 nA) := by simp [go_sem]
  have k1 : (w.alloc (.cells #[.int .i64 nA, .slice pE nE cE, .slice pA nA cA] 25)).cell? ⟨w.heap.size, 1, none⟩ = some (.slice pE nE cE) := by simp [go_sem]
  have k2 : (w.alloc (.cells #[.int .i64 nA, .slice pE nE cE, .slice pA nA cA] 25)).cell? ⟨w.heap.size, 2, none⟩ = some (.slice pA nA cA) := by simp [go_sem]
  obtain ⟨wB, hwB⟩ : ∃ wB, w.alloc (.cells #[.int .i64 nA, .slice pE nE cE, .slice pA nA cA] 25) = wB := ⟨_, rfl⟩
  rw [hwB] at HgB k0 k1 k2 ⊢
  have hwl := World.block_lt_of_cell? wB _ k0
  dsimp only at hwl
  clear hwB
  go_upto_region 4 with (first
    | (go_at_call 21; apply Calls.mono; (with_reducible exact Htr.out _ (HgB.out.trans (by (repeat (first | exact gR _ | refine gO ?_ _ | refine gA ?_ _ | refine gD ?_ | refine gN ?_ _))))); rintro e w2 ⟨rfl, hg2⟩; have Hg2 := Lib.hid ((show Grew wB _ by (repeat (first | exact gR _ | refine gO ?_ _ | refine gA ?_ _ | refine gD ?_ | refine gN ?_ _))).trans hg2); have n0 := Hg2.out.cellEq k0; have n1 := Hg2.out.cellEq k1; have n2 := Hg2.out.cellEq k2; have hlw2 := World.block_lt_of_cell? w2 _ n0; dsimp only at hlw2; clear hg2)
    | (go_at_call 48; apply Calls.mono; (with_reducible exact Hend.out _ (HgB.out.trans (Hg2.out.trans (by (repeat (first | exact gR _ | refine gO ?_ _ | refine gA ?_ _ | refine gD ?_ | refine gN ?_ _)))))); rintro e w3 ⟨rfl, hg3⟩; have Hg3 := Lib.hid (Hg2.out.trans ((show Grew w2 _ by (repeat (first | exact gR _ | refine gO ?_ _ | refine gA ?_ _ | refine gD ?_ | refine gN ?_ _))).trans hg3)); have m0 := Hg3.out.cellEq k0; have m1 := Hg3.out.cellEq k1; have m2 := Hg3.out.cellEq k2; have hlw3 := World.block_lt_of_cell? w3 _ m0; dsimp only at hlw3; clear hg3))
  have M0 := Lib.hid m0
  have M1 := Lib.hid m1
  have M2 := Lib.hid m2
  have Hg3w : Hid (Grew w w3) := Lib.hid (HgB.out.trans Hg3.out)
  clear n0 n1 n2 hlw2 m0 m1 m2 k0 k1 k2 Hg2 HgB hwl Hg3
  go_upto_region 5 with fail
  have HC0 : Hid (Ints (w3.alloc (.cells #[.int .i64 y1, .int .i64 y3, .int .i64 y2] 3)) (some ⟨w3.heap.size, 0, none⟩) [(y1 : Int), (y3 : Int), (y2 : Int)]) := Lib.hid (Ints.three (by simp [go_sem]) (by simp [go_sem]) (by simp [go_sem]) (fun u hu => by
    simp only [List.mem_cons, List.not_mem_nil, or_false] at hu
    rcases hu with rfl | rfl | rfl <;> omega))
  have HgC : Hid (Grew w3 (w3.alloc (.cells #[.int .i64 y1, .int .i64 y3, .int .i64 y2] 3))) := Lib.hid ((Grew.refl w3).alloc _)
  obtain ⟨w4, hw4⟩ : ∃ w4, w3.alloc (.cells #[.int .i64 y1, .int .i64 y3, .int .i64 y2] 3) = w4 := ⟨_, rfl⟩
  rw [hw4] at HC0 HgC ⊢
  clear hw4
  go_wp2
  go_loopg [7, 8, 9, 10] (nA) (fun k vl vg _ _ wr => ∃ C ord : List Int, ord.length + k = nA ∧ Stt E A D0 C ord ∧ Grew w3 wr ∧ (∃ q cap, vl = .slice q C.length cap ∧ Ints wr q C ∧ C.length ≤ cap ∧ cap ≤ maxLen) ∧ ∃ q2 cap2, vg = .slice q2 ord.length cap2 ∧ Ints wr q2 ord.reverse ∧ (q2 = none → ord.length = 0 ∧ cap2 = 0))
  case atStart => exact ⟨_, [], by simp, Hst0.out, HgC.out.trans (by (repeat (first | exact gR _ | refine gO ?_ _ | refine gA ?_ _ | refine gD ?_ | refine gN ?_ _))), ⟨_, 3, rfl, HC0.out.grew (by (repeat (first | exact gR _ | refine gO ?_ _ | refine gA ?_ _ | refine gD ?_ | refine gN ?_ _))), by simp, by decide⟩, none, 0, rfl, Ints.nil _ _, fun _ => ⟨rfl, rfl⟩⟩
  case round =>
    clear HC0 HgC
    obtain ⟨C, ord, hk, hst, hg, ⟨q, cap, rfl, hIC, hc1, hc2⟩, q2, cap2, rfl, hIg, hnil⟩ := hrel
    have Hst := Lib.hid hst
    have Hg := Lib.hid hg
    have HIC := Lib.hid hIC
    have HIg := Lib.hid hIg
    have hsl := stt_len HT.out hst
    have Hgw : Hid (Grew w wr) := Lib.hid (Hg3w.out.trans hg)
    have HcM : Hid (C.length ≤ nA) := Lib.hid (by rw [← HnA.out]; exact hsl.1)
    have HoM : Hid (∀ u ∈ ord, 0 ≤ u ∧ u < (nA : Int)) := Lib.hid (by rw [← HnA.out]; exact hsl.2.2.2)
    have hcl2 := hsl.2.1
    obtain ⟨m, hm⟩ : ∃ m, C.length = m := ⟨_, rfl⟩
    have Hm := Lib.hid hm
    rw [hm] at hc1 hcl2 ⊢
    have hmn : m ≤ nA := by rw [← hm]; exact HcM.out
    obtain ⟨l, hl⟩ : ∃ l, ord.length = l := ⟨_, rfl⟩
    have Hl := Lib.hid hl
    rw [hl] at hk hnil ⊢
    have Hnil := Lib.hid hnil
    clear hst hg hIC hIg hsl hm hl hnil
    have hgl : (ord.reverse).length = l := by rw [List.length_reverse, Hl.out]
    rcases Hst.out with ⟨D, hC, h3, hP, hn, hr, he, hkk⟩ | ⟨h2, hn, hr, hRR⟩
    case done =>
      have hm2 : ¬ 2 < (m : Int) := by have := Hm.out; omega
      have HRR := Lib.hid hRR
      clear hn hr hRR h2
      go_wp2_with ((at_builtin; refine wp_append_owns rfl _ _ 26 rfl 3 1 8 (.int .i64 0) Tryd.underlying26 Tryd.infoInt rfl (by decide) (wr.heap.size) _ 0 _ _ _ ((Owns.nil wr wr.heap.size).made (Nat.le_refl _) #[.int .i64 y1, .int .i64 y2] 3 1 2 wr.heap.size rfl (by decide) rfl) rfl rfl _ _ _ rfl (intVs (ord.reverse)) (by rw [intVs_length, Nat.mul_one]; try first | rfl | assumption | (simp; done) | omega) (Hnil.out) (Ints.newsO (HIg.out.grew (by (repeat (first | exact gR _ | refine gO ?_ _ | refine gA ?_ _ | refine gD ?_ | refine gN ?_ _))))) (intVs_one _) (by simp only [maxLen]; omega) (by omega) (by first | rfl | omega | (simp <;> omega)) ?_; intro v1 w1 hO1 hg1 hb1 hv1; have Hg2 := Lib.hid (Grew.grownBy (w0 := wr) (show Grew wr _ by (repeat (first | exact gR _ | refine gO ?_ _ | refine gA ?_ _ | refine gD ?_ | refine gN ?_ _))) hg1 (fun g h => by have := hb1 g h; omega)); have HO2 := Lib.hid hO1; clear hO1 hg1 hb1 hv1))
      have h5 := HO2.out
      have hle : (tailE E 0 :: tailE E 1 :: ord.reverse) = (y1 : Int) :: (y2 : Int) :: ord.reverse := by rw [Hy1.out, Hy2.out]
      rw [List.set_cons_zero, show #[Value.int .i64 y1, .int .i64 y2].toList ++ intVs ord.reverse = intVs ((y1 : Int) :: (y2 : Int) :: ord.reverse) by rfl] at h5
      obtain ⟨q5, cap5, e1, e2, e3, e4, e5, e6⟩ := own_ints h5 (k := 0) rfl (fun y hy => by
        rcases List.mem_cons.1 hy with rfl | hy
        · omega
        · rcases List.mem_cons.1 hy with rfl | hy
          · omega
          · have := HoM.out y (List.mem_reverse.1 hy); omega)
      subst e1
      have H6 := Lib.hid e6
      clear h5 e6 HO2
      go_ret2
      refine ⟨Hgw.out.trans (Hg2.out.trans (by (repeat (first | exact gR _ | refine gO ?_ _ | refine gA ?_ _ | refine gD ?_ | refine gN ?_ _)))), ord, by rw [HD0.out]; exact HRR.out, q5, cap5, ?_, by rw [hle]; exact H6.out _ (by (repeat (first | exact gR _ | refine gO ?_ _ | refine gA ?_ _ | refine gD ?_ | refine gN ?_ _))), ?_, e4⟩
      · rw [Hl.out, show l + 2 = 2 + l by omega]; rfl
      · rw [Hl.out]; omega
    case more =>
      have hDm : D.length = m := by have := Hm.out; rw [hC, List.length_map] at this; exact this
      obtain ⟨tt, ht0, ht1, hall, hfree⟩ := ord_pick HT.out hP h3
      rw [hDm] at hall hfree ht1 h3
      obtain ⟨s, rfl⟩ : ∃ s, tt = s + 1 := ⟨tt - 1, by omega⟩
      obtain ⟨y, _, _, Y, hy1, hy2, hy3, hring, hndY, hsn⟩ := stt_next HT.out (by omega) hP hn hr hkk (s := s) (by omega) (by rw [hDm]; exact hfree)
      rw [← hC] at hy1 hring hndY hsn hall hfree
      have Hall := Lib.hid hall
      have Hfree := Lib.hid hfree
      have Hy := Lib.hid hy1
      have Hsn := Lib.hid hsn
      have hyn : y < nA := by have := HnA.out; omega
      have hl1 : l + 1 ≤ nA := by
        have h1 := (stt_len HT.out hsn).2.2.1
        rw [List.length_append, List.length_singleton, Hl.out, HnA.out] at h1
        exact h1
      have hl0 : l = 0 → m = 3 := fun e => by
        have := he (List.length_eq_zero_iff.1 (by rw [Hl.out]; exact e))
        omega
      obtain ⟨C', hC'⟩ : ∃ C', C.take (s + 1) ++ (Y ++ C.drop (s + 2)) = C' := ⟨_, rfl⟩
      rw [hC'] at Hsn
      obtain ⟨bC, oC, rfl, lC, cC'⟩ := HIC.out.cells (by rw [Hm.out]; omega)
      have HcC := Lib.hid cC'
      obtain ⟨wo, hwo⟩ : ∃ wo, wo = wr := ⟨_, rfl⟩
      subst hwo
      have Hun : Hid (∀ W1 pG cG, Grew wo W1 → Ints W1 pG ((y : Int) :: ord.reverse) → Calls Tryd.prog 50 #[.agg #[.int .i64 nA, .slice pE nE cE, .slice pA nA cA], .slice (some ⟨bC, oC, none⟩) m cap, .int .i64 ((s : Int) + 1), .slice pG (1 + l) cG] W1 (NewI C' W1)) := Lib.hid (fun W1 pG cG hg hI => by
        obtain ⟨r1, r2, e1, e2⟩ := hring ((y : Int) :: ord.reverse) (fun u => by simp)
        have := uncover_l nA pE pA (some ⟨bC, oC, none⟩) pG nE nA m (1 + l) cE cA cap cG E A C ((y : Int) :: ord.reverse) s y W1 (HR.out.grew (Hgw.out.trans hg)) HV.out (HIC.out.grew hg) hI HnE.out HnA.out Hm.out (by simp [Hl.out]; omega) (by omega) hc1 hc2 (by omega) Hy.out hyn e1 e2 hndY
        rw [hC'] at this
        exact this)
      have Hch : Hid (∀ (j : Nat) W1, Grew wo W1 → 0 < j → j < m → Calls Tryd.prog 49 #[.agg #[.int .i64 nA, .slice pE nE cE, .slice pA nA cA], .slice (some ⟨bC, oC, none⟩) m cap, .int .i64 j] W1 fun e w' => e = .returned (.bool (chdK E C j m)) ∧ Grew W1 w') := Lib.hid (fun j W1 h h0 h1 => chord_l nA pE pA (some ⟨bC, oC, none⟩) nE nA m cE cA cap E C j W1 (HR.out.hE.grew (Hgw.out.trans h)) HR.out.e1 (HIC.out.grew h) (by omega) HnE.out Hm.out h0 h1 _ rfl)
      have hm2 : 2 < (m : Int) := by omega
      clear hC hDm hP hn hr hkk he hall hfree hy1 hsn hring hndY hC' cC' Hst
      go_upto_region 8 with fail
      go_loopw [9] (fun iv wk => ∃ t : Nat, 0 < t ∧ t ≤ s + 1 ∧ iv = .int .i64 t ∧ Grew wo wk) (fun iv _ => m - (intOf iv).toNat)
      case atStart => exact ⟨1, by omega, by omega, rfl, by (repeat (first | exact gR _ | refine gO ?_ _ | refine gA ?_ _ | refine gD ?_ | refine gN ?_ _))⟩
      case round =>
        obtain ⟨t, ht2, ht3, rfl, hgt⟩ := hrel
        have Hgt := Lib.hid hgt
        have m0 := (Hg.out.trans hgt).cellEq M0.out
        have m1 := (Hg.out.trans hgt).cellEq M1.out
        have m2 := (Hg.out.trans hgt).cellEq M2.out
        have hlwr := World.block_lt_of_cell? wr _ m0
        dsimp only at hlwr
        clear hgt
        by_cases htt : t < s + 1
        · have hti : (t : Int) < (m : Int) - 2 := by omega
          have Hc2 : Hid (∀ W1, Grew wo W1 → Calls Tryd.prog 49 #[.agg #[.int .i64 nA, .slice pE nE cE, .slice pA nA cA], .slice (some ⟨bC, oC, none⟩) m cap, .int .i64 t] W1 fun e w' => e = .returned (.bool true) ∧ Grew W1 w') := Lib.hid (fun W1 h => by
            have := Hch.out t W1 h ht2 (by omega)
            rw [Hall.out t ht2 htt] at this
            exact this)
          go_wp2_with ((go_at_call 49; apply Calls.mono; (with_reducible exact Hc2.out _ (Hgt.out.trans (by (repeat (first | exact gR _ | refine gO ?_ _ | refine gA ?_ _ | refine gD ?_ | refine gN ?_ _))))); rintro e w' ⟨rfl, x, rfl⟩))
          go_roundw
          case rel => exact ⟨t + 1, by omega, by omega, by go_num, Hgt.out.trans (by (repeat (first | exact gR _ | refine gO ?_ _ | refine gA ?_ _ | refine gD ?_ | refine gN ?_ _)))⟩
          case measure => (simp [intOf] <;> omega)
        · obtain rfl : t = s + 1 := by omega
          by_cases hlast : s + 3 < m
          · have hti : (s : Int) + 1 < (m : Int) - 2 := by omega
            have hlz : ¬ (l : Int) = 0 := fun e => by have := hl0 (by omega); omega
            have Hc2 : Hid (∀ W1, Grew wo W1 → Calls Tryd.prog 49 #[.agg #[.int .i64 nA, .slice pE nE cE, .slice pA nA cA], .slice (some ⟨bC, oC, none⟩) m cap, .int .i64 ((s : Int) + 1)] W1 fun e w' => e = .returned (.bool false) ∧ Grew W1 w') := Lib.hid (fun W1 h => by
              have := Hch.out (s + 1) W1 h ht2 (by omega)
              rw [Hfree.out] at this
              push_cast at this
              exact this)
            go_upto_region 12 with (go_at_call 49; apply Calls.mono; (with_reducible exact Hc2.out _ (Hgt.out.trans (by (repeat (first | exact gR _ | refine gO ?_ _ | refine gA ?_ _ | refine gD ?_ | refine gN ?_ _))))); rintro e w5 ⟨rfl, hg5⟩; have Hg5 := Lib.hid (Hgt.out.trans ((show Grew wr _ by (repeat (first | exact gR _ | refine gO ?_ _ | refine gA ?_ _ | refine gD ?_ | refine gN ?_ _))).trans hg5)); clear hg5)
            clear m0 m1 m2 hlwr
            have m0 := (Hg.out.trans Hg5.out).cellEq M0.out
            have m1 := (Hg.out.trans Hg5.out).cellEq M1.out
            have m2 := (Hg.out.trans Hg5.out).cellEq M2.out
            have hlw5 := World.block_lt_of_cell? w5 _ m0
            dsimp only at hlw5
            have c1 : w5.cell? ⟨bC, oC + (s + 1), none⟩ = some (.int .i64 y) := by
              have := HcC.out w5 Hg5.out (s + 1) (by rw [Hm.out]; omega)
              rw [Hy.out] at this
              exact this
            have lC5 := Nat.lt_of_lt_of_le lC Hg5.out.below.size
            have hti5 : (s : Int) + 1 < (m : Int) := by omega
            have hti6 : 0 ≤ (s : Int) + 1 := by omega
            refine wp_region_T (s := 12) (S := fun w' => w'.cell? ⟨w.heap.size, 0, none⟩ = some (.int .i64 nA) ∧ w'.cell? ⟨w.heap.size, 1, none⟩ = some (.slice pE nE cE) ∧ w'.cell? ⟨w.heap.size, 2, none⟩ = some (.slice pA nA cA) ∧ w'.cell? ⟨bC, oC + (s + 1), none⟩ = some (.int .i64 y)) (by kernel_rfl) ⟨by simpa using m0, by simpa using m1, by simpa using m2, by simpa using c1⟩ (fun hH => ?_)
            refine wpAnyT_takeV (i := 0) (v := ?_) rfl (by kernel_rfl) (by kernel_rfl) (by kernel_rfl) (by decide) (fun _ _ _ h => h) (Or.inl ⟨by rfl, ?_⟩) (by assumption) ?_
            rotate_left
            · (intro w hSw; (try dsimp only at hSw); go_simp; (try with_reducible rfl))
            (try simp only [Act.put, List.setIfInBounds_toArray, List.set_cons_zero, List.set_cons_succ])
            refine wpAnyT_takeV (i := 1) (v := ?_) rfl (by kernel_rfl) (by kernel_rfl) (by kernel_rfl) (by decide) (fun _ _ _ h => h) (Or.inl ⟨by rfl, ?_⟩) (by assumption) ?_
            rotate_left
            · (intro w hSw; (try dsimp only at hSw); go_simp; (try with_reducible rfl))
            (try simp only [Act.put, List.setIfInBounds_toArray, List.set_cons_zero, List.set_cons_succ])
            refine wpAnyT_takeV (i := 2) (v := ?_) rfl (by kernel_rfl) (by kernel_rfl) (by kernel_rfl) (by decide) (fun _ _ _ h => h) (Or.inl ⟨by rfl, ?_⟩) (by assumption) ?_
            rotate_left
            · (intro w hSw; (try dsimp only at hSw); go_simp; (try with_reducible rfl))
            (try simp only [Act.put, List.setIfInBounds_toArray, List.set_cons_zero, List.set_cons_succ])
            refine wpAnyT_takeV (i := 3) (v := ?_) rfl (by kernel_rfl) (by kernel_rfl) (by kernel_rfl) (by decide) (fun _ _ _ h => h) (Or.inl ⟨by rfl, ?_⟩) (by assumption) ?_
            rotate_left
            · (intro w hSw; (try dsimp only at hSw); go_simp; (try with_reducible rfl))
            (try simp only [Act.put, List.setIfInBounds_toArray, List.set_cons_zero, List.set_cons_succ])
            refine wpAnyT_takeV (i := 4) (v := ?_) rfl (by kernel_rfl) (by kernel_rfl) (by kernel_rfl) (by decide) (fun _ _ _ h => h) (Or.inl ⟨by rfl, ?_⟩) (by assumption) ?_
            rotate_left
            · (intro w hSw; (try dsimp only at hSw); go_simp; (try with_reducible rfl))
            (try simp only [Act.put, List.setIfInBounds_toArray, List.set_cons_zero, List.set_cons_succ])
            refine wpAnyT_takeV (i := 5) (v := ?_) rfl (by kernel_rfl) (by kernel_rfl) (by kernel_rfl) (by decide) (fun _ _ _ h => h) (Or.inl ⟨by rfl, ?_⟩) (by assumption) ?_
            rotate_left
            · (intro w hSw; (try dsimp only at hSw); go_simp; (try with_reducible rfl))
            (try simp only [Act.put, List.setIfInBounds_toArray, List.set_cons_zero, List.set_cons_succ])
            refine wpAnyT_takeV (i := 6) (v := ?_) rfl (by kernel_rfl) (by kernel_rfl) (by kernel_rfl) (by decide) (fun _ _ _ h => h) (Or.inl ⟨by rfl, ?_⟩) (by assumption) ?_
            rotate_left
            · (intro w hSw; (try dsimp only at hSw); go_simp; (try with_reducible rfl))
            (try simp only [Act.put, List.setIfInBounds_toArray, List.set_cons_zero, List.set_cons_succ])
            refine wpAnyT_takeV (i := 8) (v := ?_) rfl (by kernel_rfl) (by kernel_rfl) (by kernel_rfl) (by decide) (fun _ _ _ h => h) (Or.inl ⟨by rfl, ?_⟩) (by assumption) ?_
            rotate_left
            · (intro w hSw; (try dsimp only at hSw); go_simp; (try with_reducible rfl))
            (try simp only [Act.put, List.setIfInBounds_toArray, List.set_cons_zero, List.set_cons_succ])
            obtain ⟨wk, hwk⟩ : ∃ wk, w5.drew = wk := ⟨_, rfl⟩
            have Hcur : Hid (Grew w5 wk) := Lib.hid (by rw [← hwk]; exact (Grew.refl w5).drew)
            rw [hwk] at hH ⊢
            clear hwk m0 m1 m2 c1
            have m0 := hH.1
            have m1 := hH.2.1
            have m2 := hH.2.2.1
            have c1 := hH.2.2.2
            have lC6 := Nat.lt_of_lt_of_le lC5 Hcur.out.below.size
            have hlw6 := Nat.lt_of_lt_of_le hlw5 Hcur.out.below.size
            refine wpAnyT_all (rs := [7]) (by kernel_rfl) (by simp) (AllT.consL (i := 7) rfl (fun K hK => ?_) AllT.nil)
            go_simp
            refine hK.out _ _ ?_ (fun hH => ?_)
            · (first | (simp [go_sem, ↓IntWalk.iteOmega, *]; done) | go_keep)
            clear hK K
            (try simp only [Act.put, List.setIfInBounds_toArray, List.set_cons_zero, List.set_cons_succ])
            refine wpAnyT_all (rs := [9]) (by kernel_rfl) (by simp) (AllT.consL (i := 9) rfl (fun K hK => ?_) AllT.nil)
            refine step_append_owns rfl _ _ 26 rfl 3 1 8 (.int .i64 0) Tryd.underlying26 Tryd.infoInt rfl (by decide) (wk.heap.size) _ 0 _ _ _ ((Owns.nil wk wk.heap.size).made (Nat.le_refl _) #[.int .i64 y] 3 1 1 wk.heap.size rfl (by decide) rfl) rfl rfl _ _ _ rfl (intVs (ord.reverse)) (by rw [intVs_length, Nat.mul_one]; try first | rfl | assumption | (simp; done) | omega) (Hnil.out) (Ints.newsO (HIg.out.grew (Hg5.out.trans (Hcur.out.trans (by (repeat (first | exact gR _ | refine gO ?_ _ | refine gA ?_ _ | refine gD ?_ | refine gN ?_ _))))))) (intVs_one _) (by simp only [maxLen]; omega) (by omega) (by first | rfl | omega | (simp <;> omega)) ?_; intro v1 w1 hO1 hg1 hb1 hv1; have Hg6 := Lib.hid (Grew.grownBy (w0 := wk) (show Grew wk _ by (repeat (first | exact gR _ | refine gO ?_ _ | refine gA ?_ _ | refine gD ?_ | refine gN ?_ _))) hg1 (fun g h => by have := hb1 g h; omega)); have HO6 := Lib.hid hO1; clear hO1 hg1 hb1 hv1
            have h5 := HO6.out
            rw [List.set_cons_zero, show #[Value.int .i64 (y : Int)].toList ++ intVs ord.reverse = intVs ((y : Int) :: ord.reverse) by rfl] at h5
            obtain ⟨q5, cap5, e1, e2, e3, e4, e5, e6⟩ := own_ints h5 (k := 0) rfl (fun z hz => by
              rcases List.mem_cons.1 hz with rfl | hz
              · omega
              · have := HoM.out z (List.mem_reverse.1 hz); omega)
            subst e1
            have H6 := Lib.hid (e6 w1 (Grew.refl _))
            have q0 := Hg6.out.cellEq m0
            have q1 := Hg6.out.cellEq m1
            have q2 := Hg6.out.cellEq m2
            have q3 := Hg6.out.cellEq c1
            refine hK.out _ _ ⟨q0, q1, q2, q3⟩ (fun hH => ?_)
            clear hK K h5 e6 e5 HO6
            (try simp only [Act.put, List.setIfInBounds_toArray, List.set_cons_zero, List.set_cons_succ])
            refine wpAnyT_all (rs := [10]) (by kernel_rfl) (by simp) (AllT.consL (i := 10) rfl (fun K hK => ?_) AllT.nil)
            go_simp; go_wp2_with (go_at_call 50; apply Calls.mono; (with_reducible exact Hun.out _ _ _ (Hg5.out.trans (Hcur.out.trans (Hg6.out.trans (by (repeat (first | exact gR _ | refine gO ?_ _ | refine gA ?_ _ | refine gD ?_ | refine gN ?_ _)))))) (H6.out.grew (by (repeat (first | exact gR _ | refine gO ?_ _ | refine gA ?_ _ | refine gD ?_ | refine gN ?_ _))))); rintro e w9 ⟨hg9, q9, cap9, rfl, hI9, hc91, hc92⟩; have hgx := Grew.trans (show Grew w1 _ by (repeat (first | exact gR _ | refine gO ?_ _ | refine gA ?_ _ | refine gD ?_ | refine gN ?_ _))) hg9; have Hg9 := Lib.hid (Hg5.out.trans (Hcur.out.trans (Hg6.out.trans hgx))); have HI9 := Lib.hid hI9; have q0 := hgx.cellEq q0; have q1 := hgx.cellEq q1; have q2 := hgx.cellEq q2; have q3 := hgx.cellEq q3; clear hgx hg9 hI9)
            refine hK.out _ _ ?_ (fun hH => ?_)
            · (first | (simp [go_sem, ↓IntWalk.iteOmega, *]; done) | go_keep)
            clear hK K
            (try simp only [Act.put, List.setIfInBounds_toArray, List.set_cons_zero, List.set_cons_succ])
            refine wpAnyT_all (rs := [11]) (by kernel_rfl) (by simp) (AllT.consL (i := 11) rfl (fun K hK => ?_) AllT.nil)
            go_simp
            refine hK.out _ _ ?_ (fun hH => ?_)
            · (first | (simp [go_sem, ↓IntWalk.iteOmega, *]; done) | go_keep)
            clear hK K
            (try simp only [Act.put, List.setIfInBounds_toArray, List.set_cons_zero, List.set_cons_succ])
            refine wpAnyT_done (by kernel_rfl) ?_ _
            have lC9 := Nat.lt_of_lt_of_le lC Hg9.out.below.size
            have HCl : Hid (C'.length ≤ 100) := Lib.hid (by have := (stt_len HT.out Hsn.out).1; have := HnA.out; omega)
            go_wp2_with ((at_builtin; refine wp_append_owns rfl _ _ 26 rfl 3 1 8 (.int .i64 0) Tryd.underlying26 Tryd.infoInt rfl (by decide) (w9.heap.size) _ 0 _ _ _ ((Owns.nil w9 w9.heap.size).made (Nat.le_refl _) #[.int .i64 y] 3 1 1 w9.heap.size rfl (by decide) rfl) rfl rfl _ _ _ rfl (intVs (ord.reverse)) (by rw [intVs_length, Nat.mul_one]; try first | rfl | assumption | (simp; done) | omega) (Hnil.out) (Ints.newsO (HIg.out.grew (Hg9.out.trans (by (repeat (first | exact gR _ | refine gO ?_ _ | refine gA ?_ _ | refine gD ?_ | refine gN ?_ _)))))) (intVs_one _) (by simp only [maxLen]; omega) (by omega) (by first | rfl | omega | (simp <;> omega)) ?_; intro v1 w1 hO1 hg1 hb1 hv1; have Hg10 := Lib.hid (Grew.grownBy (w0 := w9) (show Grew w9 _ by (repeat (first | exact gR _ | refine gO ?_ _ | refine gA ?_ _ | refine gD ?_ | refine gN ?_ _))) hg1 (fun g h => by have := hb1 g h; omega)); have HO10 := Lib.hid hO1; clear hO1 hg1 hb1 hv1))
            have h5 := HO10.out
            rw [List.set_cons_zero, show #[Value.int .i64 (y : Int)].toList ++ intVs ord.reverse = intVs ((y : Int) :: ord.reverse) by rfl] at h5
            obtain ⟨q7, cap7, f1, f2, f3, f4, f5, f6⟩ := own_ints h5 (k := 0) rfl (fun z hz => by
              rcases List.mem_cons.1 hz with rfl | hz
              · omega
              · have := HoM.out z (List.mem_reverse.1 hz); omega)
            have hq7 : q7 = none → False := fun e => by
              subst e
              subst f1
              rcases (h5.get (k := 0) rfl).2 with ⟨a1, a2⟩ | ⟨g, cc, a1, _⟩
              · omega
              · cases a1
            subst f1
            have H7 := Lib.hid (f6 _ (Grew.refl _))
            have Hq7 := Lib.hid hq7
            have hrv : (ord ++ [(y : Int)]).reverse = (y : Int) :: ord.reverse := by simp
            have Hrv := Lib.hid hrv
            have Hol : Hid ((ord ++ [(y : Int)]).length = 1 + l) := Lib.hid (by rw [List.length_append, List.length_singleton, Hl.out, Nat.add_comm])
            clear h5 f6 f5 f2 HO10 hq7 hrv e2
            obtain ⟨k', rfl⟩ : ∃ k', gk = k' + 1 := ⟨gk - 1, by omega⟩
            go_roundg k'
            case rel => exact ⟨C', ord ++ [(y : Int)], by rw [Hol.out]; omega, Hsn.out, Hg.out.trans (Hg9.out.trans (Hg10.out.trans (by (repeat (first | exact gR _ | refine gO ?_ _ | refine gA ?_ _ | refine gD ?_ | refine gN ?_ _))))), ⟨q9, cap9, rfl, HI9.out.grew (Hg10.out.trans (by (repeat (first | exact gR _ | refine gO ?_ _ | refine gA ?_ _ | refine gD ?_ | refine gN ?_ _)))), hc91, hc92⟩, q7, cap7, by rw [Hol.out], by rw [Hrv.out]; exact H7.out.grew (by (repeat (first | exact gR _ | refine gO ?_ _ | refine gA ?_ _ | refine gD ?_ | refine gN ?_ _))), fun e => (Hq7.out e).elim⟩
            case measure => omega
          · have hti : ¬ (s : Int) + 1 < (m : Int) - 2 := by omega
            by_cases hlz : l = 0
            · have hs0 : s = 0 := by have := hl0 hlz; omega
              have hlz2 : (l : Int) = 0 := by omega
              have Hun1 : Hid (∀ W1 pG cG, Grew wo W1 → Ints W1 pG ((y : Int) :: ord.reverse) → Calls Tryd.prog 50 #[.agg #[.int .i64 nA, .slice pE nE cE, .slice pA nA cA], .slice (some ⟨bC, oC, none⟩) m cap, .int .i64 1, .slice pG (1 + l) cG] W1 (NewI C' W1)) := Lib.hid (fun W1 pG cG h1 h2 => by
                have := Hun.out W1 pG cG h1 h2
                rw [hs0] at this
                exact this)
              replace Hun := Hun1
              have Hs0 := Lib.hid hs0
              have hm3 : (1 : Int) < (m : Int) := by omega
              clear Hun1 hs0 hlz
              go_upto_region 12 with fail
              have Hg5 := Hgt
              obtain ⟨w5, hw5⟩ : ∃ w5, w5 = wr := ⟨_, rfl⟩
              subst hw5
              clear m0 m1 m2 hlwr
              have m0 := (Hg.out.trans Hg5.out).cellEq M0.out
              have m1 := (Hg.out.trans Hg5.out).cellEq M1.out
              have m2 := (Hg.out.trans Hg5.out).cellEq M2.out
              have hlw5 := World.block_lt_of_cell? w5 _ m0
              dsimp only at hlw5
              have c1 : w5.cell? ⟨bC, oC + 1, none⟩ = some (.int .i64 y) := by
                have := HcC.out w5 Hg5.out (s + 1) (by rw [Hm.out]; omega)
                rw [Hy.out] at this
                rw [Hs0.out] at this; exact this
              have lC5 := Nat.lt_of_lt_of_le lC Hg5.out.below.size
              have hti5 : (1 : Int) < (m : Int) := by omega
              have hti6 : 0 ≤ (1 : Int) := by omega
              refine wp_region_T (s := 12) (S := fun w' => w'.cell? ⟨w.heap.size, 0, none⟩ = some (.int .i64 nA) ∧ w'.cell? ⟨w.heap.size, 1, none⟩ = some (.slice pE nE cE) ∧ w'.cell? ⟨w.heap.size, 2, none⟩ = some (.slice pA nA cA) ∧ w'.cell? ⟨bC, oC + 1, none⟩ = some (.int .i64 y)) (by kernel_rfl) ⟨by simpa using m0, by simpa using m1, by simpa using m2, by simpa using c1⟩ (fun hH => ?_)
              refine wpAnyT_takeV (i := 0) (v := ?_) rfl (by kernel_rfl) (by kernel_rfl) (by kernel_rfl) (by decide) (fun _ _ _ h => h) (Or.inl ⟨by rfl, ?_⟩) (by assumption) ?_
              rotate_left
              · (intro w hSw; (try dsimp only at hSw); go_simp; (try with_reducible rfl))
              (try simp only [Act.put, List.setIfInBounds_toArray, List.set_cons_zero, List.set_cons_succ])
              refine wpAnyT_takeV (i := 1) (v := ?_) rfl (by kernel_rfl) (by kernel_rfl) (by kernel_rfl) (by decide) (fun _ _ _ h => h) (Or.inl ⟨by rfl, ?_⟩) (by assumption) ?_
              rotate_left
              · (intro w hSw; (try dsimp only at hSw); go_simp; (try with_reducible rfl))
              (try simp only [Act.put, List.setIfInBounds_toArray, List.set_cons_zero, List.set_cons_succ])
              refine wpAnyT_takeV (i := 2) (v := ?_) rfl (by kernel_rfl) (by kernel_rfl) (by kernel_rfl) (by decide) (fun _ _ _ h => h) (Or.inl ⟨by rfl, ?_⟩) (by assumption) ?_
              rotate_left
              · (intro w hSw; (try dsimp only at hSw); go_simp; (try with_reducible rfl))
              (try simp only [Act.put, List.setIfInBounds_toArray, List.set_cons_zero, List.set_cons_succ])
              refine wpAnyT_takeV (i := 3) (v := ?_) rfl (by kernel_rfl) (by kernel_rfl) (by kernel_rfl) (by decide) (fun _ _ _ h => h) (Or.inl ⟨by rfl, ?_⟩) (by assumption) ?_
              rotate_left
              · (intro w hSw; (try dsimp only at hSw); go_simp; (try with_reducible rfl))
              (try simp only [Act.put, List.setIfInBounds_toArray, List.set_cons_zero, List.set_cons_succ])
              refine wpAnyT_takeV (i := 4) (v := ?_) rfl (by kernel_rfl) (by kernel_rfl) (by kernel_rfl) (by decide) (fun _ _ _ h => h) (Or.inl ⟨by rfl, ?_⟩) (by assumption) ?_
              rotate_left
              · (intro w hSw; (try dsimp only at hSw); go_simp; (try with_reducible rfl))
              (try simp only [Act.put, List.setIfInBounds_toArray, List.set_cons_zero, List.set_cons_succ])
              refine wpAnyT_takeV (i := 5) (v := ?_) rfl (by kernel_rfl) (by kernel_rfl) (by kernel_rfl) (by decide) (fun _ _ _ h => h) (Or.inl ⟨by rfl, ?_⟩) (by assumption) ?_
              rotate_left
              · (intro w hSw; (try dsimp only at hSw); go_simp; (try with_reducible rfl))
              (try simp only [Act.put, List.setIfInBounds_toArray, List.set_cons_zero, List.set_cons_succ])
              refine wpAnyT_takeV (i := 6) (v := ?_) rfl (by kernel_rfl) (by kernel_rfl) (by kernel_rfl) (by decide) (fun _ _ _ h => h) (Or.inl ⟨by rfl, ?_⟩) (by assumption) ?_
              rotate_left
              · (intro w hSw; (try dsimp only at hSw); go_simp; (try with_reducible rfl))
              (try simp only [Act.put, List.setIfInBounds_toArray, List.set_cons_zero, List.set_cons_succ])
              refine wpAnyT_takeV (i := 8) (v := ?_) rfl (by kernel_rfl) (by kernel_rfl) (by kernel_rfl) (by decide) (fun _ _ _ h => h) (Or.inl ⟨by rfl, ?_⟩) (by assumption) ?_
              rotate_left
              · (intro w hSw; (try dsimp only at hSw); go_simp; (try with_reducible rfl))
              (try simp only [Act.put, List.setIfInBounds_toArray, List.set_cons_zero, List.set_cons_succ])
              obtain ⟨wk, hwk⟩ : ∃ wk, w5.drew = wk := ⟨_, rfl⟩
              have Hcur : Hid (Grew w5 wk) := Lib.hid (by rw [← hwk]; exact (Grew.refl w5).drew)
              rw [hwk] at hH ⊢
              clear hwk m0 m1 m2 c1
              have m0 := hH.1
              have m1 := hH.2.1
              have m2 := hH.2.2.1
              have c1 := hH.2.2.2
              have lC6 := Nat.lt_of_lt_of_le lC5 Hcur.out.below.size
              have hlw6 := Nat.lt_of_lt_of_le hlw5 Hcur.out.below.size
              refine wpAnyT_all (rs := [7]) (by kernel_rfl) (by simp) (AllT.consL (i := 7) rfl (fun K hK => ?_) AllT.nil)
              go_simp
              refine hK.out _ _ ?_ (fun hH => ?_)
              · (first | (simp [go_sem, ↓IntWalk.iteOmega, *]; done) | go_keep)
              clear hK K
              (try simp only [Act.put, List.setIfInBounds_toArray, List.set_cons_zero, List.set_cons_succ])
              refine wpAnyT_all (rs := [9]) (by kernel_rfl) (by simp) (AllT.consL (i := 9) rfl (fun K hK => ?_) AllT.nil)
              refine step_append_owns rfl _ _ 26 rfl 3 1 8 (.int .i64 0) Tryd.underlying26 Tryd.infoInt rfl (by decide) (wk.heap.size) _ 0 _ _ _ ((Owns.nil wk wk.heap.size).made (Nat.le_refl _) #[.int .i64 y] 3 1 1 wk.heap.size rfl (by decide) rfl) rfl rfl _ _ _ rfl (intVs (ord.reverse)) (by rw [intVs_length, Nat.mul_one]; try first | rfl | assumption | (simp; done) | omega) (Hnil.out) (Ints.newsO (HIg.out.grew (Hg5.out.trans (Hcur.out.trans (by (repeat (first | exact gR _ | refine gO ?_ _ | refine gA ?_ _ | refine gD ?_ | refine gN ?_ _))))))) (intVs_one _) (by simp only [maxLen]; omega) (by omega) (by first | rfl | omega | (simp <;> omega)) ?_; intro v1 w1 hO1 hg1 hb1 hv1; have Hg6 := Lib.hid (Grew.grownBy (w0 := wk) (show Grew wk _ by (repeat (first | exact gR _ | refine gO ?_ _ | refine gA ?_ _ | refine gD ?_ | refine gN ?_ _))) hg1 (fun g h => by have := hb1 g h; omega)); have HO6 := Lib.hid hO1; clear hO1 hg1 hb1 hv1
              have h5 := HO6.out
              rw [List.set_cons_zero, show #[Value.int .i64 (y : Int)].toList ++ intVs ord.reverse = intVs ((y : Int) :: ord.reverse) by rfl] at h5
              obtain ⟨q5, cap5, e1, e2, e3, e4, e5, e6⟩ := own_ints h5 (k := 0) rfl (fun z hz => by
                rcases List.mem_cons.1 hz with rfl | hz
                · omega
                · have := HoM.out z (List.mem_reverse.1 hz); omega)
              subst e1
              have H6 := Lib.hid (e6 w1 (Grew.refl _))
              have q0 := Hg6.out.cellEq m0
              have q1 := Hg6.out.cellEq m1
              have q2 := Hg6.out.cellEq m2
              have q3 := Hg6.out.cellEq c1
              refine hK.out _ _ ⟨q0, q1, q2, q3⟩ (fun hH => ?_)
              clear hK K h5 e6 e5 HO6
              (try simp only [Act.put, List.setIfInBounds_toArray, List.set_cons_zero, List.set_cons_succ])
              refine wpAnyT_all (rs := [10]) (by kernel_rfl) (by simp) (AllT.consL (i := 10) rfl (fun K hK => ?_) AllT.nil)
              go_simp; go_wp2_with (go_at_call 50; apply Calls.mono; (with_reducible exact Hun.out _ _ _ (Hg5.out.trans (Hcur.out.trans (Hg6.out.trans (by (repeat (first | exact gR _ | refine gO ?_ _ | refine gA ?_ _ | refine gD ?_ | refine gN ?_ _)))))) (H6.out.grew (by (repeat (first | exact gR _ | refine gO ?_ _ | refine gA ?_ _ | refine gD ?_ | refine gN ?_ _))))); rintro e w9 ⟨hg9, q9, cap9, rfl, hI9, hc91, hc92⟩; have hgx := Grew.trans (show Grew w1 _ by (repeat (first | exact gR _ | refine gO ?_ _ | refine gA ?_ _ | refine gD ?_ | refine gN ?_ _))) hg9; have Hg9 := Lib.hid (Hg5.out.trans (Hcur.out.trans (Hg6.out.trans hgx))); have HI9 := Lib.hid hI9; have q0 := hgx.cellEq q0; have q1 := hgx.cellEq q1; have q2 := hgx.cellEq q2; have q3 := hgx.cellEq q3; clear hgx hg9 hI9)
              refine hK.out _ _ ?_ (fun hH => ?_)
              · (first | (simp [go_sem, ↓IntWalk.iteOmega, *]; done) | go_keep)
              clear hK K
              (try simp only [Act.put, List.setIfInBounds_toArray, List.set_cons_zero, List.set_cons_succ])
              refine wpAnyT_all (rs := [11]) (by kernel_rfl) (by simp) (AllT.consL (i := 11) rfl (fun K hK => ?_) AllT.nil)
              go_simp
              refine hK.out _ _ ?_ (fun hH => ?_)
              · (first | (simp [go_sem, ↓IntWalk.iteOmega, *]; done) | go_keep)
              clear hK K
              (try simp only [Act.put, List.setIfInBounds_toArray, List.set_cons_zero, List.set_cons_succ])
              refine wpAnyT_done (by kernel_rfl) ?_ _
              have lC9 := Nat.lt_of_lt_of_le lC Hg9.out.below.size
              have HCl : Hid (C'.length ≤ 100) := Lib.hid (by have := (stt_len HT.out Hsn.out).1; have := HnA.out; omega)
              go_wp2_with ((at_builtin; refine wp_append_owns rfl _ _ 26 rfl 3 1 8 (.int .i64 0) Tryd.underlying26 Tryd.infoInt rfl (by decide) (w9.heap.size) _ 0 _ _ _ ((Owns.nil w9 w9.heap.size).made (Nat.le_refl _) #[.int .i64 y] 3 1 1 w9.heap.size rfl (by decide) rfl) rfl rfl _ _ _ rfl (intVs (ord.reverse)) (by rw [intVs_length, Nat.mul_one]; try first | rfl | assumption | (simp; done) | omega) (Hnil.out) (Ints.newsO (HIg.out.grew (Hg9.out.trans (by (repeat (first | exact gR _ | refine gO ?_ _ | refine gA ?_ _ | refine gD ?_ | refine gN ?_ _)))))) (intVs_one _) (by simp only [maxLen]; omega) (by omega) (by first | rfl | omega | (simp <;> omega)) ?_; intro v1 w1 hO1 hg1 hb1 hv1; have Hg10 := Lib.hid (Grew.grownBy (w0 := w9) (show Grew w9 _ by (repeat (first | exact gR _ | refine gO ?_ _ | refine gA ?_ _ | refine gD ?_ | refine gN ?_ _))) hg1 (fun g h => by have := hb1 g h; omega)); have HO10 := Lib.hid hO1; clear hO1 hg1 hb1 hv1))
              have h5 := HO10.out
              rw [List.set_cons_zero, show #[Value.int .i64 (y : Int)].toList ++ intVs ord.reverse = intVs ((y : Int) :: ord.reverse) by rfl] at h5
              obtain ⟨q7, cap7, f1, f2, f3, f4, f5, f6⟩ := own_ints h5 (k := 0) rfl (fun z hz => by
                rcases List.mem_cons.1 hz with rfl | hz
                · omega
                · have := HoM.out z (List.mem_reverse.1 hz); omega)
              have hq7 : q7 = none → False := fun e => by
                subst e
                subst f1
                rcases (h5.get (k := 0) rfl).2 with ⟨a1, a2⟩ | ⟨g, cc, a1, _⟩
                · omega
                · cases a1
              subst f1
              have H7 := Lib.hid (f6 _ (Grew.refl _))
              have Hq7 := Lib.hid hq7
              have hrv : (ord ++ [(y : Int)]).reverse = (y : Int) :: ord.reverse := by simp
              have Hrv := Lib.hid hrv
              have Hol : Hid ((ord ++ [(y : Int)]).length = 1 + l) := Lib.hid (by rw [List.length_append, List.length_singleton, Hl.out, Nat.add_comm])
              clear h5 f6 f5 f2 HO10 hq7 hrv e2
              obtain ⟨k', rfl⟩ : ∃ k', gk = k' + 1 := ⟨gk - 1, by omega⟩
              go_roundg k'
              case rel => exact ⟨C', ord ++ [(y : Int)], by rw [Hol.out]; omega, Hsn.out, Hg.out.trans (Hg9.out.trans (Hg10.out.trans (by (repeat (first | exact gR _ | refine gO ?_ _ | refine gA ?_ _ | refine gD ?_ | refine gN ?_ _))))), ⟨q9, cap9, rfl, HI9.out.grew (Hg10.out.trans (by (repeat (first | exact gR _ | refine gO ?_ _ | refine gA ?_ _ | refine gD ?_ | refine gN ?_ _)))), hc91, hc92⟩, q7, cap7, by rw [Hol.out], by rw [Hrv.out]; exact H7.out.grew (by (repeat (first | exact gR _ | refine gO ?_ _ | refine gA ?_ _ | refine gD ?_ | refine gN ?_ _))), fun e => (Hq7.out e).elim⟩
              case measure => omega
            · have hlz2 : ¬ (l : Int) = 0 := by omega
              go_upto_region 12 with fail
              have Hg5 := Hgt
              obtain ⟨w5, hw5⟩ : ∃ w5, w5 = wr := ⟨_, rfl⟩
              subst hw5
              clear m0 m1 m2 hlwr
              have m0 := (Hg.out.trans Hg5.out).cellEq M0.out
              have m1 := (Hg.out.trans Hg5.out).cellEq M1.out
              have m2 := (Hg.out.trans Hg5.out).cellEq M2.out
              have hlw5 := World.block_lt_of_cell? w5 _ m0
              dsimp only at hlw5
              have c1 : w5.cell? ⟨bC, oC + (s + 1), none⟩ = some (.int .i64 y) := by
                have := HcC.out w5 Hg5.out (s + 1) (by rw [Hm.out]; omega)
                rw [Hy.out] at this
                exact this
              have lC5 := Nat.lt_of_lt_of_le lC Hg5.out.below.size
              have hti5 : (s : Int) + 1 < (m : Int) := by omega
              have hti6 : 0 ≤ (s : Int) + 1 := by omega
              refine wp_region_T (s := 12) (S := fun w' => w'.cell? ⟨w.heap.size, 0, none⟩ = some (.int .i64 nA) ∧ w'.cell? ⟨w.heap.size, 1, none⟩ = some (.slice pE nE cE) ∧ w'.cell? ⟨w.heap.size, 2, none⟩ = some (.slice pA nA cA) ∧ w'.cell? ⟨bC, oC + (s + 1), none⟩ = some (.int .i64 y)) (by kernel_rfl) ⟨by simpa using m0, by simpa using m1, by simpa using m2, by simpa using c1⟩ (fun hH => ?_)
              refine wpAnyT_takeV (i := 0) (v := ?_) rfl (by kernel_rfl) (by kernel_rfl) (by kernel_rfl) (by decide) (fun _ _ _ h => h) (Or.inl ⟨by rfl, ?_⟩) (by assumption) ?_
              rotate_left
              · (intro w hSw; (try dsimp only at hSw); go_simp; (try with_reducible rfl))
              (try simp only [Act.put, List.setIfInBounds_toArray, List.set_cons_zero, List.set_cons_succ])
              refine wpAnyT_takeV (i := 1) (v := ?_) rfl (by kernel_rfl) (by kernel_rfl) (by kernel_rfl) (by decide) (fun _ _ _ h => h) (Or.inl ⟨by rfl, ?_⟩) (by assumption) ?_
              rotate_left
              · (intro w hSw; (try dsimp only at hSw); go_simp; (try with_reducible rfl))
              (try simp only [Act.put, List.setIfInBounds_toArray, List.set_cons_zero, List.set_cons_succ])
              refine wpAnyT_takeV (i := 2) (v := ?_) rfl (by kernel_rfl) (by kernel_rfl) (by kernel_rfl) (by decide) (fun _ _ _ h => h) (Or.inl ⟨by rfl, ?_⟩) (by assumption) ?_
              rotate_left
              · (intro w hSw; (try dsimp only at hSw); go_simp; (try with_reducible rfl))
              (try simp only [Act.put, List.setIfInBounds_toArray, List.set_cons_zero, List.set_cons_succ])
              refine wpAnyT_takeV (i := 3) (v := ?_) rfl (by kernel_rfl) (by kernel_rfl) (by kernel_rfl) (by decide) (fun _ _ _ h => h) (Or.inl ⟨by rfl, ?_⟩) (by assumption) ?_
              rotate_left
              · (intro w hSw; (try dsimp only at hSw); go_simp; (try with_reducible rfl))
              (try simp only [Act.put, List.setIfInBounds_toArray, List.set_cons_zero, List.set_cons_succ])
              refine wpAnyT_takeV (i := 4) (v := ?_) rfl (by kernel_rfl) (by kernel_rfl) (by kernel_rfl) (by decide) (fun _ _ _ h => h) (Or.inl ⟨by rfl, ?_⟩) (by assumption) ?_
              rotate_left
              · (intro w hSw; (try dsimp only at hSw); go_simp; (try with_reducible rfl))
              (try simp only [Act.put, List.setIfInBounds_toArray, List.set_cons_zero, List.set_cons_succ])
              refine wpAnyT_takeV (i := 5) (v := ?_) rfl (by kernel_rfl) (by kernel_rfl) (by kernel_rfl) (by decide) (fun _ _ _ h => h) (Or.inl ⟨by rfl, ?_⟩) (by assumption) ?_
              rotate_left
              · (intro w hSw; (try dsimp only at hSw); go_simp; (try with_reducible rfl))
              (try simp only [Act.put, List.setIfInBounds_toArray, List.set_cons_zero, List.set_cons_succ])
              refine wpAnyT_takeV (i := 6) (v := ?_) rfl (by kernel_rfl) (by kernel_rfl) (by kernel_rfl) (by decide) (fun _ _ _ h => h) (Or.inl ⟨by rfl, ?_⟩) (by assumption) ?_
              rotate_left
              · (intro w hSw; (try dsimp only at hSw); go_simp; (try with_reducible rfl))
              (try simp only [Act.put, List.setIfInBounds_toArray, List.set_cons_zero, List.set_cons_succ])
              refine wpAnyT_takeV (i := 8) (v := ?_) rfl (by kernel_rfl) (by kernel_rfl) (by kernel_rfl) (by decide) (fun _ _ _ h => h) (Or.inl ⟨by rfl, ?_⟩) (by assumption) ?_
              rotate_left
              · (intro w hSw; (try dsimp only at hSw); go_simp; (try with_reducible rfl))
              (try simp only [Act.put, List.setIfInBounds_toArray, List.set_cons_zero, List.set_cons_succ])
              obtain ⟨wk, hwk⟩ : ∃ wk, w5.drew = wk := ⟨_, rfl⟩
              have Hcur : Hid (Grew w5 wk) := Lib.hid (by rw [← hwk]; exact (Grew.refl w5).drew)
              rw [hwk] at hH ⊢
              clear hwk m0 m1 m2 c1
              have m0 := hH.1
              have m1 := hH.2.1
              have m2 := hH.2.2.1
              have c1 := hH.2.2.2
              have lC6 := Nat.lt_of_lt_of_le lC5 Hcur.out.below.size
              have hlw6 := Nat.lt_of_lt_of_le hlw5 Hcur.out.below.size
              refine wpAnyT_all (rs := [7]) (by kernel_rfl) (by simp) (AllT.consL (i := 7) rfl (fun K hK => ?_) AllT.nil)
              go_simp
              refine hK.out _ _ ?_ (fun hH => ?_)
              · (first | (simp [go_sem, ↓IntWalk.iteOmega, *]; done) | go_keep)
              clear hK K
              (try simp only [Act.put, List.setIfInBounds_toArray, List.set_cons_zero, List.set_cons_succ])
              refine wpAnyT_all (rs := [9]) (by kernel_rfl) (by simp) (AllT.consL (i := 9) rfl (fun K hK => ?_) AllT.nil)
              refine step_append_owns rfl _ _ 26 rfl 3 1 8 (.int .i64 0) Tryd.underlying26 Tryd.infoInt rfl (by decide) (wk.heap.size) _ 0 _ _ _ ((Owns.nil wk wk.heap.size).made (Nat.le_refl _) #[.int .i64 y] 3 1 1 wk.heap.size rfl (by decide) rfl) rfl rfl _ _ _ rfl (intVs (ord.reverse)) (by rw [intVs_length, Nat.mul_one]; try first | rfl | assumption | (simp; done) | omega) (Hnil.out) (Ints.newsO (HIg.out.grew (Hg5.out.trans (Hcur.out.trans (by (repeat (first | exact gR _ | refine gO ?_ _ | refine gA ?_ _ | refine gD ?_ | refine gN ?_ _))))))) (intVs_one _) (by simp only [maxLen]; omega) (by omega) (by first | rfl | omega | (simp <;> omega)) ?_; intro v1 w1 hO1 hg1 hb1 hv1; have Hg6 := Lib.hid (Grew.grownBy (w0 := wk) (show Grew wk _ by (repeat (first | exact gR _ | refine gO ?_ _ | refine gA ?_ _ | refine gD ?_ | refine gN ?_ _))) hg1 (fun g h => by have := hb1 g h; omega)); have HO6 := Lib.hid hO1; clear hO1 hg1 hb1 hv1
              have h5 := HO6.out
              rw [List.set_cons_zero, show #[Value.int .i64 (y : Int)].toList ++ intVs ord.reverse = intVs ((y : Int) :: ord.reverse) by rfl] at h5
              obtain ⟨q5, cap5, e1, e2, e3, e4, e5, e6⟩ := own_ints h5 (k := 0) rfl (fun z hz => by
                rcases List.mem_cons.1 hz with rfl | hz
                · omega
                · have := HoM.out z (List.mem_reverse.1 hz); omega)
              subst e1
              have H6 := Lib.hid (e6 w1 (Grew.refl _))
              have q0 := Hg6.out.cellEq m0
              have q1 := Hg6.out.cellEq m1
              have q2 := Hg6.out.cellEq m2
              have q3 := Hg6.out.cellEq c1
              refine hK.out _ _ ⟨q0, q1, q2, q3⟩ (fun hH => ?_)
              clear hK K h5 e6 e5 HO6
              (try simp only [Act.put, List.setIfInBounds_toArray, List.set_cons_zero, List.set_cons_succ])
              refine wpAnyT_all (rs := [10]) (by kernel_rfl) (by simp) (AllT.consL (i := 10) rfl (fun K hK => ?_) AllT.nil)
              go_simp; go_wp2_with (go_at_call 50; apply Calls.mono; (with_reducible exact Hun.out _ _ _ (Hg5.out.trans (Hcur.out.trans (Hg6.out.trans (by (repeat (first | exact gR _ | refine gO ?_ _ | refine gA ?_ _ | refine gD ?_ | refine gN ?_ _)))))) (H6.out.grew (by (repeat (first | exact gR _ | refine gO ?_ _ | refine gA ?_ _ | refine gD ?_ | refine gN ?_ _))))); rintro e w9 ⟨hg9, q9, cap9, rfl, hI9, hc91, hc92⟩; have hgx := Grew.trans (show Grew w1 _ by (repeat (first | exact gR _ | refine gO ?_ _ | refine gA ?_ _ | refine gD ?_ | refine gN ?_ _))) hg9; have Hg9 := Lib.hid (Hg5.out.trans (Hcur.out.trans (Hg6.out.trans hgx))); have HI9 := Lib.hid hI9; have q0 := hgx.cellEq q0; have q1 := hgx.cellEq q1; have q2 := hgx.cellEq q2; have q3 := hgx.cellEq q3; clear hgx hg9 hI9)
              refine hK.out _ _ ?_ (fun hH => ?_)
              · (first | (simp [go_sem, ↓IntWalk.iteOmega, *]; done) | go_keep)
              clear hK K
              (try simp only [Act.put, List.setIfInBounds_toArray, List.set_cons_zero, List.set_cons_succ])
              refine wpAnyT_all (rs := [11]) (by kernel_rfl) (by simp) (AllT.consL (i := 11) rfl (fun K hK => ?_) AllT.nil)
              go_simp
              refine hK.out _ _ ?_ (fun hH => ?_)
              · (first | (simp [go_sem, ↓IntWalk.iteOmega, *]; done) | go_keep)
              clear hK K
              (try simp only [Act.put, List.setIfInBounds_toArray, List.set_cons_zero, List.set_cons_succ])
              refine wpAnyT_done (by kernel_rfl) ?_ _
              have lC9 := Nat.lt_of_lt_of_le lC Hg9.out.below.size
              have HCl : Hid (C'.length ≤ 100) := Lib.hid (by have := (stt_len HT.out Hsn.out).1; have := HnA.out; omega)
              go_wp2_with ((at_builtin; refine wp_append_owns rfl _ _ 26 rfl 3 1 8 (.int .i64 0) Tryd.underlying26 Tryd.infoInt rfl (by decide) (w9.heap.size) _ 0 _ _ _ ((Owns.nil w9 w9.heap.size).made (Nat.le_refl _) #[.int .i64 y] 3 1 1 w9.heap.size rfl (by decide) rfl) rfl rfl _ _ _ rfl (intVs (ord.reverse)) (by rw [intVs_length, Nat.mul_one]; try first | rfl | assumption | (simp; done) | omega) (Hnil.out) (Ints.newsO (HIg.out.grew (Hg9.out.trans (by (repeat (first | exact gR _ | refine gO ?_ _ | refine gA ?_ _ | refine gD ?_ | refine gN ?_ _)))))) (intVs_one _) (by simp only [maxLen]; omega) (by omega) (by first | rfl | omega | (simp <;> omega)) ?_; intro v1 w1 hO1 hg1 hb1 hv1; have Hg10 := Lib.hid (Grew.grownBy (w0 := w9) (show Grew w9 _ by (repeat (first | exact gR _ | refine gO ?_ _ | refine gA ?_ _ | refine gD ?_ | refine gN ?_ _))) hg1 (fun g h => by have := hb1 g h; omega)); have HO10 := Lib.hid hO1; clear hO1 hg1 hb1 hv1))
              have h5 := HO10.out
              rw [List.set_cons_zero, show #[Value.int .i64 (y : Int)].toList ++ intVs ord.reverse = intVs ((y : Int) :: ord.reverse) by rfl] at h5
              obtain ⟨q7, cap7, f1, f2, f3, f4, f5, f6⟩ := own_ints h5 (k := 0) rfl (fun z hz => by
                rcases List.mem_cons.1 hz with rfl | hz
                · omega
                · have := HoM.out z (List.mem_reverse.1 hz); omega)
              have hq7 : q7 = none → False := fun e => by
                subst e
                subst f1
                rcases (h5.get (k := 0) rfl).2 with ⟨a1, a2⟩ | ⟨g, cc, a1, _⟩
                · omega
                · cases a1
              subst f1
              have H7 := Lib.hid (f6 _ (Grew.refl _))
              have Hq7 := Lib.hid hq7
              have hrv : (ord ++ [(y : Int)]).reverse = (y : Int) :: ord.reverse := by simp
              have Hrv := Lib.hid hrv
              have Hol : Hid ((ord ++ [(y : Int)]).length = 1 + l) := Lib.hid (by rw [List.length_append, List.length_singleton, Hl.out, Nat.add_comm])
              clear h5 f6 f5 f2 HO10 hq7 hrv e2
              obtain ⟨k', rfl⟩ : ∃ k', gk = k' + 1 := ⟨gk - 1, by omega⟩
              go_roundg k'
              case rel => exact ⟨C', ord ++ [(y : Int)], by rw [Hol.out]; omega, Hsn.out, Hg.out.trans (Hg9.out.trans (Hg10.out.trans (by (repeat (first | exact gR _ | refine gO ?_ _ | refine gA ?_ _ | refine gD ?_ | refine gN ?_ _))))), ⟨q9, cap9, rfl, HI9.out.grew (Hg10.out.trans (by (repeat (first | exact gR _ | refine gO ?_ _ | refine gA ?_ _ | refine gD ?_ | refine gN ?_ _)))), hc91, hc92⟩, q7, cap7, by rw [Hol.out], by rw [Hrv.out]; exact H7.out.grew (by (repeat (first | exact gR _ | refine gO ?_ _ | refine gA ?_ _ | refine gD ?_ | refine gN ?_ _))), fun e => (Hq7.out e).elim⟩
              case measure => omega
end Go.Proofs.YtlealdicoceekaaDoor

/- Build of the reference. -/
namespace Go.Proofs.YtlealdicoceekaaDoor
open Go.RowKit
attribute [local go_sem ↓] Go.wp_at_zero Go.wp_at_succ

theorem Ints.two {w : World} {b : Nat} {x y : Int} (h0 : w.cell? ⟨b, 0, none⟩ = some (.int .i64 x)) (h1 : w.cell? ⟨b, 1, none⟩ = some (.int .i64 y)) (hx : -9223372036854775808 ≤ x ∧ x ≤ 9223372036854775807) (hy : -9223372036854775808 ≤ y ∧ y ≤ 9223372036854775807) : Ints w (some ⟨b, 0, none⟩) [x, y] := by
  refine ⟨by simp, fun z hz => ?_, b, 0, fun _ => ⟨rfl, World.block_lt_of_cell? w _ h0⟩, fun i hi => ?_⟩
  · rcases List.mem_cons.1 hz with rfl | hz
    · exact hx
    · rw [List.mem_singleton.1 hz]; exact hy
  · match i, hi with
    | 0, _ => simpa [ge] using h0
    | 1, _ => simpa [ge] using h1

end Go.Proofs.YtlealdicoceekaaDoor

/- Lists of points, few: the law's small functions. -/
namespace Go.Proofs.YtlealdicoceekaaDoor
open Go.RowKit
attribute [local go_sem ↓] Go.wp_at_zero Go.wp_at_succ

/-- Equality of points, as a word that the walk does not open. -/
def eqb (a b c d : Int) : Bool := a == c && b == d
theorem eq_pt (a b c d : Int) (w : World) : (Op.equalIn 10000 43 (.agg #[.int .i64 a, .int .i64 b]) (.agg #[.int .i64 c, .int .i64 d])).run Tryd.prog w = .ok (eqb a b c d) w := by
  have hS : Tryd.prog.underlying 43 = some (.struct (Tryd.prog.fieldsOf 43)) := by kernel_rfl
  rw [show (10000 : Nat) = 9999 + 1 from rfl, run_equalIn_agg w 9999 43 _ _ hS (by kernel_rfl)]
  simp only [Program.fieldsOf, Tryd.underlying43, eqb]
  have u3 := Tryd.underlying3
  go_simp
  by_cases h1 : a = c <;> by_cases h2 : b = d <;> simp [h1, h2]
@[go_sem] theorem guard_pt (op : BinOp) (x y : Operand) (xs ys : Array Value) (w : World) : (eqGuard op 43 x y (.agg xs) (.agg ys)).run Tryd.prog w = .ok () w := run_eqGuard_agg w op _ x y xs ys (by kernel_rfl)
@[go_sem ↓] theorem neq_pt (a b c d : Int) (w : World) : (binOp .neq 43 (.agg #[.int .i64 a, .int .i64 b]) (.agg #[.int .i64 c, .int .i64 d])).run Tryd.prog w = .ok (.bool (!(eqb a b c d))) w := by
  rw [run_neq_struct, eq_pt]
  rfl
theorem eqb_pt (p q : Int × Int) : eqb p.1 p.2 q.1 q.2 = decide (p = q) := by
  obtain ⟨a, b⟩ := p
  obtain ⟨c, d⟩ := q
  unfold eqb
  by_cases h1 : a = c <;> by_cases h2 : b = d <;> simp [h1, h2]
theorem eqb_yes {p q : Int × Int} (h : p = q) : eqb p.1 p.2 q.1 q.2 = true := by rw [eqb_pt]; exact decide_eq_true h
theorem eqb_no {p q : Int × Int} (h : p ≠ q) : eqb p.1 p.2 q.1 q.2 = false := by rw [eqb_pt]; exact decide_eq_false h
theorem prs_ext {A B : List (Int × Int)} (h : A.length = B.length) (k : ∀ i, i < A.length → pr A i = pr B i) : A = B := by
  refine List.ext_getElem h fun i h1 h2 => ?_
  rw [← pr_eq A h1, ← pr_eq B h2]
  exact k i h1

set_option maxHeartbeats 2000000 in
theorem points_l (p q : Option Addr) (n k c d : Nat) (A B : List (Int × Int)) (w : World) (hP : Prs w p A) (hQ : Prs w q B) (hn : A.length = n) (hk : B.length = k) :
    Calls Tryd.prog 19 #[.slice p n c, .slice q k d] w fun e w' => e = .returned (.bool (decide (A = B))) ∧ Grew w w' := by
  subst hn hk
  by_cases hl : A.length = B.length
  case neg =>
    have Hf : Hid (decide (A = B) = false) := Lib.hid (decide_eq_false fun h => hl (by rw [h]))
    have hl' : ((A.length : Int) != (B.length : Int)) = true := by rw [bne_iff_ne]; omega
    clear hl hP hQ
    go_enter Tryd.func19, Tryd.ntmps19
    go_wp2
    go_ret
    exact ⟨by rw [Hf.out]; rfl, Grew.refl _⟩
  have hmx := hP.1
  have HP := Lib.hid hP
  have HQ := Lib.hid hQ
  have Hl := Lib.hid hl
  obtain ⟨L, hL⟩ : ∃ L, A.length = L := ⟨_, rfl⟩
  have hLB : B.length = L := by omega
  have HL := Lib.hid hL
  have HLB := Lib.hid hLB
  rw [hL] at hmx
  rw [hL, hLB]
  clear hP hQ hl hL hLB
  go_enter Tryd.func19, Tryd.ntmps19
  go_wp2
  go_loopw [5] (fun i wr => ∃ j : Nat, j ≤ L ∧ i = .int .i64 j ∧ (∀ t, t < j → pr A t = pr B t) ∧ Grew w wr) (fun i _ => L - (intOf i).toNat)
  case atStart => exact ⟨0, Nat.zero_le _, rfl, fun t ht => absurd ht (Nat.not_lt_zero _), Grew.refl _⟩
  case round =>
    obtain ⟨j, hj, rfl, hall, hg⟩ := hrel
    have Hall := Lib.hid hall
    have Hg := Lib.hid hg
    clear hall hg
    by_cases hlt : j < L
    · obtain ⟨b, o, rfl, hb, hc⟩ := HP.out.cells (by rw [HL.out]; omega)
      obtain ⟨b', o', rfl, hb', hc'⟩ := HQ.out.cells (by rw [HLB.out]; omega)
      obtain ⟨c1, c2⟩ := hc wr Hg.out j (by rw [HL.out]; exact hlt)
      obtain ⟨d1, d2⟩ := hc' wr Hg.out j (by rw [HLB.out]; exact hlt)
      have hsz := Hg.out.below.size
      clear hc hc'
      go_upto_region 6 with fail
      refine wp_region_over (by kernel_rfl) (by kernel_rfl) ?_; (repeat (go_big_quiet_step (fail))); refine wpQuiet_nil ?_; rintro _ ⟨x, rfl⟩
      by_cases he : pr A j = pr B j
      · have he' := eqb_yes he
        have He := Lib.hid he
        rw [he']
        clear he
        go_wp2
        go_roundw
        case rel => exact ⟨j + 1, by omega, by go_num, (fun t ht => by
          by_cases e : t = j
          · subst e; exact He.out
          · exact Hall.out t (by omega)), Hg.out.trans (by (repeat (first | exact gR _ | refine gO ?_ _ | refine gA ?_ _ | refine gD ?_ | refine gN ?_ _)))⟩
        case measure => simp [intOf]; omega
      · have he' := eqb_no he
        have Hf : Hid (decide (A = B) = false) := Lib.hid (decide_eq_false fun h => he (by rw [h]))
        rw [he']
        clear he
        go_wp2
        go_ret
        exact ⟨by rw [Hf.out]; rfl, Hg.out.trans (by (repeat (first | exact gR _ | refine gO ?_ _ | refine gA ?_ _ | refine gD ?_ | refine gN ?_ _)))⟩
    · have Hf : Hid (decide (A = B) = true) := Lib.hid (decide_eq_true (prs_ext Hl.out fun i hi => Hall.out i (by rw [HL.out] at hi; omega)))
      go_wp2
      go_ret
      exact ⟨by rw [Hf.out]; rfl, Hg.out⟩
theorem points_eq {p q : Option Addr} {n c d : Nat} {A : List (Int × Int)} {w : World} (hn : A.length = n) (hP : Prs w p A) (hQ : Prs w q A) :
    Calls Tryd.prog 19 #[.slice p n c, .slice q n d] w fun e w' => e = .returned (.bool true) ∧ Grew w w' := by
  have h := points_l p q n n c d A A w hP hQ hn hn
  rw [decide_eq_true rfl] at h
  exact h
theorem same_eq {p q : Option Addr} {n c d : Nat} {A : List Int} {w : World} (hn : A.length = n) (hP : Ints w p A) (hQ : Ints w q A) :
    Calls Tryd.prog 12 #[.slice p n c, .slice q n d] w fun e w' => e = .returned (.bool true) ∧ Grew w w' := by
  have h := same_l p q n n c d A A w hP hQ hn hn
  rw [decide_eq_true rfl] at h
  exact h

theorem few_in {w : World} {pE pA : Option Addr} {cE : Nat} {E : List (Int × Int)} {A : List (List Int)} (h : fewB E A = true) (hE : Prs w pE E) (hA : Mat w pA A) (c1 : E.length ≤ cE) (c2 : cE ≤ maxLen) : RotIn w pE pA cE E A := by
  have hR := few_at h hE hA
  exact ⟨hR.aw, Or.inr hR.r1, c1, c2⟩
end Go.Proofs.YtlealdicoceekaaDoor

/- The chapter's example: awake. -/
namespace Go.Proofs.YtlealdicoceekaaDoor
open Go.RowKit
attribute [local go_sem ↓] Go.wp_at_zero Go.wp_at_succ

def E4 : List (Int × Int) := [(0, 1), (0, 2), (0, 3), (1, 2), (2, 3), (3, 1)]
def A4 : List (List Int) := [[0, 2, 4], [1, 11, 6], [3, 7, 8], [5, 9, 10]]
def L4 : List Int := [-1, -1, -1, 0, -1, -1, -1, 1, 2, -1, -1, -1]
theorem vRot4 : vRot 4 E4 A4 := by
  refine ⟨by decide, by decide, by decide, rfl, fun i hi => ?_, ?_, ?_, ?_⟩
  · have : i = 0 ∨ i = 1 ∨ i = 2 ∨ i = 3 ∨ i = 4 ∨ i = 5 := by simp [E4] at hi; omega
    rcases this with rfl | rfl | rfl | rfl | rfl | rfl <;> (unfold okEdge; decide +kernel)
  · show ∀ q ∈ pre A4 A4.length, 0 ≤ q.2 ∧ q.2 < 2 * (E4.length : Int) ∧ tailE E4 q.2 = q.1
    decide +kernel
  · decide +kernel
  · decide +kernel
theorem v4B : vRotB 4 E4 A4 = true := vRotB_iff.2 vRot4
theorem fc4 : facesO 4 E4 A4 = [[0, 11, 5], [1, 2, 7], [3, 4, 9], [6, 8, 10]] := by unfold facesO; rw [if_pos v4B]; decide +kernel
theorem cntP_not {p : Nat → Prop} {n : Nat} (h : ¬ p n) : cntP p (n + 1) = cntP p n := by simp only [cntP]; rw [if_neg h]; rfl
theorem cn4 : cntL E4 A4.length = 1 := by
  refine (one_comp (by decide)).2 fun v hv => ?_
  have : v = 0 ∨ v = 1 ∨ v = 2 ∨ v = 3 := by simp [A4] at hv; omega
  rcases this with rfl | rfl | rfl | rfl
  · exact Cn.refl _
  · exact (Cn.refl _).step ⟨0, by decide, Or.inl ⟨rfl, rfl⟩⟩
  · exact (Cn.refl _).step ⟨1, by decide, Or.inl ⟨rfl, rfl⟩⟩
  · exact (Cn.refl _).step ⟨2, by decide, Or.inl ⟨rfl, rfl⟩⟩
theorem gn4 : genusF 4 E4 A4 = 0 := by
  unfold genusF
  have h2 : cntP (fun u => (rowOf A4 u).length = 0) A4.length = 0 := by
    show cntP _ 4 = 0
    rw [cntP_not (by decide), cntP_not (by decide), cntP_not (by decide), cntP_not (by decide)]
    rfl
  rw [if_pos v4B, fc4, cn4, h2]
  decide
theorem tg4 : trgB 4 E4 A4 = true := by
  unfold trgB chkC connB
  rw [if_pos gn4, cn4, fc4, show simB E4 = true by decide +kernel]
  decide
theorem tl4 (d : Int) (h0 : 0 ≤ d) (h1 : d < 12) : tailF 4 E4 A4 d = tailE E4 d := by unfold tailF; rw [if_pos ⟨v4B, h0, h1⟩]
theorem nx4 (d : Int) (h0 : 0 ≤ d) (h1 : d < 12) : nextF 4 E4 A4 d = sucF A4 (oth d) := by unfold nextF; rw [if_pos ⟨v4B, h0, h1⟩]
theorem th4 : thirdF 4 E4 A4 = 3 := by
  unfold thirdF
  rw [nx4 0 (by decide) (by decide), show sucF A4 (oth 0) = 11 by decide +kernel, nx4 11 (by decide) (by decide), show sucF A4 (oth 11) = 5 by decide +kernel, tl4 5 (by decide) (by decide)]
  decide +kernel
theorem t04 : tailF 4 E4 A4 0 = 0 ∧ tailF 4 E4 A4 1 = 1 := ⟨by rw [tl4 0 (by decide) (by decide)]; decide +kernel, by rw [tl4 1 (by decide) (by decide)]; decide +kernel⟩
theorem hd4 (O : List Int) : headB 4 E4 A4 O = (decide ((O.length : Int) = 4) && decide (ge O 0 = 0) && decide (ge O 1 = 1) && decide (ge O 3 = 3)) := by
  unfold headB
  rw [t04.1, t04.2, th4]
  rfl
theorem ck4 : chkO 4 E4 A4 [0, 1, 2, 3] = true := by
  unfold chkO
  rw [tg4, hd4]
  decide +kernel
theorem ck4n : chkO 4 E4 A4 [0, 1, 3, 2] = false := by
  unfold chkO
  rw [tg4, hd4]
  decide +kernel
theorem bu4 : buildRes 4 E4 A4 [0, 1, 2, 3] = (L4, 0) := by
  unfold buildRes
  rw [tg4, ck4]
  decide +kernel
theorem bu4n : buildRes 4 E4 A4 [0, 1, 3, 2] = ([], 1) := by
  unfold buildRes
  rw [tg4, ck4n]
  decide +kernel
theorem ft4 : fitB E4 A4 L4 = true := by decide +kernel
theorem pa4 : parRes 4 E4 A4 L4 2 = ([-1, -1, 3, -1], 0) := by
  unfold parRes
  rw [tg4, ft4]
  decide +kernel
open Classical in
theorem reg_one {R : Int → Int → Prop} {F : Nat} {a : Nat} (h : ∀ f g, ¬ R f g) (ha : a < F) : regN R F a = 1 := by
  have hr : ∀ f, Rc R a f ↔ f = a := fun f => ⟨fun k => by
    cases k with
    | refl => rfl
    | step _ k => exact absurd k (h _ _), fun e => by rw [e]; exact Rc.refl⟩
  unfold regN
  have : (idL F).filter (fun f => decide (Rc R a f)) = [(a : Int)] := by
    refine list_one ((idL_nodup F).sublist List.filter_sublist) (List.mem_filter.2 ⟨mem_idL.2 ⟨by omega, by omega⟩, by simpa using Rc.refl⟩) fun x hx => ?_
    exact (hr x).1 (of_decide_eq_true (List.mem_filter.1 hx).2)
  rw [this]
  rfl
theorem rf4 (d : Nat) (hd : d < 12) : regF 4 E4 A4 L4 2 (d : Int) = 1 := by
  unfold regF
  obtain ⟨h0, h1, h2⟩ := face_range vRot4 (d := d) hd
  rw [Int.toNat_natCast]
  obtain ⟨a, ha⟩ : ∃ a : Nat, ge (faceL 4 E4 A4) d = (a : Int) := ⟨(ge (faceL 4 E4 A4) d).toNat, by omega⟩
  rw [ha] at h1 ⊢
  refine reg_one (fun f g ⟨e, he, _, hw, _⟩ => hw ?_) (by omega)
  have key : ∀ e : Nat, e < 12 → ((e : Int) / 2) ∈ wallF E4 A4 L4 2 := by decide +kernel
  exact key e he
theorem dr4 : drawRes 4 E4 A4 L4 = ([(0, 0), (3, 0), (1, 1), (0, 3)], 0) := by
  unfold drawRes drawL
  rw [tg4, ft4, if_neg (by decide), if_neg (by decide)]
  have hr : rts E4 A4 = [0, 1, 3] := by decide +kernel
  have h2 : ptF 4 E4 A4 L4 2 = (1, 1) := by
    unfold ptF
    rw [hr, if_neg (by decide), show oth (nxF A4 (nxF A4 0)) = ((4 : Nat) : Int) by decide +kernel, rf4 4 (by decide), show (1 : Int) = ((1 : Nat) : Int) from rfl, rf4 1 (by decide)]
  show ([ptF 4 E4 A4 L4 0, ptF 4 E4 A4 L4 1, ptF 4 E4 A4 L4 2, ptF 4 E4 A4 L4 3], (0 : Int)) = _
  rw [h2]
  unfold ptF
  rw [hr]
  decide
theorem ac4 : trgB 4 E4 A4 = true → fitB E4 A4 L4 = true → Acy E4 A4 L4 := fun h1 h2 => sch_acy h1 (fit_sch h1 h2)

/-! ### In memory -/
theorem Prs.made (W : World) (t : TypeId) (E : List (Int × Int)) (cs : Array Value) (b : Nat) (hcs : cs.toList = prVs E) (hb : b = W.heap.size) (hl : E.length ≤ 1000) : Prs (W.alloc (.cells cs t)) (some ⟨b, 0, none⟩) E := by
  subst hb
  refine ⟨by omega, W.heap.size, 0, fun _ => ⟨rfl, by simp⟩, fun i hi => ?_⟩
  obtain ⟨g1, g2⟩ := prVs_get E i hi
  rw [cell?_alloc_if, if_neg (by omega), if_pos rfl, cell?_alloc_if, if_neg (by omega), if_pos rfl, Nat.zero_add, ← Array.getElem?_toList, ← Array.getElem?_toList, hcs]
  exact ⟨g1, g2⟩
theorem Tryd.infoRot : (Tryd.prog.info? 25).map (fun i => (i.zero, i.size, i.bytes)) = some (some (.agg #[.int .i64 0, .slice none 0 0, .slice none 0 0]), 3, 56) := by kernel_rfl
theorem ret_rot0 {fn : Func} {R : Ending → World → Prop} {a : Act} {w : World} (h : fn.results = #[.cell 0 25]) {g : Nat} {t : TypeId} {fr : Nat × Nat} {v0 v1 v2 : Value}
    (hp : a.tmps.getD 0 undef = .pointer (some ⟨g, 0, none⟩)) (hg : w.heap[g]? = some (.cells #[v0, v1, v2] t fr)) (hd : a.defers = [])
    (hR : R (.returned (.agg #[v0, v1, v2])) w) : bodyPost Tryd.prog fn R .ret a w := by
  obtain ⟨i0, hi, _, hz1, _⟩ := info_parts Tryd.infoRot
  exact bodyPost_ret (results_cell_row h a.tmps w g t #[v0, v1, v2] fr _ hp hg Tryd.underlying25 rfl (by simp [hi, hz1])) hd hR
def mat4 (w : World) (tE ti ts : TypeId) (cE c1 c2 c3 c4 : Array Value) (b1 b2 b3 b4 n1 n2 n3 n4 : Nat) : World :=
  (((((w.alloc (.cells cE tE)).alloc (.cells c1 ti)).alloc (.cells c2 ti)).alloc (.cells c3 ti)).alloc (.cells c4 ti)).alloc (.cells #[.slice (some ⟨b1, 0, none⟩) n1 n1, .slice (some ⟨b2, 0, none⟩) n2 n2, .slice (some ⟨b3, 0, none⟩) n3 n3, .slice (some ⟨b4, 0, none⟩) n4 n4] ts)
theorem mat4_at (w : World) (tE ti ts : TypeId) (cE c1 c2 c3 c4 : Array Value) (b0 b1 b2 b3 b4 b5 n1 n2 n3 n4 : Nat) (E : List (Int × Int)) (r1 r2 r3 r4 : List Int) (h0 : b0 = w.heap.size) (h1 : b1 = w.heap.size + 1) (h2 : b2 = w.heap.size + 2) (h3 : b3 = w.heap.size + 3) (h4 : b4 = w.heap.size + 4) (h5 : b5 = w.heap.size + 5)
    (hE : cE.toList = prVs E) (e1 : c1.toList = r1.map (Value.int .i64)) (e2 : c2.toList = r2.map (Value.int .i64)) (e3 : c3.toList = r3.map (Value.int .i64)) (e4 : c4.toList = r4.map (Value.int .i64)) (l1 : r1.length = n1) (l2 : r2.length = n2) (l3 : r3.length = n3) (l4 : r4.length = n4)
    (hle : E.length ≤ 100) (hl1 : n1 ≤ 100) (hl2 : n2 ≤ 100) (hl3 : n3 ≤ 100) (hl4 : n4 ≤ 100) (hb : ∀ r ∈ [r1, r2, r3, r4], ∀ x ∈ r, -9223372036854775808 ≤ x ∧ x ≤ 9223372036854775807) :
    RotAt (mat4 w tE ti ts cE c1 c2 c3 c4 b1 b2 b3 b4 n1 n2 n3 n4) (some ⟨b0, 0, none⟩) (some ⟨b5, 0, none⟩) E [r1, r2, r3, r4] ∧ Grew w (mat4 w tE ti ts cE c1 c2 c3 c4 b1 b2 b3 b4 n1 n2 n3 n4) := by
  subst h0 h1 h2 h3 h4 h5 l1 l2 l3 l4
  have i1 := Ints.made (w.alloc (.cells cE tE)) ti r1 c1 (w.heap.size + 1) e1 (by simp) (by omega) (hb r1 (by simp))
  have i2 := Ints.made ((w.alloc (.cells cE tE)).alloc (.cells c1 ti)) ti r2 c2 (w.heap.size + 2) e2 (by simp) (by omega) (hb r2 (by simp))
  have i3 := Ints.made (((w.alloc (.cells cE tE)).alloc (.cells c1 ti)).alloc (.cells c2 ti)) ti r3 c3 (w.heap.size + 3) e3 (by simp) (by omega) (hb r3 (by simp))
  have i4 := Ints.made ((((w.alloc (.cells cE tE)).alloc (.cells c1 ti)).alloc (.cells c2 ti)).alloc (.cells c3 ti)) ti r4 c4 (w.heap.size + 4) e4 (by simp) (by omega) (hb r4 (by simp))
  refine ⟨⟨(Prs.made w tE E cE w.heap.size hE rfl (by omega)).grew (by unfold mat4; (repeat (first | exact gR _ | refine gO ?_ _ | refine gA ?_ _ | refine gD ?_ | refine gN ?_ _))), ?_, hle, by simp, fun v hv => ?_⟩, by unfold mat4; (repeat (first | exact gR _ | refine gO ?_ _ | refine gA ?_ _ | refine gD ?_ | refine gN ?_ _))⟩
  · refine Mat.made _ _ _ _ _ (fun u => if u = 0 then some ⟨w.heap.size + 1, 0, none⟩ else if u = 1 then some ⟨w.heap.size + 2, 0, none⟩ else if u = 2 then some ⟨w.heap.size + 3, 0, none⟩ else some ⟨w.heap.size + 4, 0, none⟩) (fun u => if u = 0 then r1.length else if u = 1 then r2.length else if u = 2 then r3.length else r4.length) (by simp) (by simp) (fun u hu => ?_)
    match u, hu with
    | 0, _ => exact ⟨rfl, i1.grew (by (repeat (first | exact gR _ | refine gO ?_ _ | refine gA ?_ _ | refine gD ?_ | refine gN ?_ _)))⟩
    | 1, _ => exact ⟨rfl, i2.grew (by (repeat (first | exact gR _ | refine gO ?_ _ | refine gA ?_ _ | refine gD ?_ | refine gN ?_ _)))⟩
    | 2, _ => exact ⟨rfl, i3.grew (by (repeat (first | exact gR _ | refine gO ?_ _ | refine gA ?_ _ | refine gD ?_ | refine gN ?_ _)))⟩
    | 3, _ => exact ⟨rfl, i4.grew (by (repeat (first | exact gR _ | refine gO ?_ _ | refine gA ?_ _ | refine gD ?_ | refine gN ?_ _)))⟩
  · match v, hv with
    | 0, _ => exact hl1
    | 1, _ => exact hl2
    | 2, _ => exact hl3
    | 3, _ => exact hl4

set_option maxRecDepth 8000 in
set_option maxHeartbeats 8000000 in
theorem four_l (w : World) : Calls Tryd.prog 27 #[] w fun e w' => (∃ pE pA, e = .returned (.agg #[.int .i64 4, .slice pE 6 6, .slice pA 4 4]) ∧ RotIn w' pE pA 6 E4 A4) ∧ Grew w w' := by
  go_enter Tryd.func27, Tryd.ntmps27
  go_wp2
  obtain ⟨w1, hw1⟩ : ∃ w1, w.alloc (.cells #[.int .i64 4, .slice (some ⟨w.heap.size + 1, 0, none⟩) 6 6, .slice (some ⟨w.heap.size + 1 + 1 + 1 + 1 + 1 + 1, 0, none⟩) 4 4] 25) = w1 := ⟨_, rfl⟩
  have hs1 : w1.heap.size = w.heap.size + 1 := by rw [← hw1]; simp
  obtain ⟨hR, hG⟩ := mat4_at w1 45 3 26 #[.int .i64 0, .int .i64 1, .int .i64 0, .int .i64 2, .int .i64 0, .int .i64 3, .int .i64 1, .int .i64 2, .int .i64 2, .int .i64 3, .int .i64 3, .int .i64 1] #[.int .i64 0, .int .i64 2, .int .i64 4] #[.int .i64 1, .int .i64 11, .int .i64 6] #[.int .i64 3, .int .i64 7, .int .i64 8] #[.int .i64 5, .int .i64 9, .int .i64 10]
    (w.heap.size + 1) (w.heap.size + 1 + 1) (w.heap.size + 1 + 1 + 1) (w.heap.size + 1 + 1 + 1 + 1) (w.heap.size + 1 + 1 + 1 + 1 + 1) (w.heap.size + 1 + 1 + 1 + 1 + 1 + 1) 3 3 3 3 E4 [0, 2, 4] [1, 11, 6] [3, 7, 8] [5, 9, 10]
    (by omega) (by omega) (by omega) (by omega) (by omega) (by omega) rfl rfl rfl rfl rfl rfl rfl rfl rfl (by decide) (by decide) (by decide) (by decide) (by decide) (by decide)
  have hW : Grew w w1 := by rw [← hw1]; (repeat (first | exact gR _ | refine gO ?_ _ | refine gA ?_ _ | refine gD ?_ | refine gN ?_ _))
  have hb : w1.heap[w.heap.size]? = some (.cells #[.int .i64 4, .slice (some ⟨w.heap.size + 1, 0, none⟩) 6 6, .slice (some ⟨w.heap.size + 1 + 1 + 1 + 1 + 1 + 1, 0, none⟩) 4 4] 25) := by rw [← hw1, heap_alloc_if, if_neg (by omega), if_pos rfl]
  have hb2 := (hG.below.block w.heap.size (by omega)).trans hb
  rw [hw1]
  refine ret_rot0 rfl rfl hb2 rfl ⟨⟨_, _, rfl, ⟨hR.aw, Or.inl (by decide), by decide, by decide⟩⟩, hW.trans hG⟩

def ThreePost (n : Nat) (xs : List Int) (w : World) (e : Ending) (w' : World) : Prop :=
  (∃ q cap, e = .returned (.tuple #[.slice q n cap, .int .i64 0]) ∧ Ints w' q xs) ∧ ∃ x, w' = over w x
section
variable {pE pA : Option Addr} {cE cA : Nat} {w : World}
theorem build4_l {pO : Option Addr} (hR : RotIn w pE pA cE E4 A4) (hL : Lim w) (hO : Ints w pO [0, 1, 2, 3]) : Calls Tryd.prog 10 #[.agg #[.int .i64 4, .slice pE 6 cE, .slice pA 4 cA], .slice pO 4 4] w (ThreePost 12 L4 w) := by
  have h := build_p 4 pE pA pO 6 4 4 cE cA 4 E4 A4 [0, 1, 2, 3] w hR hL hO (by decide) (by decide) (by decide) rfl rfl rfl
  rw [bu4] at h
  exact h.mono fun e w' ⟨hg, q, cap, h1, h2, _⟩ => ⟨⟨q, cap, h1, h2⟩, hg⟩
theorem build4n_l {pO : Option Addr} (hR : RotIn w pE pA cE E4 A4) (hL : Lim w) (hO : Ints w pO [0, 1, 3, 2]) : Calls Tryd.prog 10 #[.agg #[.int .i64 4, .slice pE 6 cE, .slice pA 4 cA], .slice pO 4 4] w fun e w' => (∃ q cap, e = .returned (.tuple #[.slice q 0 cap, .int .i64 1])) ∧ Grew w w' := by
  have h := build_p 4 pE pA pO 6 4 4 cE cA 4 E4 A4 [0, 1, 3, 2] w hR hL hO (by decide) (by decide) (by decide) rfl rfl rfl
  rw [bu4n] at h
  exact h.mono fun e w' ⟨hg, q, cap, h1, h2, _⟩ => ⟨⟨q, cap, h1⟩, hg⟩
theorem par4_l {pL : Option Addr} {cL : Nat} (hR : RotIn w pE pA cE E4 A4) (hL : Lim w) (hI : Ints w pL L4) : Calls Tryd.prog 13 #[.agg #[.int .i64 4, .slice pE 6 cE, .slice pA 4 cA], .slice pL 12 cL, .int .i64 2] w (ThreePost 4 [-1, -1, 3, -1] w) := by
  have h := parents_p 4 pE pA pL 6 4 12 cE cA cL E4 A4 L4 2 w hR hL hI rfl rfl rfl (by decide)
  rw [pa4] at h
  exact h.mono fun e w' ⟨hg, q, cap, h1, h2, _⟩ => ⟨⟨q, cap, h1, h2⟩, hg⟩
theorem check4_l {pL : Option Addr} {cL : Nat} (hR : RotIn w pE pA cE E4 A4) (hL : Lim w) (hI : Ints w pL L4) : Calls Tryd.prog 15 #[.agg #[.int .i64 4, .slice pE 6 cE, .slice pA 4 cA], .slice pL 12 cL] w fun e w' => e = .returned (.bool true) ∧ Grew w w' := by
  have h := check38_p 4 pE pA pL 6 4 12 cE cA cL E4 A4 L4 w hR hL hI rfl rfl rfl (by decide)
  rw [show chk38 4 E4 A4 L4 = true by unfold chk38; rw [tg4, ft4]; rfl] at h
  exact h
theorem draw4_l {pL : Option Addr} {cL : Nat} (hR : RotIn w pE pA cE E4 A4) (hL : Lim w) (hI : Ints w pL L4) : Calls Tryd.prog 17 #[.agg #[.int .i64 4, .slice pE 6 cE, .slice pA 4 cA], .slice pL 12 cL] w fun e w' => (∃ q cap, e = .returned (.tuple #[.slice q 4 cap, .int .i64 0]) ∧ Prs w' q [(0, 0), (3, 0), (1, 1), (0, 3)]) ∧ ∃ x, w' = over w x := by
  have h := draw_p 4 pE pA pL 6 4 12 cE cA cL E4 A4 L4 w hR hL hI rfl rfl rfl (by decide) ac4
  rw [dr4] at h
  exact h.mono fun e w' ⟨hg, q, cap, h1, h2, _⟩ => ⟨⟨q, cap, h1, h2⟩, hg⟩
end
set_option maxRecDepth 8000 in
set_option maxHeartbeats 8000000 in
theorem awake_l (w : World) (hL : Lim w) : Calls Tryd.prog 9 #[] w fun e w' => e = .returned (.bool true) ∧ Grew w w' := by
  have HL := Lib.hid hL
  clear hL
  go_enter Tryd.func9, Tryd.ntmps9
  go_wp2_with (first
    | (go_at_call 27; apply Calls.mono; (with_reducible exact four_l _); rintro e wx ⟨⟨pE, pA, rfl, hRf⟩, x2, rfl⟩; have HRf := Lib.hid hRf; clear hRf)
    | (go_at_call 10; apply Calls.mono; (with_reducible exact build4_l (HRf.out.grew (by (repeat (first | exact gR _ | refine gO ?_ _ | refine gA ?_ _ | refine gD ?_ | refine gN ?_ _)))) (HL.out.grew (by (repeat (first | exact gR _ | refine gO ?_ _ | refine gA ?_ _ | refine gD ?_ | refine gN ?_ _)))) (Ints.made _ _ [0, 1, 2, 3] _ _ rfl (by first | rfl | omega | (simp <;> omega)) (by decide) (by decide))); rintro e wx ⟨⟨ql, cl, rfl, hIl⟩, x3, rfl⟩; have HIl := Lib.hid hIl; clear hIl)
    | (go_at_call 17; apply Calls.mono; (with_reducible exact draw4_l (HRf.out.grew (by (repeat (first | exact gR _ | refine gO ?_ _ | refine gA ?_ _ | refine gD ?_ | refine gN ?_ _)))) (HL.out.grew (by (repeat (first | exact gR _ | refine gO ?_ _ | refine gA ?_ _ | refine gD ?_ | refine gN ?_ _)))) (HIl.out.grew (by (repeat (first | exact gR _ | refine gO ?_ _ | refine gA ?_ _ | refine gD ?_ | refine gN ?_ _))))); rintro e wx ⟨⟨qp, cp, rfl, hPp⟩, x4, rfl⟩; have HPp := Lib.hid hPp; clear hPp)
    | (go_at_call 10; apply Calls.mono; (with_reducible exact build4n_l (HRf.out.grew (by (repeat (first | exact gR _ | refine gO ?_ _ | refine gA ?_ _ | refine gD ?_ | refine gN ?_ _)))) (HL.out.grew (by (repeat (first | exact gR _ | refine gO ?_ _ | refine gA ?_ _ | refine gD ?_ | refine gN ?_ _)))) (Ints.made _ _ [0, 1, 3, 2] _ _ rfl (by first | rfl | omega | (simp <;> omega)) (by decide) (by decide))); rintro e wx ⟨⟨qn, cn, rfl⟩, x5, rfl⟩)
    | (go_at_call 13; apply Calls.mono; (with_reducible exact par4_l (HRf.out.grew (by (repeat (first | exact gR _ | refine gO ?_ _ | refine gA ?_ _ | refine gD ?_ | refine gN ?_ _)))) (HL.out.grew (by (repeat (first | exact gR _ | refine gO ?_ _ | refine gA ?_ _ | refine gD ?_ | refine gN ?_ _)))) (HIl.out.grew (by (repeat (first | exact gR _ | refine gO ?_ _ | refine gA ?_ _ | refine gD ?_ | refine gN ?_ _))))); rintro e wx ⟨⟨qu, cu, rfl, hIu⟩, x6, rfl⟩; have HIu := Lib.hid hIu; clear hIu)
    | (go_at_call 12; apply Calls.mono; (with_reducible exact same_eq rfl (HIl.out.grew (by (repeat (first | exact gR _ | refine gO ?_ _ | refine gA ?_ _ | refine gD ?_ | refine gN ?_ _)))) (Ints.made _ _ L4 _ _ rfl (by first | rfl | omega | (simp <;> omega)) (by decide) (by decide))); rintro e wx ⟨rfl, x7, rfl⟩)
    | (go_at_call 12; apply Calls.mono; (with_reducible exact same_eq rfl (HIu.out.grew (by (repeat (first | exact gR _ | refine gO ?_ _ | refine gA ?_ _ | refine gD ?_ | refine gN ?_ _)))) (Ints.made _ _ [-1, -1, 3, -1] _ _ rfl (by first | rfl | omega | (simp <;> omega)) (by decide) (by decide))); rintro e wx ⟨rfl, x8, rfl⟩)
    | (go_at_call 19; apply Calls.mono; (with_reducible exact points_eq rfl (HPp.out.grew (by (repeat (first | exact gR _ | refine gO ?_ _ | refine gA ?_ _ | refine gD ?_ | refine gN ?_ _)))) (Prs.made _ _ [(0, 0), (3, 0), (1, 1), (0, 3)] _ _ rfl (by first | rfl | omega | (simp <;> omega)) (by decide))); rintro e wx ⟨rfl, x9, rfl⟩)
    | (go_at_call 15; apply Calls.mono; (with_reducible exact check4_l (HRf.out.grew (by (repeat (first | exact gR _ | refine gO ?_ _ | refine gA ?_ _ | refine gD ?_ | refine gN ?_ _)))) (HL.out.grew (by (repeat (first | exact gR _ | refine gO ?_ _ | refine gA ?_ _ | refine gD ?_ | refine gN ?_ _)))) (HIl.out.grew (by (repeat (first | exact gR _ | refine gO ?_ _ | refine gA ?_ _ | refine gD ?_ | refine gN ?_ _))))); rintro e wx ⟨rfl, x10, rfl⟩))
  go_ret
  exact ⟨rfl, by (repeat (first | exact gR _ | refine gO ?_ _ | refine gA ?_ _ | refine gD ?_ | refine gN ?_ _))⟩
end Go.Proofs.YtlealdicoceekaaDoor

/- RealizerTrees: the law's call. -/
namespace Go.Proofs.YtlealdicoceekaaDoor
open Go.RowKit
attribute [local go_sem ↓] Go.wp_at_zero Go.wp_at_succ

section
variable {N : Int} {E : List (Int × Int)} {A : List (List Int)} {L : List Int}
theorem endF_succ (t : Int) : ∀ (k : Nat) (v : Int), endF E A L t (k + 1) v = if endF E A L t k v ∈ rts E A then endF E A L t k v else parF E A L t (endF E A L t k v)
  | 0, v => by
    show (if v ∈ rts E A then v else endF E A L t 0 (parF E A L t v)) = _
    rfl
  | k + 1, v => by
    have h1 : endF E A L t (k + 1) v = if v ∈ rts E A then v else endF E A L t k (parF E A L t v) := rfl
    show (if v ∈ rts E A then v else endF E A L t (k + 1) (parF E A L t v)) = _
    by_cases h : v ∈ rts E A
    · rw [if_pos h, h1, if_pos h, if_pos h]
    · rw [if_neg h, h1, if_neg h]
      exact endF_succ t k (parF E A L t v)
theorem end_root (hT : trgB N E A = true) (hS : Sch E A L) {t : Nat} (ht : t < 3) : ∀ (k v : Nat), v < A.length → (v : Int) ∉ rts E A → endF E A L t k v ∈ rts E A → endF E A L t k v = ge (rts E A) t
  | 0, v, _, hi, h => absurd h hi
  | k + 1, v, hv, hi, h => by
    have e : endF E A L t (k + 1) v = endF E A L t k (parF E A L t v) := by
      show (if (v : Int) ∈ rts E A then _ else _) = _
      rw [if_neg hi]
    rw [e] at h ⊢
    have hup := up_dart hT hS hv hi ht
    have hul := (up_ok hT hS hv hi ht).2
    have hh := head_in (trg_valid hT) hup.1.oth
    obtain ⟨u, hu⟩ : ∃ u : Nat, parF E A L t v = (u : Int) := ⟨(parF E A L t v).toNat, by unfold parF; omega⟩
    have hul2 : u < A.length := by unfold parF at hu; omega
    rw [hu] at h ⊢
    by_cases hr : (u : Int) ∈ rts E A
    · rw [endF_root hr] at h ⊢
      have := hS.ld _ hup.1 (by unfold parF at hu; rw [hu]; exact hr) (by omega)
      have e2 : tailE E (oth (upF A L t v)) = (u : Int) := hu
      rw [e2, hul] at this
      obtain ⟨i, hi1, hi2, hi3⟩ := idx_lt hr
      rw [hi2] at this
      rw [← hi3]
      congr 1
      omega
    · exact end_root hT hS ht k u hul2 hr h
end
set_option maxRecDepth 8000 in
set_option maxHeartbeats 32000000 in
theorem treesL (N : Int) (pE pA : Option Addr) (nE nA cE cA : Nat) (E : List (Int × Int)) (A : List (List Int)) (w : World) (hE : Prs w pE E) (hA : Mat w pA A) (c1 : E.length ≤ cE) (c2 : cE ≤ maxLen)
    (hL : Lim w) (hnE : E.length = nE) (hnA : A.length = nA) :
    Calls Tryd.prog 6 #[.agg #[.int .i64 N, .slice pE nE cE, .slice pA nA cA]] w fun e w' => e = .returned (.bool true) ∧ Grew w w' := by
  have HL := Lib.hid hL
  have HE := Lib.hid hE
  have HA := Lib.hid hA
  have Haw : Hid (∀ W1, Grew w W1 → Calls Tryd.prog 9 #[] W1 fun e w' => e = .returned (.bool true) ∧ Grew W1 w') := Lib.hid (fun W1 h => awake_l W1 (HL.out.grew h))
  obtain ⟨s, hs⟩ : ∃ s, fewB E A = s := ⟨_, rfl⟩
  have Hs : Hid (∀ W1, Grew w W1 → Calls Tryd.prog 20 #[.agg #[.int .i64 N, .slice pE nE cE, .slice pA nA cA]] W1 fun e w' => e = .returned (.bool s) ∧ Grew W1 w') := Lib.hid (fun W1 h => by
    rw [← hs]
    exact few_l N pE pA nE nA cE cA E A W1 (HE.out.grew h) (HA.out.grew h) hnE hnA)
  cases s
  case false =>
    clear hs hE hA hL
    go_enter Tryd.func6, Tryd.ntmps6
    go_wp2_with (first
      | ((go_at_call 20; apply Calls.mono; (with_reducible exact Hs.out _ (by (repeat (first | exact gR _ | refine gO ?_ _ | refine gA ?_ _ | refine gD ?_ | refine gN ?_ _)))); rintro e w' ⟨rfl, x, rfl⟩))
      | ((go_at_call 9; apply Calls.mono; (with_reducible exact Haw.out _ (by (repeat (first | exact gR _ | refine gO ?_ _ | refine gA ?_ _ | refine gD ?_ | refine gN ?_ _)))); rintro e w' ⟨rfl, x, rfl⟩)))
    go_ret
    exact ⟨rfl, by (repeat (first | exact gR _ | refine gO ?_ _ | refine gA ?_ _ | refine gD ?_ | refine gN ?_ _))⟩
  case true =>
  have HR := Lib.hid (few_in hs hE hA c1 c2)
  have HRt := Lib.hid (few_at hs hE hA)
  clear hs hE hA hL
  by_cases h30 : 30 < N
  · have g1 : decide (30 < N) = true := decide_eq_true h30
    go_enter Tryd.func6, Tryd.ntmps6
    go_wp2_with (first
      | ((go_at_call 20; apply Calls.mono; (with_reducible exact Hs.out _ (by (repeat (first | exact gR _ | refine gO ?_ _ | refine gA ?_ _ | refine gD ?_ | refine gN ?_ _)))); rintro e w' ⟨rfl, x, rfl⟩))
      | ((go_at_call 9; apply Calls.mono; (with_reducible exact Haw.out _ (by (repeat (first | exact gR _ | refine gO ?_ _ | refine gA ?_ _ | refine gD ?_ | refine gN ?_ _)))); rintro e w' ⟨rfl, x, rfl⟩)))
    go_ret
    exact ⟨rfl, by (repeat (first | exact gR _ | refine gO ?_ _ | refine gA ?_ _ | refine gD ?_ | refine gN ?_ _))⟩
  have g1 : decide (30 < N) = false := decide_eq_false h30
  obtain ⟨t, ht⟩ : ∃ t, trgB N E A = t := ⟨_, rfl⟩
  have Htr : Hid (∀ W1, Grew w W1 → Calls Tryd.prog 21 #[.agg #[.int .i64 N, .slice pE nE cE, .slice pA nA cA]] W1 fun e w' => e = .returned (.bool t) ∧ Grew W1 w') := Lib.hid (fun W1 h => by
    rw [← ht]
    exact trg_r N pE pA nE nA cE cA E A W1 (HR.out.grew h) hnE hnA)
  cases t
  case false =>
    clear ht
    go_enter Tryd.func6, Tryd.ntmps6
    go_wp2_with (first
      | ((go_at_call 20; apply Calls.mono; (with_reducible exact Hs.out _ (by (repeat (first | exact gR _ | refine gO ?_ _ | refine gA ?_ _ | refine gD ?_ | refine gN ?_ _)))); rintro e w' ⟨rfl, x, rfl⟩))
      | ((go_at_call 21; apply Calls.mono; (with_reducible exact Htr.out _ (by (repeat (first | exact gR _ | refine gO ?_ _ | refine gA ?_ _ | refine gD ?_ | refine gN ?_ _)))); rintro e w' ⟨rfl, x, rfl⟩))
      | ((go_at_call 9; apply Calls.mono; (with_reducible exact Haw.out _ (by (repeat (first | exact gR _ | refine gO ?_ _ | refine gA ?_ _ | refine gD ?_ | refine gN ?_ _)))); rintro e w' ⟨rfl, x, rfl⟩)))
    go_ret
    exact ⟨rfl, by (repeat (first | exact gR _ | refine gO ?_ _ | refine gA ?_ _ | refine gD ?_ | refine gN ?_ _))⟩
  case true =>
  have hV := trg_valid ht
  have hal := hV.al
  have hN3 := trg_three ht
  obtain rfl : N = (nA : Int) := by omega
  have hn30 : nA ≤ 30 := by omega
  have hnA3 : 3 ≤ nA := by omega
  have hnA1 : nA ≤ 100 := by omega
  have HT := Lib.hid ht
  have HV := Lib.hid hV
  have HnE := Lib.hid hnE
  have HnA := Lib.hid hnA
  have Hord : Hid (∀ W1, Grew w W1 → Calls Tryd.prog 22 #[.agg #[.int .i64 nA, .slice pE nE cE, .slice pA nA cA]] W1 fun e w' => Grew W1 w' ∧ ∃ O L : List Int, O.length = nA ∧ L.length = 2 * nE ∧ Sch E A L ∧ fitB E A L = true ∧ buildRes nA E A O = (L, 0) ∧ ∃ q cap, e = .returned (.tuple #[.slice q nA cap, .int .i64 0]) ∧ Ints w' q O ∧ nA ≤ cap ∧ cap ≤ maxLen) := Lib.hid (fun W1 h => (order_l nA pE pA nE nA cE cA E A W1 (HRt.out.grew h) (HR.out.grew h) HT.out HnE.out HnA.out).mono fun e w' ⟨hg, R, hP, q, cap, he, hI, h1, h2⟩ => by
    obtain ⟨hc, hS⟩ := peels_sch HT.out hP
    have hOl := (chkO_iff.1 hc).2.1
    have hl : R.length + 2 = nA := by simp at hOl; omega
    refine ⟨hg, _, _, by omega, ?_, hS, fit_of HT.out hS, ?_, q, cap, by rw [← hl]; exact he, hI, by omega, h2⟩
    · rw [hS.len, HnE.out]
    · unfold buildRes
      rw [if_neg (by rw [HT.out]; simp), if_neg (by rw [hc]; simp), refK_eq hc _ (by omega)])
  have Hrts : Hid (∀ W1, Grew w W1 → Calls Tryd.prog 23 #[.agg #[.int .i64 nA, .slice pE nE cE, .slice pA nA cA]] W1 fun e w' => Grew W1 w' ∧ ∃ q cap, e = .returned (.slice q 3 cap) ∧ Ints w' q (rts E A)) := Lib.hid (fun W1 h => (roots_r _ pE pA nE nA cE cA E A W1 (HR.out.grew h) HT.out HnE.out HnA.out).mono fun e w' ⟨h1, q, cap, h2, h3, _⟩ => ⟨h1, q, cap, h2, h3⟩)
  clear ht hV hal hN3 hnE hnA h30
  go_enter Tryd.func6, Tryd.ntmps6
  go_upto_region 1 with fail
  have HgB : Hid (Grew w (w.alloc (.cells #[.int .i64 nA, .slice pE nE cE, .slice pA nA cA] 25))) := Lib.hid ((Grew.refl w).alloc _)
  have k0 : (w.alloc (.cells #[.int .i64 nA, .slice pE nE cE, .slice pA nA cA] 25)).cell? ⟨w.heap.size, 0, none⟩ = some (.int .i64 nA) := by simp [go_sem]
  have k1 : (w.alloc (.cells #[.int .i64 nA, .slice pE nE cE, .slice pA nA cA] 25)).cell? ⟨w.heap.size, 1, none⟩ = some (.slice pE nE cE) := by simp [go_sem]
  have k2 : (w.alloc (.cells #[.int .i64 nA, .slice pE nE cE, .slice pA nA cA] 25)).cell? ⟨w.heap.size, 2, none⟩ = some (.slice pA nA cA) := by simp [go_sem]
  obtain ⟨wB, hwB⟩ : ∃ wB, w.alloc (.cells #[.int .i64 nA, .slice pE nE cE, .slice pA nA cA] 25) = wB := ⟨_, rfl⟩
  rw [hwB] at HgB k0 k1 k2 ⊢
  have hwl := World.block_lt_of_cell? wB _ k0
  dsimp only at hwl
  clear hwB
  go_upto_region 8 with (first
    | (go_at_call 20; apply Calls.mono; (with_reducible exact Hs.out _ (HgB.out.trans (by (repeat (first | exact gR _ | refine gO ?_ _ | refine gA ?_ _ | refine gD ?_ | refine gN ?_ _))))); rintro e w2 ⟨rfl, hg2⟩; have Hg2 := Lib.hid ((show Grew wB _ by (repeat (first | exact gR _ | refine gO ?_ _ | refine gA ?_ _ | refine gD ?_ | refine gN ?_ _))).trans hg2); have n0 := Hg2.out.cellEq k0; have n1 := Hg2.out.cellEq k1; have n2 := Hg2.out.cellEq k2; have hlw2 := World.block_lt_of_cell? w2 _ n0; dsimp only at hlw2; clear hg2)
    | (go_at_call 21; apply Calls.mono; (with_reducible exact Htr.out _ (HgB.out.trans (Hg2.out.trans (by (repeat (first | exact gR _ | refine gO ?_ _ | refine gA ?_ _ | refine gD ?_ | refine gN ?_ _)))))); rintro e w3 ⟨rfl, hg3⟩; have Hg3 := Lib.hid (Hg2.out.trans ((show Grew w2 _ by (repeat (first | exact gR _ | refine gO ?_ _ | refine gA ?_ _ | refine gD ?_ | refine gN ?_ _))).trans hg3)); have m0 := Hg3.out.cellEq k0; have m1 := Hg3.out.cellEq k1; have m2 := Hg3.out.cellEq k2; have hlw3 := World.block_lt_of_cell? w3 _ m0; dsimp only at hlw3; clear hg3)
    | (go_at_call 22; apply Calls.mono; (with_reducible exact Hord.out _ (HgB.out.trans (Hg3.out.trans (by (repeat (first | exact gR _ | refine gO ?_ _ | refine gA ?_ _ | refine gD ?_ | refine gN ?_ _)))))); rintro e w4 ⟨hg4, O, L, hOl, hLl, hS, hF, hB, qO, cO, rfl, hIO, hO1, hO2⟩; have Hg4 := Lib.hid (Hg3.out.trans ((show Grew w3 _ by (repeat (first | exact gR _ | refine gO ?_ _ | refine gA ?_ _ | refine gD ?_ | refine gN ?_ _))).trans hg4)); have HIO := Lib.hid hIO; have HS := Lib.hid hS; have HF := Lib.hid hF; have HB := Lib.hid hB; have HOl := Lib.hid hOl; have HLl := Lib.hid hLl; have p0 := Hg4.out.cellEq k0; have p1 := Hg4.out.cellEq k1; have p2 := Hg4.out.cellEq k2; have hlw4 := World.block_lt_of_cell? w4 _ p0; dsimp only at hlw4; clear hg4 hIO hS hF hB hOl hLl; have Hbu : Hid (∀ W1, Grew w4 W1 → Calls Tryd.prog 10 #[.agg #[.int .i64 nA, .slice pE nE cE, .slice pA nA cA], .slice qO nA cO] W1 (ThreePost (2 * nE) L W1)) := Lib.hid (fun W1 h => (by have hb := build_p nA pE pA qO nE nA nA cE cA cO E A O W1 (HR.out.grew (HgB.out.trans (Hg4.out.trans h))) (HL.out.grew (HgB.out.trans (Hg4.out.trans h))) (HIO.out.grew h) (by have := HOl.out; omega) hO1 hO2 HnE.out HnA.out HOl.out; rw [HB.out] at hb; exact hb.mono fun e w' ⟨hg, q, cap, h1, h2, _⟩ => ⟨⟨q, cap, (by rw [h1, HLl.out]), h2⟩, hg⟩)))
    | (go_at_call 10; apply Calls.mono; (with_reducible exact Hbu.out _ (by (repeat (first | exact gR _ | refine gO ?_ _ | refine gA ?_ _ | refine gD ?_ | refine gN ?_ _)))); rintro e w5 ⟨⟨qL, cL, rfl, hIL⟩, hg5⟩; have HIL := Lib.hid hIL; have hgx := Grew.trans (show Grew w4 _ by (repeat (first | exact gR _ | refine gO ?_ _ | refine gA ?_ _ | refine gD ?_ | refine gN ?_ _))) hg5; have Hg5 := Lib.hid (Hg4.out.trans hgx); have q0 := Hg5.out.cellEq k0; have q1 := Hg5.out.cellEq k1; have q2 := Hg5.out.cellEq k2; have hlw5 := World.block_lt_of_cell? w5 _ q0; dsimp only at hlw5; clear hg5 hgx hIL; have Hck : Hid (∀ W1, Grew w5 W1 → Calls Tryd.prog 15 #[.agg #[.int .i64 nA, .slice pE nE cE, .slice pA nA cA], .slice qL (2 * nE) cL] W1 fun e w' => e = .returned (.bool true) ∧ Grew W1 w') := Lib.hid (fun W1 h => (by have hb := check38_p nA pE pA qL nE nA (2 * nE) cE cA cL E A L W1 (HR.out.grew (HgB.out.trans (Hg5.out.trans h))) (HL.out.grew (HgB.out.trans (Hg5.out.trans h))) (HIL.out.grew h) HnE.out HnA.out HLl.out (by have := HR.out.e1; have := HnE.out; omega); rw [show chk38 nA E A L = true by unfold chk38; rw [HT.out, HF.out]; rfl] at hb; exact hb)))
    | (go_at_call 15; apply Calls.mono; (with_reducible exact Hck.out _ (by (repeat (first | exact gR _ | refine gO ?_ _ | refine gA ?_ _ | refine gD ?_ | refine gN ?_ _)))); rintro e w6 ⟨rfl, hg6⟩; have hgx := Grew.trans (show Grew w5 _ by (repeat (first | exact gR _ | refine gO ?_ _ | refine gA ?_ _ | refine gD ?_ | refine gN ?_ _))) hg6; have Hg56 := Lib.hid hgx; have Hg6 := Lib.hid (Hg5.out.trans hgx); have r0 := Hg6.out.cellEq k0; have r1 := Hg6.out.cellEq k1; have r2 := Hg6.out.cellEq k2; have hlw6 := World.block_lt_of_cell? w6 _ r0; dsimp only at hlw6; clear hg6 hgx)
    | (go_at_call 23; apply Calls.mono; (with_reducible exact Hrts.out _ (HgB.out.trans (Hg6.out.trans (by (repeat (first | exact gR _ | refine gO ?_ _ | refine gA ?_ _ | refine gD ?_ | refine gN ?_ _)))))); rintro e w7 ⟨hg7, q7, c7, rfl, hI7⟩; have HI7 := Lib.hid hI7; have hgx := Grew.trans (show Grew w6 _ by (repeat (first | exact gR _ | refine gO ?_ _ | refine gA ?_ _ | refine gD ?_ | refine gN ?_ _))) hg7; have Hg7 := Lib.hid (Hg6.out.trans hgx); have HIL7 := Lib.hid (HIL.out.grew (Hg56.out.trans hgx)); clear hg7 hgx hI7))
  have K0 := Lib.hid (Hg7.out.cellEq k0)
  have K1 := Lib.hid (Hg7.out.cellEq k1)
  have K2 := Lib.hid (Hg7.out.cellEq k2)
  have Hg7w : Hid (Grew w w7) := Lib.hid (HgB.out.trans Hg7.out)
  have hE1 := HR.out.e1
  have Hpa : Hid (∀ (t : Nat) W1, t < 3 → Grew w7 W1 → Calls Tryd.prog 13 #[.agg #[.int .i64 nA, .slice pE nE cE, .slice pA nA cA], .slice qL (2 * nE) cL, .int .i64 t] W1 (ThreePost nA (parL E A L t) W1)) := Lib.hid (fun t W1 ht h => by
    have hb := parents_p nA pE pA qL nE nA (2 * nE) cE cA cL E A L t W1 (HR.out.grew (Hg7w.out.trans h)) (HL.out.grew (Hg7w.out.trans h)) (HIL7.out.grew h) HnE.out HnA.out HLl.out (by have := HnE.out; omega)
    have e : parRes nA E A L t = (parL E A L t, 0) := by unfold parRes; rw [if_neg (by rw [HT.out]; simp), if_neg (by rw [HF.out]; simp), if_neg (by omega)]
    rw [e] at hb
    exact hb.mono fun e w' ⟨hg, q, cap, h1, h2, _⟩ => ⟨⟨q, cap, (by rw [h1]; unfold parL; rw [tab_length, HnA.out]), h2⟩, hg⟩)
  have Hac := Lib.hid (sch_acy HT.out HS.out)
  have hrt3 : ∃ y0 y1 y2 : Nat, rts E A = [(y0 : Int), (y1 : Int), (y2 : Int)] := by
    have hin := fun d (hd : isD E d) => head_in HV.out hd
    obtain ⟨i0, i1⟩ := dart01 HT.out
    have f0 := nxF_in HV.out i0.1 i0.2
    have f1 := nxF_in HV.out f0.1 f0.2
    have a0 := hin 0 i0
    have a1 := hin 1 i1
    have a2 := hin (nxF A (nxF A 0)) ⟨f1.1, f1.2⟩
    refine ⟨(tailE E 0).toNat, (tailE E 1).toNat, (tailE E (nxF A (nxF A 0))).toNat, ?_⟩
    rw [rts_eq, Int.toNat_of_nonneg a0.1, Int.toNat_of_nonneg a1.1, Int.toNat_of_nonneg a2.1]
  obtain ⟨y0, y1, y2, hrt⟩ := hrt3
  have Hrt := Lib.hid hrt
  obtain ⟨b7, o7, rfl, l7, c7'⟩ := HI7.out.cells (by rw [hrt]; simp)
  have Hc7 : Hid (∀ W, Grew w7 W → W.cell? ⟨b7, o7, none⟩ = some (.int .i64 (y0 : Int)) ∧ W.cell? ⟨b7, o7 + 1, none⟩ = some (.int .i64 (y1 : Int)) ∧ W.cell? ⟨b7, o7 + 2, none⟩ = some (.int .i64 (y2 : Int))) := Lib.hid (fun W h => by
    have a0 := c7' W h 0 (by rw [hrt]; simp)
    have a1 := c7' W h 1 (by rw [hrt]; simp)
    have a2 := c7' W h 2 (by rw [hrt]; simp)
    rw [hrt] at a0 a1 a2
    exact ⟨a0, a1, a2⟩)
  have Hct : Hid (∀ (t : Nat) W, t < 3 → Grew w7 W → W.cell? ⟨b7, o7 + t, none⟩ = some (.int .i64 (ge (rts E A) t))) := Lib.hid (fun t W ht h => c7' W h t (by rw [hrt]; simpa using ht))
  clear n0 n1 n2 m0 m1 m2 p0 p1 p2 q0 q1 q2 r0 r1 r2 hlw2 hlw3 hlw4 hlw5 hlw6 k0 k1 k2 hwl Hs Htr Hord Hrts Hbu Hck Hg2 Hg3 Hg4 Hg5 Hg56 Hg6 Hg7 HIO HIL HI7 c7' hrt HB
  go_wp2
  go_loopw [8, 9, 10, 11, 12, 13, 14] (fun tv _ _ _ _ _ _ wr => ∃ t : Nat, t ≤ 3 ∧ tv = .int .i64 t ∧ Grew w7 wr) (fun tv _ _ _ _ _ _ _ => 3 - (intOf tv).toNat)
  case atStart => exact ⟨0, by omega, rfl, by (repeat (first | exact gR _ | refine gO ?_ _ | refine gA ?_ _ | refine gD ?_ | refine gN ?_ _))⟩
  case round =>
    obtain ⟨t, ht, rfl, hg⟩ := hrel
    have Hg := Lib.hid hg
    have m0 := hg.cellEq K0.out
    have m1 := hg.cellEq K1.out
    have m2 := hg.cellEq K2.out
    have hlw := World.block_lt_of_cell? wr _ m0
    dsimp only at hlw
    clear hg
    by_cases ht3 : t < 3
    · have hti : (t : Int) < 3 := by omega
      have Hpt := Lib.hid (fun W1 (h : Grew w7 W1) => Hpa.out t W1 ht3 h)
      go_upto_region 14 with (go_at_call 13; apply Calls.mono; (with_reducible exact Hpt.out _ (Hg.out.trans (by (repeat (first | exact gR _ | refine gO ?_ _ | refine gA ?_ _ | refine gD ?_ | refine gN ?_ _))))); rintro e w8 ⟨⟨q8, c8, rfl, hI8⟩, hg8⟩; have HI8 := Lib.hid hI8; have hgx := Grew.trans (show Grew wr _ by (repeat (first | exact gR _ | refine gO ?_ _ | refine gA ?_ _ | refine gD ?_ | refine gN ?_ _))) hg8; have Hg8 := Lib.hid (Hg.out.trans hgx); have q0 := hgx.cellEq m0; have q1 := hgx.cellEq m1; have q2 := hgx.cellEq m2; have hlw8 := World.block_lt_of_cell? w8 _ q0; dsimp only at hlw8; clear hg8 hgx hI8)
      have hpl : (parL E A L t).length = nA := by unfold parL; rw [tab_length, HnA.out]
      have Hpl := Lib.hid hpl
      obtain ⟨b8, o8, rfl, l8, c8'⟩ := HI8.out.cells (by omega)
      have Hc8 : Hid (∀ (u : Nat) W, u < nA → Grew w8 W → W.cell? ⟨b8, o8 + u, none⟩ = some (.int .i64 (if (u : Int) ∈ rts E A then -1 else parF E A L t u))) := Lib.hid (fun u W hu h => by
        have := c8' W h u (by omega)
        unfold parL at this
        rw [ge_tab _ (by rw [HnA.out]; exact hu)] at this
        exact this)
      have M0 := Lib.hid q0
      clear hpl c8' m0 m1 m2 hlw q0 q1 q2 Hg Hpt
      go_wp2
      go_loopw [11, 12, 13, 14] (fun vv _ _ _ wr => ∃ v : Nat, v ≤ nA ∧ vv = .int .i64 v ∧ Grew w8 wr) (fun vv _ _ _ _ => nA - (intOf vv).toNat)
      case atStart => exact ⟨0, Nat.zero_le _, rfl, by (repeat (first | exact gR _ | refine gO ?_ _ | refine gA ?_ _ | refine gD ?_ | refine gN ?_ _))⟩
      case round =>
        obtain ⟨v, hv, rfl, hg⟩ := hrel
        have Hg := Lib.hid hg
        have m0 := hg.cellEq M0.out
        clear hg
        by_cases hvl : v < nA
        · have hvi : (v : Int) < (nA : Int) := by omega
          go_wp2
          go_loopw [12, 13] (fun xv kv wr => ∃ k u : Nat, k ≤ nA ∧ kv = .int .i64 k ∧ xv = .int .i64 u ∧ u < nA ∧ endF E A L t k v = (u : Int) ∧ Grew w8 wr) (fun _ kv _ => nA - (intOf kv).toNat)
          case atStart => exact ⟨0, v, Nat.zero_le _, rfl, rfl, hvl, rfl, Hg.out.trans (by (repeat (first | exact gR _ | refine gO ?_ _ | refine gA ?_ _ | refine gD ?_ | refine gN ?_ _)))⟩
          case round =>
            clear Hg m0
            obtain ⟨k, u, hk, rfl, rfl, hul, hend, hg⟩ := hrel
            have Hg := Lib.hid hg
            have Hend := Lib.hid hend
            have m0 := hg.cellEq M0.out
            have hui : (u : Int) < (nA : Int) := by omega
            have hu0 : 0 ≤ (u : Int) := by omega
            have cu := Hc8.out u wr hul hg
            have l8w := Nat.lt_of_lt_of_le l8 hg.below.size
            clear hg hend
            by_cases hgo : k < nA ∧ (u : Int) ∉ rts E A
            · have hki : (k : Int) < (nA : Int) := by omega
              rw [if_neg hgo.2] at cu
              have hup := up_dart HT.out HS.out (v := u) (t := t) (by have := HnA.out; omega) hgo.2 ht3
              have hh := head_in HV.out hup.1.oth
              obtain ⟨x, hx⟩ : ∃ x : Nat, parF E A L t u = (x : Int) := ⟨(parF E A L t u).toNat, by unfold parF; omega⟩
              have hxl : x < nA := by have := HnA.out; unfold parF at hx; omega
              rw [hx] at cu
              have hx0 : 0 ≤ (x : Int) := by omega
              have Hnx : Hid (endF E A L t (k + 1) v = (x : Int)) := Lib.hid (by rw [endF_succ, Hend.out, if_neg hgo.2, hx])
              clear hup hh hx hgo
              go_wp2
              go_roundw
              case rel => exact ⟨k + 1, x, by omega, by go_num, rfl, hxl, Hnx.out, Hg.out.trans (by (repeat (first | exact gR _ | refine gO ?_ _ | refine gA ?_ _ | refine gD ?_ | refine gN ?_ _)))⟩
              case measure => (simp [intOf] <;> omega)
            · have Hacv : Hid (endF E A L t nA v ∈ rts E A) := Lib.hid (by have := Hac.out t v ht3 (by have := HnA.out; omega); rw [HnA.out] at this; exact this)
              have hur : (u : Int) ∈ rts E A := by
                by_cases hkn : k < nA
                · exact Classical.byContradiction fun h => hgo ⟨hkn, h⟩
                · obtain rfl : k = nA := by omega
                  rw [← Hend.out]; exact Hacv.out
              rw [if_pos hur] at cu
              have Hur := Lib.hid hur
              obtain ⟨a0, a1, a2⟩ := Hc7.out wr (Hg8.out.trans Hg.out)
              have at_ := Hct.out t wr ht3 (Hg8.out.trans Hg.out)
              have cv := Hc8.out v wr hvl Hg.out
              have l7w := Nat.lt_of_lt_of_le l7 (Hg8.out.trans Hg.out).below.size
              have hn1 : ¬ 0 ≤ (-1 : Int) := by omega
              clear hur hgo
              have hends : (v : Int) ∉ rts E A → ge (rts E A) t = (u : Int) := fun hi => by
                have := end_root HT.out HS.out ht3 k v (by rw [HnA.out]; exact hvl) hi (by rw [Hend.out]; exact Hur.out)
                rw [← this, Hend.out]
              have hcase : (v = y0 ∧ (v : Int) ∈ rts E A) ∨ (v ≠ y0 ∧ v = y1 ∧ (v : Int) ∈ rts E A) ∨ (v ≠ y0 ∧ v ≠ y1 ∧ v = y2 ∧ (v : Int) ∈ rts E A) ∨ (v ≠ y0 ∧ v ≠ y1 ∧ v ≠ y2 ∧ (v : Int) ∉ rts E A) := by
                rw [Hrt.out]
                simp only [List.mem_cons, List.not_mem_nil, or_false]
                omega
              have hstop : (k < nA ∧ (k : Int) < (nA : Int)) ∨ ¬ (k : Int) < (nA : Int) := by omega
              clear cu
              rcases hcase with ⟨rfl, hi⟩ | ⟨h0, rfl, hi⟩ | ⟨h0, h1, rfl, hi⟩ | ⟨h0, h1, h2, hi⟩
              case inl =>
                rw [if_pos hi] at cv
                have cu := Hc8.out u wr hul Hg.out
                rw [if_pos Hur.out] at cu
                have e0 : ((v : Int) == (v : Int)) = true := by simp
                clear hends hi
                rcases hstop with ⟨_, hki⟩ | hki
                all_goals
                  go_wp2
                  go_roundw
                  case rel => exact ⟨v + 1, by omega, by go_num, Hg.out.trans (by (repeat (first | exact gR _ | refine gO ?_ _ | refine gA ?_ _ | refine gD ?_ | refine gN ?_ _)))⟩
                  case measure => (simp [intOf] <;> omega)
              case inr.inl =>
                rw [if_pos hi] at cv
                have cu := Hc8.out u wr hul Hg.out
                rw [if_pos Hur.out] at cu
                have e0 : ((v : Int) = (y0 : Int)) = False := by simp; omega
                have e0' : ((v : Int) == (y0 : Int)) = false := by rw [beq_eq_false_iff_ne]; omega
                clear hends hi h0
                rcases hstop with ⟨_, hki⟩ | hki
                all_goals
                  go_wp2
                  go_roundw
                  case rel => exact ⟨v + 1, by omega, by go_num, Hg.out.trans (by (repeat (first | exact gR _ | refine gO ?_ _ | refine gA ?_ _ | refine gD ?_ | refine gN ?_ _)))⟩
                  case measure => (simp [intOf] <;> omega)
              case inr.inr.inl =>
                rw [if_pos hi] at cv
                have cu := Hc8.out u wr hul Hg.out
                rw [if_pos Hur.out] at cu
                have e0 : ((v : Int) = (y0 : Int)) = False := by simp; omega
                have e0' : ((v : Int) == (y0 : Int)) = false := by rw [beq_eq_false_iff_ne]; omega
                have e1 : ((v : Int) = (y1 : Int)) = False := by simp; omega
                have e1' : ((v : Int) == (y1 : Int)) = false := by rw [beq_eq_false_iff_ne]; omega
                clear hends hi h0 h1
                rcases hstop with ⟨_, hki⟩ | hki
                all_goals
                  go_wp2
                  go_roundw
                  case rel => exact ⟨v + 1, by omega, by go_num, Hg.out.trans (by (repeat (first | exact gR _ | refine gO ?_ _ | refine gA ?_ _ | refine gD ?_ | refine gN ?_ _)))⟩
                  case measure => (simp [intOf] <;> omega)
              case inr.inr.inr =>
                rw [if_neg hi] at cv
                have cu := Hc8.out u wr hul Hg.out
                rw [if_pos Hur.out] at cu
                rw [hends hi] at at_
                have e0 : ((v : Int) = (y0 : Int)) = False := by simp; omega
                have e0' : ((v : Int) == (y0 : Int)) = false := by rw [beq_eq_false_iff_ne]; omega
                have e1 : ((v : Int) = (y1 : Int)) = False := by simp; omega
                have e1' : ((v : Int) == (y1 : Int)) = false := by rw [beq_eq_false_iff_ne]; omega
                have e2 : ((v : Int) = (y2 : Int)) = False := by simp; omega
                have e2' : ((v : Int) == (y2 : Int)) = false := by rw [beq_eq_false_iff_ne]; omega
                clear hends hi h0 h1 h2 cv
                rcases hstop with ⟨_, hki⟩ | hki
                all_goals
                  go_wp2
                  go_roundw
                  case rel => exact ⟨v + 1, by omega, by go_num, Hg.out.trans (by (repeat (first | exact gR _ | refine gO ?_ _ | refine gA ?_ _ | refine gD ?_ | refine gN ?_ _)))⟩
                  case measure => (simp [intOf] <;> omega)
        · have hvi : ¬ (v : Int) < (nA : Int) := by omega
          go_wp2
          go_roundw
          case rel => exact ⟨t + 1, by omega, by go_num, Hg8.out.trans (Hg.out.trans (by (repeat (first | exact gR _ | refine gO ?_ _ | refine gA ?_ _ | refine gD ?_ | refine gN ?_ _))))⟩
          case measure => (simp [intOf] <;> omega)
    · have hti : ¬ (t : Int) < 3 := by omega
      go_wp2_with ((go_at_call 9; apply Calls.mono; (with_reducible exact Haw.out _ (Hg7w.out.trans (Hg.out.trans (by (repeat (first | exact gR _ | refine gO ?_ _ | refine gA ?_ _ | refine gD ?_ | refine gN ?_ _)))))); rintro e w' ⟨rfl, x, rfl⟩))
      go_ret
      exact ⟨rfl, Hg7w.out.trans (Hg.out.trans (by (repeat (first | exact gR _ | refine gO ?_ _ | refine gA ?_ _ | refine gD ?_ | refine gN ?_ _))))⟩
end Go.Proofs.YtlealdicoceekaaDoor
