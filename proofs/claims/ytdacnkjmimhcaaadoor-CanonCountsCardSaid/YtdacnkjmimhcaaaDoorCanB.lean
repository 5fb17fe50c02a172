/- grown of the program. -/
import Derived.Test.YtdacnkjmimhcaaaDoorCanA
import Derived.Test.YtdacnkjmimhcaaaDoorClo
set_option linter.unusedSimpArgs false
set_option linter.unusedVariables false
namespace Go.Proofs.YtdacnkjmimhcaaaDoor
open Go.RowKit
attribute [local go_sem ↓] Go.wp_at_zero Go.wp_at_succ

theorem growI_in {C S L : List Int} (h : ∀ u ∈ L.filter (fun u => decide (u ∈ S)), u ∈ C) : ∀ i ∈ growI C S L, 0 ≤ i ∧ i < (C.length : Int) := by
  intro i hi
  obtain ⟨u, hu, rfl⟩ := List.mem_map.1 hi
  obtain ⟨k, hk, e, _⟩ := idx_lt (h u hu)
  omega
theorem growI_len (C S L : List Int) : (growI C S L).length ≤ L.length := by unfold growI; rw [List.length_map]; exact List.length_filter_le _ _
theorem filt_snoc (S L : List Int) {k : Nat} (h : k < L.length) : (L.take (k + 1)).filter (fun u => decide (u ∈ S)) = (L.take k).filter (fun u => decide (u ∈ S)) ++ if ge L k ∈ S then [ge L k] else [] := by
  rw [List.take_succ_eq_append_getElem h, List.filter_append, ← ge_eq L h]
  by_cases e : ge L k ∈ S
  · simp [e]
  · simp [e]
theorem growI_snoc (C S L : List Int) {k : Nat} (h : k < L.length) : growI C S (L.take (k + 1)) = growI C S (L.take k) ++ if ge L k ∈ S then [idx (ge L k) C] else [] := by
  unfold growI
  rw [filt_snoc S L h, List.map_append]
  by_cases e : ge L k ∈ S
  · simp [e]
  · simp [e]
/-- What grown and step answer. -/
def StepPost (R : Option (List Int)) (w : World) (e : Ending) (w' : World) : Prop :=
  Grew w w' ∧ match R with
    | some C => ∃ q cap, e = .returned (.tuple #[.slice q C.length cap, .bool true]) ∧ Ints w' q C ∧ C.length ≤ cap ∧ cap ≤ maxLen ∧ ∀ a, q = some a → w.heap.size ≤ a.block
    | none => e = .returned (.tuple #[.slice none 0 0, .bool false])

theorem Ints.cut {w : World} {b o : Nat} {xs : List Int} (h : Ints w (some ⟨b, o, none⟩) xs) {k : Nat} (hk : k ≤ xs.length) : Ints w (some ⟨b, o, none⟩) (xs.take k) := by
  obtain ⟨h1, h2, b', o', h3, h4⟩ := h
  refine ⟨by rw [List.length_take]; omega, fun x hx => h2 x (List.mem_of_mem_take hx), b', o', fun hp => h3 (by rw [List.length_take] at hp; omega), fun i hi => ?_⟩
  rw [List.length_take] at hi
  have e : ge (xs.take k) i = ge xs i := by unfold ge; simp only [List.getD_eq_getElem?_getD, List.getElem?_take]; rw [if_pos (by omega)]
  rw [e]; exact h4 i (by omega)

theorem Ints.drop {w : World} {b o : Nat} {xs : List Int} (h : Ints w (some ⟨b, o, none⟩) xs) {k : Nat} (hk : k ≤ xs.length) : Ints w (some ⟨b, o + k, none⟩) (xs.drop k) := by
  obtain ⟨h1, h2, b', o', h3, h4⟩ := h
  by_cases h0 : k < xs.length
  · obtain ⟨e, hb⟩ := h3 (by omega)
    cases e
    refine ⟨by rw [List.length_drop]; omega, fun x hx => h2 x (List.mem_of_mem_drop hx), b, o + k, fun _ => ⟨rfl, hb⟩, fun i hi => ?_⟩
    rw [List.length_drop] at hi
    have e : ge (xs.drop k) i = ge xs (k + i) := by unfold ge; simp only [List.getD_eq_getElem?_getD, List.getElem?_drop]
    rw [e, show o + k + i = o + (k + i) by omega]
    exact h4 (k + i) (by omega)
  · rw [List.drop_eq_nil_of_le (by omega)]
    exact ⟨by simp, (fun x hx => by cases hx), 0, 0, (fun h => by simp at h), (fun i hi => by simp at hi)⟩

set_option maxRecDepth 8000 in
set_option maxHeartbeats 16000000 in
theorem grown_p (N : Int) (pE pA : Option Addr) (nE nA cE cA : Nat) (E : List (Int × Int)) (A : List (List Int)) (pC : Option Addr) (nC cC : Nat) (C S : List Int) (gS cS v : Nat) (w : World) (hR : RotAt w pE pA E A) (hL : Lim w) (hV : vRot N E A) (hv : v < A.length)
    (hC : Ints w pC C) (hnC : C.length = nC) (hC1 : nC ≤ 100) (hC2 : nC ≤ cC) (hC3 : cC ≤ maxLen) (hS : ∀ i : Nat, i < A.length → w.cell? ⟨gS, i, none⟩ = some (.bool (decide ((i : Int) ∈ S)))) (hnE : E.length = nE) (hnA : A.length = nA) :
    Calls Tryd.prog 34 #[.agg #[.int .i64 N, .slice pE nE cE, .slice pA nA cA], .slice pC nC cC, .slice (some ⟨gS, 0, none⟩) A.length cS, .int .i64 v] w (StepPost (growF C S (nearL E (rowOf A v)) v) w) := by
  subst hnE hnA hnC
  have hN : N = A.length := hV.al.symm
  subst hN
  have he1 := hR.e1
  have ha1 := hR.a1
  have hrl := hR.r1 v hv
  have HR := Lib.hid hR
  have HL := Lib.hid hL
  have HV := Lib.hid hV
  have HC := Lib.hid hC
  have HS := Lib.hid hS
  have Hbd := Lib.hid (nearL_bound hV hv)
  obtain ⟨L, hLe⟩ : ∃ L, nearL E (rowOf A v) = L := ⟨_, rfl⟩
  have hLl : L.length ≤ 100 := by rw [← hLe, nearL_length]; exact hrl
  have HLe := Lib.hid hLe
  rw [hLe] at Hbd ⊢
  clear hR hL hV hC hS hLe hrl
  go_enter Tryd.func34, Tryd.ntmps34
  go_wp2_with (go_at_call 53; apply Calls.mono; (with_reducible exact near_p _ _ _ _ _ _ _ _ _ _ _ (HR.out.grew (by (repeat (first | exact Grew.refl _ | refine Grew.over ?_ _ | refine Grew.alloc ?_ _ | refine Grew.drew ?_ | refine Grew.drewN ?_ _)))) (HL.out.grew (by (repeat (first | exact Grew.refl _ | refine Grew.over ?_ _ | refine Grew.alloc ?_ _ | refine Grew.drew ?_ | refine Grew.drewN ?_ _)))) HV.out hv rfl rfl); rintro e wn ⟨hg1, pL, cL, rfl, hI1, _, _, _⟩; rw [HLe.out] at hI1; rw [HLe.out]; have HI1 := Lib.hid hI1; have Hg1 := Lib.hid (Grew.trans (a := w) (by (repeat (first | exact Grew.refl _ | refine Grew.over ?_ _ | refine Grew.alloc ?_ _ | refine Grew.drew ?_ | refine Grew.drewN ?_ _))) hg1); clear hI1 hg1)
  have hsz1 := Hg1.out.below.size
  go_loop [10, 11, 12, 14, 15, 21] (fun vf vl vn _ _ iv => ∃ k : Nat, k ≤ L.length ∧ iv = .int .i64 k ∧ vf = .int .i64 (lo (growI C S (L.take k))) ∧ vl = .int .i64 (hi (growI C S (L.take k))) ∧ vn = .int .i64 ((growI C S (L.take k)).length : Int) ∧ ∀ u ∈ (L.take k).filter (fun u => decide (u ∈ S)), u ∈ C) (fun _ _ _ _ _ iv => L.length - (intOf iv).toNat)
  case atStart => exact ⟨0, Nat.zero_le _, rfl, rfl, rfl, rfl, fun u hu => by simp at hu⟩
  case round =>
    obtain ⟨k, hk, rfl, rfl, rfl, rfl, hall⟩ := hrel
    obtain ⟨hf1, hf2, hl1, hl2⟩ := lo_range (growI_in hall) (by omega)
    have hnl := growI_len C S (L.take k)
    rw [List.length_take] at hnl
    have Hall := Lib.hid hall
    obtain ⟨f, hf⟩ : ∃ f, lo (growI C S (L.take k)) = f := ⟨_, rfl⟩
    obtain ⟨l, hl⟩ : ∃ l, hi (growI C S (L.take k)) = l := ⟨_, rfl⟩
    obtain ⟨n, hn⟩ : ∃ n, (growI C S (L.take k)).length = n := ⟨_, rfl⟩
    rw [hf] at hf1 hf2 ⊢
    rw [hl] at hl1 hl2 ⊢
    rw [hn] at hnl ⊢
    have Hf := Lib.hid hf
    have Hl := Lib.hid hl
    have Hn := Lib.hid hn
    clear hall hf hl hn
    by_cases hlk : k < L.length
    · obtain ⟨bL, oL, rfl, lL, cL'⟩ := HI1.out.cells (by omega)
      have e1 := cL' _ (Grew.refl _) k hlk
      have hx := Hbd.out _ (ge_mem hlk)
      obtain ⟨x, hxe⟩ : ∃ x : Nat, ge L k = (x : Int) := ⟨(ge L k).toNat, by omega⟩
      have hxl : x < A.length := by omega
      have hxi : (x : Int) < (A.length : Int) := by omega
      rw [hxe] at e1
      have s1 := Hg1.out.cellEq (HS.out x hxl)
      have HG := Lib.hid (growI_snoc C S L hlk)
      have HF := Lib.hid (filt_snoc S L hlk)
      rw [hxe] at HG HF
      clear cL' hx hxe
      by_cases hin : (x : Int) ∈ S
      · rw [decide_eq_true hin] at s1
        rw [if_pos hin] at HG HF
        obtain ⟨i, hi⟩ : ∃ i, idx (x : Int) C = i := ⟨_, rfl⟩
        have Hix : Hid (∀ W1, Grew wn W1 → Calls Tryd.prog 42 #[.slice pC C.length cC, .int .i64 x] W1 fun e w' => e = .returned (.int .i64 i) ∧ W1 = w') := Lib.hid (fun W1 h => by rw [← hi]; exact index_p _ _ _ _ _ _ (HC.out.grew (Hg1.out.trans h)) rfl)
        clear hin
        by_cases hmem : (x : Int) ∈ C
        · obtain ⟨q, hq, hqe, _⟩ := idx_lt hmem
          have hie : i = q := by rw [← hi, hqe]
          rw [hi] at HG
          subst hie
          have Hall2 : Hid (∀ u ∈ (L.take (k + 1)).filter (fun u => decide (u ∈ S)), u ∈ C) := Lib.hid (by
            rw [HF.out]
            intro u hu
            rcases List.mem_append.1 hu with hu | hu
            · exact Hall.out u hu
            · rw [List.mem_singleton.1 hu]; exact hmem)
          have Hf2 := Lib.hid (lo_snoc (growI C S (L.take k)) q)
          have Hl2 := Lib.hid (hi_snoc (growI C S (L.take k)) q)
          rw [← HG.out, Hf.out] at Hf2
          rw [← HG.out, Hl.out] at Hl2
          have Hn2 : Hid ((growI C S (L.take (k + 1))).length = n + 1) := Lib.hid (by rw [HG.out, List.length_append, Hn.out]; rfl)
          clear hmem hi hqe
          have hq0 : ¬ (q : Int) < 0 := by omega
          by_cases h1 : f < 0 <;> by_cases h2 : (q : Int) < f <;> by_cases h3 : l < (q : Int) <;> first | (exact absurd h2 (by omega)) | skip
          all_goals
            have Hf3 := Hf2
            have Hl3 := Hl2
            clear Hf2 Hl2
            go_wp2_with (go_at_call 42; apply Calls.mono; (with_reducible exact Hix.out _ (by (repeat (first | exact Grew.refl _ | refine Grew.over ?_ _ | refine Grew.alloc ?_ _ | refine Grew.drew ?_ | refine Grew.drewN ?_ _)))); rintro e w' ⟨rfl, rfl⟩)
            go_round
            case rel => exact ⟨k + 1, by omega, by go_num, by rw [Hf3.out]; congr 1; split <;> omega, by rw [Hl3.out]; congr 1; omega, by rw [Hn2.out]; go_num, Hall2.out⟩
            case measure => simp [intOf]; omega
        · have hie : i = -1 := by
            have h1 := mt idx_mem.1 hmem
            have h2 := idx_take_none (v := (x : Int)) (xs := C) (fun j hj e => hmem (by rw [e]; exact ge_mem hj))
            omega
          subst hie
          have Hno : Hid (growF C S L v = none) := Lib.hid (by
            unfold growF
            rw [if_neg]
            intro h
            have h1 := List.all_eq_true.1 h (x : Int) (by
              have : (x : Int) ∈ (L.take (k + 1)).filter (fun u => decide (u ∈ S)) := by rw [HF.out]; simp
              obtain ⟨g1, g2⟩ := List.mem_filter.1 this
              exact List.mem_filter.2 ⟨List.mem_of_mem_take g1, g2⟩)
            exact hmem (of_decide_eq_true h1))
          clear hmem hi
          go_wp2_with (go_at_call 42; apply Calls.mono; (with_reducible exact Hix.out _ (by (repeat (first | exact Grew.refl _ | refine Grew.over ?_ _ | refine Grew.alloc ?_ _ | refine Grew.drew ?_ | refine Grew.drewN ?_ _)))); rintro e w' ⟨rfl, rfl⟩)
          go_ret2
          exact ⟨Hg1.out.trans (by (repeat (first | exact Grew.refl _ | refine Grew.over ?_ _ | refine Grew.alloc ?_ _ | refine Grew.drew ?_ | refine Grew.drewN ?_ _))), by rw [Hno.out]; rfl⟩
      · rw [decide_eq_false hin] at s1
        rw [if_neg hin, List.append_nil] at HG HF
        clear hin
        go_wp2
        go_round
        case rel => exact ⟨k + 1, by omega, by go_num, by rw [HG.out, Hf.out], by rw [HG.out, Hl.out], by rw [HG.out, Hn.out], by rw [HF.out]; exact Hall.out⟩
        case measure => simp [intOf]; omega
    · have hke : k = L.length := by omega
      have Hg : Hid (growF C S L v = if n < 2 ∨ l - f ≠ (n : Int) - 1 then none else some (C.take (f + 1).toNat ++ [(v : Int)] ++ C.drop l.toNat)) := Lib.hid (by
        have h1 := Hall.out; have h2 := Hf.out; have h3 := Hl.out; have h4 := Hn.out
        rw [hke, List.take_length] at h1 h2 h3 h4
        unfold growF
        rw [if_pos (List.all_eq_true.2 (fun u hu => decide_eq_true (h1 u hu)))]
        unfold spanF
        rw [h2, h3, h4])
      have hend : ¬ n < 2 → 0 ≤ f ∧ f ≤ l ∧ l < C.length := fun hn2 => by
        have h1 := growI_in Hall.out
        have hne : growI C S (L.take k) ≠ [] := fun e => by have := Hn.out; rw [e] at this; simp at this; omega
        have a := lo_mem (fun i hi => (h1 i hi).1) hne
        have b := hi_mem (fun i hi => (h1 i hi).1) hne
        rw [Hf.out] at a
        rw [Hl.out] at b
        have := h1 _ a.1
        have := h1 _ b.1
        have := a.2 _ b.1
        omega
      clear Hall Hf Hl Hn
      by_cases hn2 : n < 2
      · replace Hg : Hid (growF C S L v = none) := Lib.hid (by rw [Hg.out, if_pos (Or.inl hn2)])
        have hn2i : (n : Int) < 2 := by omega
        clear hend
        go_wp2
        go_ret2
        exact ⟨Hg1.out.trans (by (repeat (first | exact Grew.refl _ | refine Grew.over ?_ _ | refine Grew.alloc ?_ _ | refine Grew.drew ?_ | refine Grew.drewN ?_ _))), by rw [Hg.out]; rfl⟩
      · obtain ⟨f0, f1, f2⟩ := hend hn2
        have hn2i : ¬ (n : Int) < 2 := by omega
        clear hend
        by_cases hsp : l - f = (n : Int) - 1
        · replace Hg : Hid (growF C S L v = some (C.take (f + 1).toNat ++ [(v : Int)] ++ C.drop l.toNat)) := Lib.hid (by rw [Hg.out, if_neg (by omega)])
          obtain ⟨a, rfl⟩ := Int.eq_ofNat_of_zero_le f0
          obtain ⟨b, rfl⟩ := Int.eq_ofNat_of_zero_le (show 0 ≤ l by omega)
          obtain ⟨bC, oC, rfl, lC, _⟩ := HC.out.cells (by omega)
          have HT := Lib.hid (HC.out.cut (k := a + 1) (by omega))
          have hTl : (C.take (a + 1)).length = a + 1 := by rw [List.length_take]; omega
          have HTl := Lib.hid hTl
          have HD := Lib.hid (HC.out.drop (k := b) (by omega))
          have hDl : (C.drop b).length = C.length - b := List.length_drop ..
          have HDl := Lib.hid hDl
          have hvb : (v : Int) ≤ 9223372036854775807 := by omega
          clear hTl hDl
          go_wp2_with (first
            | (go_at_call 21; apply Calls.mono; (with_reducible exact clone_i _ _ _ _ _ (HT.out.grew (Hg1.out.trans (by (repeat (first | exact Grew.refl _ | refine Grew.over ?_ _ | refine Grew.alloc ?_ _ | refine Grew.drew ?_ | refine Grew.drewN ?_ _))))) (by rw [HTl.out]; omega) HTl.out); rintro e w2 ⟨hg2, p2, c2, rfl, hO2⟩; have HO2 := Lib.hid hO2; have Hg2 := Lib.hid (Grew.trans Hg1.out (Grew.trans (by (repeat (first | exact Grew.refl _ | refine Grew.over ?_ _ | refine Grew.alloc ?_ _ | refine Grew.drew ?_ | refine Grew.drewN ?_ _))) hg2)); have hs2 := hg2.below.size; clear hO2 hg2)
            | (at_builtin; refine wp_append_owns rfl _ _ 26 rfl 3 1 8 (.int .i64 0) Tryd.underlying26 Tryd.infoInt rfl (by decide) (wn.heap.size) _ 0 _ _ _ (HO2.out.grew (by (repeat (first | exact Grew.refl _ | refine Grew.over ?_ _ | refine Grew.alloc ?_ _ | refine Grew.drew ?_ | refine Grew.drewN ?_ _)))) rfl rfl _ 1 1 rfl [.int .i64 ((v : Int))] rfl (fun h => by cases h) (one_news _ (by first | (go_simp; done) | (simp [go_sem, ↓IntWalk.iteOmega, *]; done))) (by simp [Value.oneCell']) (by simp only [maxLen]; omega) (by omega) (by first | rfl | omega | (simp <;> omega)) ?_; intro v1 w1 hO1 hg1 hb1 hv1; have Hg3 := Lib.hid (Grew.grownBy (w0 := w) (Hg2.out.trans (by (repeat (first | exact Grew.refl _ | refine Grew.over ?_ _ | refine Grew.alloc ?_ _ | refine Grew.drew ?_ | refine Grew.drewN ?_ _)))) hg1 (fun g h => by have := hb1 g h; omega)); have HO3 := Lib.hid hO1; have hs3 := hg1.size; simp at hs3; clear hO1 hg1 hb1 hv1)
            | (at_builtin; refine wp_append_owns rfl _ _ 26 rfl 3 1 8 (.int .i64 0) Tryd.underlying26 Tryd.infoInt rfl (by decide) (wn.heap.size) _ 0 _ _ _ (HO3.out.grew (by (repeat (first | exact Grew.refl _ | refine Grew.over ?_ _ | refine Grew.alloc ?_ _ | refine Grew.drew ?_ | refine Grew.drewN ?_ _)))) rfl rfl _ _ _ rfl (intVs (C.drop b)) (by rw [intVs_length, Nat.mul_one]; try first | rfl | assumption | (simp; done) | omega) (fun h => by cases h) (Ints.news (HD.out.grew (Hg3.out.trans (by (repeat (first | exact Grew.refl _ | refine Grew.over ?_ _ | refine Grew.alloc ?_ _ | refine Grew.drew ?_ | refine Grew.drewN ?_ _)))))) (intVs_one _) (by simp only [maxLen]; omega) (by omega) (by first | rfl | omega | (simp <;> omega)) ?_; intro v1 w1 hO1 hg1 hb1 hv1; have Hg4 := Lib.hid (Grew.grownBy (w0 := w) (Hg3.out.trans (by (repeat (first | exact Grew.refl _ | refine Grew.over ?_ _ | refine Grew.alloc ?_ _ | refine Grew.drew ?_ | refine Grew.drewN ?_ _)))) hg1 (fun g h => by have := hb1 g h; omega)); have HO4 := Lib.hid hO1; clear hO1 hg1 hb1 hv1))
          have hbd : ∀ x ∈ C.take (a + 1) ++ [(v : Int)] ++ C.drop b, -9223372036854775808 ≤ x ∧ x ≤ 9223372036854775807 := by
            intro x hx
            rw [List.append_assoc] at hx
            rcases List.mem_append.1 hx with hx | hx
            · exact HC.out.2.1 x (List.mem_of_mem_take hx)
            · rcases List.mem_append.1 hx with hx | hx
              · rw [List.mem_singleton.1 hx]; omega
              · exact HC.out.2.1 x (List.mem_of_mem_drop hx)
          have h5 := HO4.out
          rw [show intVs (C.take (a + 1)) ++ [.int .i64 (v : Int)] ++ intVs (C.drop b) = intVs (C.take (a + 1) ++ [(v : Int)] ++ C.drop b) by rw [intVs_app', intVs_app']; rfl] at h5
          obtain ⟨q, cap, e1, e2, e3, e4, e5, e6⟩ := own_ints h5 (k := 0) rfl hbd
          subst e1
          have H6 := Lib.hid e6
          have H5 := Lib.hid e5
          have H2 := Lib.hid e2
          clear h5 e6 e5 hbd
          go_ret2
          refine ⟨Hg4.out, ?_⟩
          rw [Hg.out, show ((a : Int) + 1).toNat = a + 1 by omega, show ((b : Nat) : Int).toNat = b by omega]
          exact ⟨q, cap, by rw [H2.out]; rfl, H6.out _ (Grew.refl _), by omega, e4, fun a ha => by have := (H5.out a ha).1; omega⟩
        · replace Hg : Hid (growF C S L v = none) := Lib.hid (by rw [Hg.out, if_pos (Or.inr hsp)])
          go_wp2
          go_ret2
          exact ⟨Hg1.out.trans (by (repeat (first | exact Grew.refl _ | refine Grew.over ?_ _ | refine Grew.alloc ?_ _ | refine Grew.drew ?_ | refine Grew.drewN ?_ _))), by rw [Hg.out]; rfl⟩

end Go.Proofs.YtdacnkjmimhcaaaDoor
