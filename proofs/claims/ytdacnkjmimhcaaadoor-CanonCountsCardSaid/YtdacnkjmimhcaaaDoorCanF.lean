/- Canonical orders, plain: the reference's and the program's check agree. -/
import Derived.Test.YtdacnkjmimhcaaaDoorCanE
set_option linter.unusedSimpArgs false
set_option linter.unusedVariables false
namespace Go.Proofs.YtdacnkjmimhcaaaDoor
open Go.RowKit

section
variable {N : Int} {E : List (Int × Int)} {A : List (List Int)} {O : List Int}
def ordB (N : Int) (O : List Int) : Bool := (List.range O.length).all fun i => decide (0 ≤ ge O i) && decide (ge O i < N) && !decide (ge O i ∈ O.take i)
noncomputable def thirdR (N : Int) (E : List (Int × Int)) (A : List (List Int)) : Int := tailF N E A (oth (nextF N E A 0))
noncomputable def headR (N : Int) (E : List (Int × Int)) (A : List (List Int)) (O : List Int) : Bool := decide (ge O 0 = tailF N E A 0) && decide (ge O 1 = tailF N E A 1) && decide (ge O (N - 1).toNat = thirdR N E A)
noncomputable def chkR (N : Int) (E : List (Int × Int)) (A : List (List Int)) (O : List Int) : Bool := trgB N E A && decide ((O.length : Int) = N) && ordB N O && headR N E A O && (contR E O (N - 2).toNat).isSome

theorem third_same (h : trgB N E A = true) : thirdR N E A = thirdF N E A := by
  have hV := trg_valid h
  have hE := trg_pos h
  have h0 : nextF N E A 0 = nxF A 0 := by unfold nextF; rw [if_pos ⟨vRotB_iff.2 hV, by omega, by omega⟩]; rfl
  obtain ⟨d0, d1⟩ := nxF_in hV (e := 0) (by omega) (by omega)
  unfold thirdR thirdF
  rw [h0]
  generalize nxF A 0 = d at *
  obtain ⟨o0, o1⟩ := oth_in d0 d1
  have h1 : nextF N E A d = nxF A d := by unfold nextF; rw [if_pos ⟨vRotB_iff.2 hV, d0, d1⟩]; rfl
  obtain ⟨e0, e1⟩ := nxF_in hV d0 d1
  rw [h1]
  unfold tailF
  rw [if_pos ⟨vRotB_iff.2 hV, o0, o1⟩, if_pos ⟨vRotB_iff.2 hV, e0, e1⟩]
  unfold nxF
  rw [suc_tail hV o0 o1]

/-- What a step leaves of a contour. -/
theorem span_inv {C I D : List Int} {w : Int} (hI : ∀ i ∈ I, 0 ≤ i ∧ i < (C.length : Int)) (h : spanF C w I = some D) :
    ∃ p q : Nat, p < q ∧ q < C.length ∧ lo I = p ∧ hi I = q ∧ D = C.take (p + 1) ++ w :: C.drop q ∧ (p : Int) ∈ I ∧ (q : Int) ∈ I ∧ I.length = q - p + 1 := by
  unfold spanF at h
  split at h
  · cases h
  · rename_i hn
    cases h
    have hne : I ≠ [] := fun e => by subst e; simp at hn
    have a := (lo_mem (fun i hi => (hI i hi).1) hne).1
    have b := (hi_mem (fun i hi => (hI i hi).1) hne).1
    have a' := hI _ a
    have b' := hI _ b
    obtain ⟨p, hp⟩ := Int.eq_ofNat_of_zero_le a'.1
    obtain ⟨q, hq⟩ := Int.eq_ofNat_of_zero_le b'.1
    refine ⟨p, q, by omega, by omega, hp, hq, ?_, by rw [← hp]; exact a, by rw [← hq]; exact b, by omega⟩
    rw [hp, hq, show ((p : Int) + 1).toNat = p + 1 by omega, show ((q : Nat) : Int).toNat = q by omega, List.append_assoc]
    rfl
theorem nodup_cut {C : List Int} {w : Int} (hC : C.Nodup) (hw : w ∉ C) {p q : Nat} (hpq : p < q) : (C.take (p + 1) ++ w :: C.drop q).Nodup := by
  have h1 : (C.take (p + 1) ++ C.drop q).Nodup := by
    have : (C.take (p + 1) ++ C.drop q).Sublist C := by
      have h2 : (C.drop q).Sublist (C.drop (p + 1)) := by
        rw [show q = (p + 1) + (q - (p + 1)) by omega, ← List.drop_drop]
        exact List.drop_sublist _ _
      have h3 := (List.Sublist.refl (C.take (p + 1))).append h2
      rwa [List.take_append_drop] at h3
    exact hC.sublist this
  rw [List.nodup_append] at h1 ⊢
  refine ⟨h1.1, List.nodup_cons.2 ⟨fun h => hw (List.mem_of_mem_drop h), h1.2.1⟩, fun a ha b hb => ?_⟩
  rcases List.mem_cons.1 hb with rfl | hb
  · exact fun e => hw (e ▸ List.mem_of_mem_take ha)
  · exact h1.2.2 a ha b hb
theorem mem_cut {C : List Int} {w u : Int} {p q : Nat} (h : u ∈ C.take (p + 1) ++ w :: C.drop q) : u ∈ C ∨ u = w := by
  rcases List.mem_append.1 h with h | h
  · exact Or.inl (List.mem_of_mem_take h)
  · rcases List.mem_cons.1 h with h | h
    · exact Or.inr h
    · exact Or.inl (List.mem_of_mem_drop h)
theorem step_inv {S C D : List Int} {w : Int} (hC : C.Nodup) (hw : w ∉ C) (h : stepF E S C w = some D) : D.Nodup ∧ ∀ u ∈ D, u ∈ C ∨ u = w := by
  unfold stepF at h
  split at h
  · cases h
  · obtain ⟨p, q, hpq, _, _, _, rfl, _⟩ := span_inv (fun i hi => stepI_pos hi) h
    exact ⟨nodup_cut hC hw hpq, fun u hu => mem_cut hu⟩

/-- The first k vertices of an order are different vertices. -/
def Fine (N : Int) (O : List Int) (k : Nat) : Prop := (O.take k).Nodup ∧ ∀ u ∈ O.take k, 0 ≤ u ∧ u < N
theorem Fine.succ {k : Nat} (h : Fine N O k) (hk : k < O.length) (h0 : 0 ≤ ge O k) (h1 : ge O k < N) (h2 : ge O k ∉ O.take k) : Fine N O (k + 1) := by
  unfold Fine
  rw [take_succ' hk]
  refine ⟨List.nodup_append.2 ⟨h.1, by simp, fun a ha b hb => ?_⟩, fun u hu => ?_⟩
  · rw [List.mem_singleton.1 hb]; exact fun e => h2 (e ▸ ha)
  · rcases List.mem_append.1 hu with hu | hu
    · exact h.2 u hu
    · rw [List.mem_singleton.1 hu]; exact ⟨h0, h1⟩
theorem Fine.pred {k : Nat} (h : Fine N O (k + 1)) (hk : k < O.length) : Fine N O k ∧ 0 ≤ ge O k ∧ ge O k < N ∧ ge O k ∉ O.take k := by
  unfold Fine at h
  rw [take_succ' hk] at h
  obtain ⟨h1, h2⟩ := h
  rw [List.nodup_append] at h1
  have h3 := h2 (ge O k) (by simp)
  exact ⟨⟨h1.1, fun u hu => h2 u (List.mem_append_left _ hu)⟩, h3.1, h3.2, fun hm => h1.2.2 _ hm _ (by simp) rfl⟩
theorem Fine.mono {k j : Nat} (h : Fine N O k) (hj : j ≤ k) : Fine N O j := by
  have hs : (O.take j).Sublist (O.take k) := by rw [← take_take' O hj]; exact List.take_sublist _ _
  exact ⟨h.1.sublist hs, fun u hu => h.2 u (hs.subset hu)⟩
theorem ordB_fine : ordB N O = true ↔ Fine N O O.length := by
  unfold ordB
  rw [List.all_eq_true]
  have key : (∀ x ∈ List.range O.length, (decide (0 ≤ ge O x) && decide (ge O x < N) && !decide (ge O x ∈ O.take x)) = true) ↔ ∀ i, i < O.length → 0 ≤ ge O i ∧ ge O i < N ∧ ge O i ∉ O.take i := by
    constructor
    · intro h i hi
      have := h i (List.mem_range.2 hi)
      simp only [Bool.and_eq_true, decide_eq_true_iff, Bool.not_eq_true', decide_eq_false_iff_not] at this
      exact ⟨this.1.1, this.1.2, this.2⟩
    · intro h i hi
      have := h i (List.mem_range.1 hi)
      simp only [Bool.and_eq_true, decide_eq_true_iff, Bool.not_eq_true', decide_eq_false_iff_not]
      exact ⟨⟨this.1, this.2.1⟩, this.2.2⟩
  rw [key]
  constructor
  · intro h
    have : ∀ k, k ≤ O.length → Fine N O k := by
      intro k
      induction k with
      | zero => intro _; exact ⟨by simp, fun u hu => by simp at hu⟩
      | succ k ih => intro hk; obtain ⟨a, b, c⟩ := h k (by omega); exact (ih (by omega)).succ (by omega) a b c
    exact this _ (Nat.le_refl _)
  · intro h i hi
    exact ((h.mono (show i + 1 ≤ O.length by omega)).pred hi).2

theorem head_fine (hT : trgB N E A = true) (hl : 2 ≤ O.length) (h0 : ge O 0 = tailF N E A 0) (h1 : ge O 1 = tailF N E A 1) : Fine N O 2 := by
  have hV := trg_valid hT
  have hE := trg_pos hT
  have e0 : tailF N E A 0 = tailE E 0 := by unfold tailF; rw [if_pos ⟨vRotB_iff.2 hV, by omega, by omega⟩]
  have e1 : tailF N E A 1 = tailE E 1 := by unfold tailF; rw [if_pos ⟨vRotB_iff.2 hV, by omega, by omega⟩]
  have b0 := tail_in hV (d := 0) (by omega) (by omega)
  have b1 := tail_in hV (d := 1) (by omega) (by omega)
  have hne := ends_ne hV hE
  unfold Fine
  rw [take_two hl, h0, h1, e0, e1]
  refine ⟨by simpa using hne, fun u hu => ?_⟩
  rcases List.mem_cons.1 hu with rfl | hu
  · exact b0
  · rw [List.mem_singleton.1 hu]; exact b1
theorem cont_fwd (hT : trgB N E A = true) (h2 : Fine N O 2) : ∀ {j : Nat} {C : List Int}, j + 2 ≤ O.length → contP N E A O j = some C → contR E O j = some C ∧ C.Nodup ∧ (∀ u ∈ C, u ∈ O.take (j + 2)) ∧ Fine N O (j + 2)
  | 0, C, hj, h => by
    unfold contP at h
    cases h
    refine ⟨by unfold contR; rw [take_two (by omega)], h2.1, fun u hu => hu, h2⟩
  | j + 1, C, hj, h => by
    unfold contP at h
    cases hd : contP N E A O j with
    | none => rw [hd] at h; cases h
    | some D =>
      obtain ⟨g1, g2, g3, g4⟩ := cont_fwd hT h2 (by omega) hd
      rw [hd] at h
      simp only [Option.bind_some] at h
      split at h
      · rename_i hok
        unfold okNew at hok
        simp only [Bool.and_eq_true, decide_eq_true_iff, Bool.not_eq_true', decide_eq_false_iff_not] at hok
        have hV := trg_valid hT
        have hal := hV.al
        have hF := g4.succ (by omega) hok.1.1 hok.1.2 hok.2
        have hgs := grow_step hV (trg_simple hT) (v := (ge O (j + 2)).toNat) (by omega) g4.1 g2 g3
        rw [show (((ge O (j + 2)).toNat : Nat) : Int) = ge O (j + 2) by omega] at hgs
        rw [hgs] at h
        obtain ⟨i1, i2⟩ := step_inv g2 (fun hm => hok.2 (g3 _ hm)) h
        refine ⟨by unfold contR; rw [g1]; exact h, i1, fun u hu => ?_, hF⟩
        rw [take_succ' (by omega)]
        rcases i2 u hu with hu | hu
        · exact List.mem_append_left _ (g3 u hu)
        · exact List.mem_append_right _ (by simp [hu])
      · cases h
theorem cont_bwd (hT : trgB N E A = true) : ∀ {j : Nat} {C : List Int}, j + 2 ≤ O.length → Fine N O (j + 2) → contR E O j = some C → contP N E A O j = some C ∧ C.Nodup ∧ (∀ u ∈ C, u ∈ O.take (j + 2))
  | 0, C, hj, hF, h => by
    unfold contR at h
    cases h
    refine ⟨by unfold contP; rw [take_two (by omega)], ?_, fun u hu => by rw [take_two (by omega)]; exact hu⟩
    have := hF.1
    rwa [take_two (by omega)] at this
  | j + 1, C, hj, hF, h => by
    unfold contR at h
    obtain ⟨f1, f2, f3, f4⟩ := hF.pred (by omega)
    cases hd : contR E O j with
    | none => rw [hd] at h; cases h
    | some D =>
      obtain ⟨g1, g2, g3⟩ := cont_bwd hT (by omega) f1 hd
      rw [hd] at h
      simp only [Option.bind_some] at h
      have hV := trg_valid hT
      have hal := hV.al
      have hgs := grow_step hV (trg_simple hT) (v := (ge O (j + 2)).toNat) (by omega) f1.1 g2 g3
      rw [show (((ge O (j + 2)).toNat : Nat) : Int) = ge O (j + 2) by omega] at hgs
      obtain ⟨i1, i2⟩ := step_inv g2 (fun hm => f4 (g3 _ hm)) h
      refine ⟨?_, i1, fun u hu => ?_⟩
      · unfold contP
        rw [g1]
        simp only [Option.bind_some]
        rw [if_pos, hgs]
        · exact h
        · unfold okNew
          rw [decide_eq_true f2, decide_eq_true f3, decide_eq_false f4]
          rfl
      · rw [take_succ' (by omega)]
        rcases i2 u hu with hu | hu
        · exact List.mem_append_left _ (g3 u hu)
        · exact List.mem_append_right _ (by simp [hu])

theorem chkO_iff : chkO N E A O = true ↔ trgB N E A = true ∧ (O.length : Int) = N ∧ (ge O 0 = tailF N E A 0 ∧ ge O 1 = tailF N E A 1 ∧ ge O (N - 1).toNat = thirdF N E A) ∧ (contP N E A O (N - 2).toNat).isSome = true := by
  unfold chkO headB
  simp only [Bool.and_eq_true, decide_eq_true_iff]
  exact ⟨fun ⟨⟨a, ⟨⟨b, c⟩, d⟩, e⟩, f⟩ => ⟨a, b, ⟨c, d, e⟩, f⟩, fun ⟨a, b, ⟨c, d, e⟩, f⟩ => ⟨⟨a, ⟨⟨b, c⟩, d⟩, e⟩, f⟩⟩
theorem chkR_iff : chkR N E A O = true ↔ trgB N E A = true ∧ (O.length : Int) = N ∧ Fine N O O.length ∧ (ge O 0 = tailF N E A 0 ∧ ge O 1 = tailF N E A 1 ∧ ge O (N - 1).toNat = thirdR N E A) ∧ (contR E O (N - 2).toNat).isSome = true := by
  unfold chkR headR
  rw [← ordB_fine]
  simp only [Bool.and_eq_true, decide_eq_true_iff]
  exact ⟨fun ⟨⟨⟨⟨a, b⟩, o⟩, ⟨c, d⟩, e⟩, f⟩ => ⟨a, b, o, ⟨c, d, e⟩, f⟩, fun ⟨a, b, o, ⟨c, d, e⟩, f⟩ => ⟨⟨⟨⟨a, b⟩, o⟩, ⟨c, d⟩, e⟩, f⟩⟩
/-- Both checks agree. -/
theorem chk_same : chkR N E A O = chkO N E A O := by
  rw [Bool.eq_iff_iff, chkR_iff, chkO_iff]
  constructor
  · rintro ⟨hT, hl, hF, ⟨h0, h1, h2⟩, hc⟩
    have h3 := trg_three hT
    refine ⟨hT, hl, ⟨h0, h1, by rw [h2, third_same hT]⟩, ?_⟩
    obtain ⟨C, hC⟩ := Option.isSome_iff_exists.1 hc
    rw [(cont_bwd hT (by omega) (hF.mono (by omega)) hC).1]
    rfl
  · rintro ⟨hT, hl, ⟨h0, h1, h2⟩, hc⟩
    have h3 := trg_three hT
    obtain ⟨C, hC⟩ := Option.isSome_iff_exists.1 hc
    obtain ⟨g1, _, _, g4⟩ := cont_fwd hT (head_fine hT (by omega) h0 h1) (by omega) hC
    refine ⟨hT, hl, ?_, ⟨h0, h1, by rw [h2, third_same hT]⟩, by rw [g1]; rfl⟩
    rwa [show (N - 2).toNat + 2 = O.length by omega] at g4
theorem cont_same (h : chkO N E A O = true) {j : Nat} (hj : j + 2 ≤ O.length) : contR E O j = contP N E A O j := by
  obtain ⟨hT, hl, ⟨h0, h1, h2⟩, hc⟩ := chkO_iff.1 h
  have h3 := trg_three hT
  obtain ⟨C, hC⟩ := Option.isSome_iff_exists.1 hc
  obtain ⟨D, hD⟩ := contP_some hC j (by omega)
  rw [hD, (cont_fwd hT (head_fine hT (by omega) h0 h1) hj hD).1]
theorem contR_len : ∀ {j : Nat} {C : List Int}, contR E O j = some C → C.length ≤ j + 2
  | 0, C, h => by unfold contR at h; cases h; simp
  | j + 1, C, h => by
    unfold contR at h
    cases hd : contR E O j with
    | none => rw [hd] at h; cases h
    | some D =>
      rw [hd] at h
      simp only [Option.bind_some] at h
      unfold stepF at h
      split at h
      · cases h
      · have := spanF_succ (fun i hi => (stepI_pos hi).1) h
        have := contR_len hd
        omega
end
end Go.Proofs.YtdacnkjmimhcaaaDoor
