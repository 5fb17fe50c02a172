/- Contours, plain: they are paths from v1 to v2. -/
import Derived.Test.YtdacnkjmimhcaaaDoorCanF
set_option linter.unusedSimpArgs false
set_option linter.unusedVariables false
namespace Go.Proofs.YtdacnkjmimhcaaaDoor
open Go.RowKit

theorem join_symm (E : List (Int × Int)) (u v : Int) : joinB E u v = joinB E v u := by
  unfold joinB
  congr 1
  funext a
  unfold jn
  rw [Bool.or_comm]

section
variable {N : Int} {E : List (Int × Int)} {A : List (List Int)} {O : List Int}
theorem dart_join (hV : vRot N E A) {d : Int} (h0 : 0 ≤ d) (h1 : d < 2 * E.length) : joinB E (tailE E d) (tailE E (nxF A d)) = true := by
  obtain ⟨o0, o1⟩ := oth_in h0 h1
  unfold nxF
  rw [suc_tail hV o0 o1]
  exact join_hit (i := (d / 2).toNat) (by omega) (edge_join h0 h1)
theorem tri_next (hT : trgB N E A = true) : nxF A (nxF A (nxF A 0)) = 0 := by
  have hV := trg_valid hT
  have hE := trg_pos hT
  have hD := fac_dec hV
  have hm := (hD.mem 0).2 (by omega)
  obtain ⟨l, hl, h0⟩ := List.mem_flatten.1 hm
  have hc := hD.cyc l hl
  have hlen : l.length = 3 := by
    unfold trgB at hT
    rw [Bool.and_eq_true, List.all_eq_true] at hT
    have := hT.2 l (by unfold facesO; rw [if_pos (vRotB_iff.2 hV)]; exact hl)
    exact of_decide_eq_true this
  obtain ⟨i, hi, e⟩ := mem_ge.1 h0
  have a0 := hc.idx hi
  have a1 := hc.idx (k := (i + 1) % l.length) (Nat.mod_lt _ (by omega))
  have a2 := hc.idx (k := ((i + 1) % l.length + 1) % l.length) (Nat.mod_lt _ (by omega))
  rw [hlen] at a0 a1 a2
  rw [e] at a0
  rw [a0, a1, a2]
  rw [← e]
  congr 1
  omega
theorem third_join (hT : trgB N E A = true) : joinB E (tailF N E A 0) (thirdF N E A) = true ∧ joinB E (tailF N E A 1) (thirdF N E A) = true ∧ joinB E (tailF N E A 0) (tailF N E A 1) = true := by
  have hV := trg_valid hT
  have hE := trg_pos hT
  have e0 : tailF N E A 0 = tailE E 0 := by unfold tailF; rw [if_pos ⟨vRotB_iff.2 hV, by omega, by omega⟩]
  have e1 : tailF N E A 1 = tailE E 1 := by unfold tailF; rw [if_pos ⟨vRotB_iff.2 hV, by omega, by omega⟩]
  have hn : nextF N E A 0 = nxF A 0 := by unfold nextF; rw [if_pos ⟨vRotB_iff.2 hV, by omega, by omega⟩]; rfl
  have t3 := tri_next hT
  obtain ⟨d0, d1⟩ := nxF_in hV (e := 0) (by omega) (by omega)
  have j0 := dart_join hV (d := 0) (by omega) (by omega)
  have j1 := dart_join hV d0 d1
  have s1 : tailE E (nxF A 0) = tailE E 1 := by
    have := oth_in (d := 0) (M := E.length) (by omega) (by omega)
    unfold nxF
    rw [suc_tail hV this.1 this.2]
    rfl
  generalize nxF A 0 = d at *
  have hn2 : nextF N E A d = nxF A d := by unfold nextF; rw [if_pos ⟨vRotB_iff.2 hV, d0, d1⟩]; rfl
  obtain ⟨f0, f1⟩ := nxF_in hV d0 d1
  have j2 := dart_join hV f0 f1
  unfold thirdF
  rw [hn, hn2]
  generalize nxF A d = f at *
  have e2 : tailF N E A f = tailE E f := by unfold tailF; rw [if_pos ⟨vRotB_iff.2 hV, f0, f1⟩]
  rw [t3] at j2
  rw [s1] at j0 j1
  rw [e0, e1, e2]
  exact ⟨by rw [join_symm]; exact j2, j1, j0⟩

theorem cut_len {C : List Int} {w : Int} {p q : Nat} (hpq : p < q) (hq : q < C.length) : (C.take (p + 1) ++ w :: C.drop q).length = p + 2 + (C.length - q) := by
  simp; omega
theorem cut_ge {C : List Int} {w : Int} {p q : Nat} (hpq : p < q) (hq : q < C.length) (i : Nat) : ge (C.take (p + 1) ++ w :: C.drop q) i = if i ≤ p then ge C i else if i = p + 1 then w else ge C (q + (i - p - 2)) := by
  unfold ge
  simp only [List.getD_eq_getElem?_getD]
  by_cases h1 : i ≤ p
  · rw [if_pos h1, List.getElem?_append_left (by rw [List.length_take]; omega), List.getElem?_take, if_pos (by omega)]
  · rw [if_neg h1, List.getElem?_append_right (by rw [List.length_take]; omega), List.length_take, Nat.min_eq_left (by omega)]
    by_cases h2 : i = p + 1
    · rw [if_pos h2, h2, Nat.sub_self]; rfl
    · rw [if_neg h2, show i - (p + 1) = (i - p - 2) + 1 by omega, List.getElem?_cons_succ, List.getElem?_drop]

/-- A path from v1 to v2 over the last vertex. -/
structure Way (E : List (Int × Int)) (O : List Int) (j : Nat) (C : List Int) : Prop where
  two : 2 ≤ C.length
  fst : ge C 0 = ge O 0
  lst : ge C (C.length - 1) = ge O 1
  has : ge O (j + 1) ∈ C
  adj : ∀ i, i + 1 < C.length → joinB E (ge C i) (ge C (i + 1)) = true
theorem stepI_join {C : List Int} {w : Int} {p : Nat} (h : (p : Int) ∈ stepI E C w) : joinB E (ge C p) w = true := by
  unfold stepI at h
  obtain ⟨i, hi, e⟩ := List.mem_map.1 h
  have : i = p := by have e' : (i : Int) = (p : Int) := e; omega
  subst this
  exact (List.mem_filter.1 hi).2
theorem stepI_of {C : List Int} {w : Int} {p : Nat} (hp : p < C.length) (h : joinB E (ge C p) w = true) : (p : Int) ∈ stepI E C w :=
  List.mem_map.2 ⟨p, List.mem_filter.2 ⟨List.mem_range.2 hp, h⟩, rfl⟩
theorem step_span {S C D : List Int} {w : Int} (h : stepF E S C w = some D) : spanF C w (stepI E C w) = some D := by
  unfold stepF at h
  split at h
  · cases h
  · exact h
theorem way_base (hT : trgB N E A = true) (h0 : ge O 0 = tailF N E A 0) (h1 : ge O 1 = tailF N E A 1) : Way E O 0 [ge O 0, ge O 1] := by
  refine ⟨by simp, rfl, rfl, by simp, fun i hi => ?_⟩
  have : i = 0 := by simp at hi; omega
  subst this
  show joinB E (ge O 0) (ge O 1) = true
  rw [h0, h1]
  exact (third_join hT).2.2
theorem way_step {j : Nat} {C D S : List Int} (hW : Way E O j C) (h : stepF E S C (ge O (j + 2)) = some D) : Way E O (j + 1) D := by
  obtain ⟨p, q, hpq, hq, _, _, rfl, hp, hq', _⟩ := span_inv (fun i hi => stepI_pos hi) (step_span h)
  have hjp := stepI_join hp
  have hjq := stepI_join hq'
  have hl := cut_len (C := C) (w := ge O (j + 2)) hpq hq
  refine ⟨by rw [hl]; omega, ?_, ?_, ?_, fun i hi => ?_⟩
  · rw [cut_ge hpq hq, if_pos (by omega)]; exact hW.fst
  · rw [hl, cut_ge hpq hq, if_neg (by omega), if_neg (by omega), ← hW.lst]; congr 1; omega
  · simp
  · rw [hl] at hi
    rw [cut_ge hpq hq, cut_ge hpq hq]
    by_cases a : i + 1 ≤ p
    · rw [if_pos (by omega), if_pos a]; exact hW.adj i (by omega)
    · rw [if_neg a]
      by_cases b : i ≤ p
      · have : i = p := by omega
        subst this
        rw [if_pos b, if_pos rfl]
        exact hjp
      · rw [if_neg b, if_neg (show ¬ i + 1 = p + 1 by omega)]
        by_cases c : i = p + 1
        · rw [if_pos c, show q + (i + 1 - p - 2) = q by omega, join_symm]
          exact hjq
        · rw [if_neg c, show q + (i + 1 - p - 2) = q + (i - p - 2) + 1 by omega]
          exact hW.adj _ (by omega)
theorem way_all (hT : trgB N E A = true) (h0 : ge O 0 = tailF N E A 0) (h1 : ge O 1 = tailF N E A 1) : ∀ {j : Nat} {C : List Int}, contR E O j = some C → Way E O j C
  | 0, C, h => by unfold contR at h; cases h; exact way_base hT h0 h1
  | j + 1, C, h => by
    unfold contR at h
    cases hd : contR E O j with
    | none => rw [hd] at h; cases h
    | some D =>
      rw [hd] at h
      exact way_step (way_all hT h0 h1 hd) h
/-- The last contour. -/
theorem way_last {j : Nat} {C D S : List Int} (hW : Way E O j C) (hC : C.Nodup) (h : stepF E S C (ge O (j + 2)) = some D) (j0 : joinB E (ge O 0) (ge O (j + 2)) = true) (j1 : joinB E (ge O 1) (ge O (j + 2)) = true) : D.length = 3 ∧ ge D 1 = ge O (j + 2) := by
  have h2 := hW.two
  obtain ⟨p, q, hpq, hq, hlo, hhi, rfl, hp, hq', _⟩ := span_inv (fun i hi => stepI_pos hi) (step_span h)
  have m0 : ((0 : Nat) : Int) ∈ stepI E C (ge O (j + 2)) := stepI_of (by omega) (by rw [hW.fst]; exact j0)
  have m1 : ((C.length - 1 : Nat) : Int) ∈ stepI E C (ge O (j + 2)) := stepI_of (by omega) (by rw [hW.lst]; exact j1)
  have a := (lo_mem (fun i hi => (stepI_pos hi).1) (List.ne_nil_of_mem m0)).2 _ m0
  have b := (hi_mem (fun i hi => (stepI_pos hi).1) (List.ne_nil_of_mem m0)).2 _ m1
  have hp0 : p = 0 := by omega
  subst hp0
  refine ⟨by rw [cut_len hpq hq]; omega, by rw [cut_ge hpq hq, if_neg (by omega), if_pos rfl]⟩

/-- What the law says of a contour. -/
structure Goes (N : Int) (E : List (Int × Int)) (O : List Int) (j : Nat) (C : List Int) : Prop extends Way E O j C where
  nd : C.Nodup
  len : C.length ≤ j + 2
  fin : (j : Int) + 2 = N → C.length = 3 ∧ ge C 1 = ge O (j + 1)
theorem cont_goes (h : chkO N E A O = true) {j : Nat} (hj : (j : Int) + 2 ≤ N) : ∃ C, contP N E A O j = some C ∧ Goes N E O j C := by
  obtain ⟨hT, hl, ⟨h0, h1, h2⟩, hc⟩ := chkO_iff.1 h
  have h3 := trg_three hT
  obtain ⟨C, hC⟩ := Option.isSome_iff_exists.1 hc
  obtain ⟨D, hD⟩ := contP_some hC j (by omega)
  obtain ⟨g1, g2, _, _⟩ := cont_fwd hT (head_fine hT (by omega) h0 h1) (by omega) hD
  have hW := way_all hT h0 h1 g1
  refine ⟨D, hD, ⟨hW, g2, contR_len g1, fun e => ?_⟩⟩
  obtain ⟨i, rfl⟩ : ∃ i, j = i + 1 := ⟨j - 1, by omega⟩
  obtain ⟨D', hD'⟩ := contP_some hD i (by omega)
  obtain ⟨k1, k2, _, _⟩ := cont_fwd hT (head_fine hT (by omega) h0 h1) (by omega) hD'
  unfold contR at g1
  rw [k1] at g1
  have tj := third_join hT
  rw [← h0, ← h1, ← h2, show (N - 1).toNat = i + 2 by omega] at tj
  exact way_last (way_all hT h0 h1 k1) k2 g1 tj.1 tj.2.1
theorem goes_new {j : Nat} {C : List Int} (hG : Goes N E O j C) {i : Nat} (hi : i < C.length) : ge C i ∉ C.take i := by
  intro hm
  obtain ⟨k, hk, e⟩ := mem_ge.1 hm
  rw [List.length_take] at hk
  have e2 : ge (C.take i) k = ge C k := by
    unfold ge
    simp only [List.getD_eq_getElem?_getD]
    rw [List.getElem?_take, if_pos (by omega)]
  rw [e2, ge_eq C (by omega), ge_eq C hi] at e
  have := (List.getElem_inj hG.nd).1 e
  omega
end
end Go.Proofs.YtdacnkjmimhcaaaDoor
