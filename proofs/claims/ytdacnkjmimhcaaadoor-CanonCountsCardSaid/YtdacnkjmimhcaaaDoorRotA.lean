/- Rotation systems in memory, and what is valid. -/
import Derived.Test.YtdacnkjmimhcaaaDoorMem
import Derived.Test.YtdacnkjmimhcaaaDoorTab
import Derived.Test.YtdacnkjmimhcaaaDoorHeld
import Derived.Deep.DeepCutAuto
import Derived.Deep.DrawnRows
set_option linter.unusedSimpArgs false
set_option linter.unusedVariables false
namespace Go.Proofs.YtdacnkjmimhcaaaDoor
open Go.RowKit
attribute [local go_sem ↓] Go.wp_at_zero Go.wp_at_succ

theorem Ints.cells {w : World} {p : Option Addr} {xs : List Int} (h : Ints w p xs) (h0 : 0 < xs.length) : ∃ b o, p = some ⟨b, o, none⟩ ∧ b < w.heap.size ∧ ∀ w' : World, Grew w w' → ∀ i, i < xs.length → w'.cell? ⟨b, o + i, none⟩ = some (.int .i64 (ge xs i)) := by
  obtain ⟨_, _, b, o, h3, h4⟩ := h
  obtain ⟨e, hb⟩ := h3 h0
  exact ⟨b, o, e, hb, fun w' hg i hi => hg.cellEq (h4 i hi)⟩
theorem Mat.rows {w : World} {p : Option Addr} {m : List (List Int)} (h : Mat w p m) (h0 : 0 < m.length) : ∃ b o, ∃ rp : Nat → Option Addr, ∃ rc : Nat → Nat, p = some ⟨b, o, none⟩ ∧ b < w.heap.size ∧
    ∀ w' : World, Grew w w' → ∀ u, u < m.length → w'.cell? ⟨b, o + u, none⟩ = some (.slice (rp u) (rowOf m u).length (rc u)) ∧ Ints w' (rp u) (rowOf m u) := by
  obtain ⟨_, b, o, rp, rc, h3, h4⟩ := h
  obtain ⟨e, hb⟩ := h3 h0
  exact ⟨b, o, rp, rc, e, hb, fun w' hg u hu => ⟨hg.cellEq (h4 u hu).1, (h4 u hu).2.grew hg⟩⟩

/-! ### Pairs -/
def pr (E : List (Int × Int)) (i : Nat) : Int × Int := E.getD i (0, 0)
theorem pr_eq (E : List (Int × Int)) {i : Nat} (h : i < E.length) : pr E i = E[i] := by simp [pr, h]
def Prs (w : World) (p : Option Addr) (E : List (Int × Int)) : Prop :=
  E.length ≤ 9223372036854775807 ∧ ∃ b o, (0 < E.length → p = some ⟨b, o, none⟩ ∧ b < w.heap.size) ∧ ∀ i, i < E.length → w.cell? ⟨b, o + i * 2, none⟩ = some (.int .i64 (pr E i).1) ∧ w.cell? ⟨b, o + i * 2 + 1, none⟩ = some (.int .i64 (pr E i).2)
theorem Prs.grew {w w' : World} {p : Option Addr} {E : List (Int × Int)} (h : Prs w p E) (hg : Grew w w') : Prs w' p E := by
  obtain ⟨h1, b, o, h3, h4⟩ := h
  exact ⟨h1, b, o, fun hp => ⟨(h3 hp).1, Nat.lt_of_lt_of_le (h3 hp).2 hg.below.size⟩, fun i hi => ⟨hg.cellEq (h4 i hi).1, hg.cellEq (h4 i hi).2⟩⟩
theorem Prs.cells {w : World} {p : Option Addr} {E : List (Int × Int)} (h : Prs w p E) (h0 : 0 < E.length) : ∃ b o, p = some ⟨b, o, none⟩ ∧ b < w.heap.size ∧
    ∀ w' : World, Grew w w' → ∀ i, i < E.length → w'.cell? ⟨b, o + i * 2, none⟩ = some (.int .i64 (pr E i).1) ∧ w'.cell? ⟨b, o + i * 2 + 1, none⟩ = some (.int .i64 (pr E i).2) := by
  obtain ⟨_, b, o, h3, h4⟩ := h
  obtain ⟨e, hb⟩ := h3 h0
  exact ⟨b, o, e, hb, fun w' hg i hi => ⟨hg.cellEq (h4 i hi).1, hg.cellEq (h4 i hi).2⟩⟩

/-- The program's limits. -/
def Lim (w : World) : Prop := w.cell? ⟨0, 0, none⟩ = some (.int .i64 16384) ∧ w.cell? ⟨0, 1, none⟩ = some (.int .i64 32768)
theorem Lim.grew {w w' : World} (h : Lim w) (hg : Grew w w') : Lim w' := ⟨hg.cellEq h.1, hg.cellEq h.2⟩
theorem Lim.pos {w : World} (h : Lim w) : 0 < w.heap.size := World.block_lt_of_cell? w _ h.1

/-- A rotation system in memory, with at most 100 of everything. -/
structure RotAt (w : World) (pE pA : Option Addr) (E : List (Int × Int)) (A : List (List Int)) : Prop where
  hE : Prs w pE E
  hA : Mat w pA A
  e1 : E.length ≤ 100
  a1 : A.length ≤ 100
  r1 : ∀ v, v < A.length → (rowOf A v).length ≤ 100
theorem RotAt.grew {w w' : World} {pE pA : Option Addr} {E : List (Int × Int)} {A : List (List Int)} (h : RotAt w pE pA E A) (hg : Grew w w') : RotAt w' pE pA E A := ⟨h.hE.grew hg, h.hA.grew hg, h.e1, h.a1, h.r1⟩

/-! ### Validity -/
/-- The tail of a dart. -/
def tailE (E : List (Int × Int)) (d : Int) : Int := if d % 2 = 0 then (pr E (d / 2).toNat).1 else (pr E (d / 2).toNat).2
/-- The darts of the first v vertices, with their vertices. -/
def pre (A : List (List Int)) (v : Nat) : List (Nat × Int) := (List.range v).flatMap fun u => (rowOf A u).map fun d => (u, d)
def okDart (E : List (Int × Int)) (q : Nat × Int) : Prop := 0 ≤ q.2 ∧ q.2 < 2 * E.length ∧ tailE E q.2 = q.1
def okEdge (N : Int) (a : Int × Int) : Prop := 0 ≤ a.1 ∧ a.1 < N ∧ 0 ≤ a.2 ∧ a.2 < N ∧ a.1 ≠ a.2
structure vRot (N : Int) (E : List (Int × Int)) (A : List (List Int)) : Prop where
  n0 : 0 ≤ N
  n1 : N ≤ 16384
  e1 : E.length ≤ 32768
  al : (A.length : Int) = N
  ed : ∀ i, i < E.length → okEdge N (pr E i)
  dr : ∀ q ∈ pre A A.length, okDart E q
  nd : ((pre A A.length).map (·.2)).Nodup
  ln : (pre A A.length).length = 2 * E.length
open Classical in
noncomputable def vRotB (N : Int) (E : List (Int × Int)) (A : List (List Int)) : Bool := decide (vRot N E A)
theorem vRotB_iff {N : Int} {E : List (Int × Int)} {A : List (List Int)} : vRotB N E A = true ↔ vRot N E A := by unfold vRotB; simp
theorem vRotB_no {N : Int} {E : List (Int × Int)} {A : List (List Int)} (h : ¬ vRot N E A) : vRotB N E A = false := by unfold vRotB; simp [h]

/-- The darts before number k of vertex v. -/
def preK (A : List (List Int)) (v k : Nat) : List (Nat × Int) := pre A v ++ ((rowOf A v).take k).map fun d => (v, d)
theorem preK_zero (A : List (List Int)) (v : Nat) : preK A v 0 = pre A v := by simp [preK]
theorem preK_succ (A : List (List Int)) (v : Nat) {k : Nat} (hk : k < (rowOf A v).length) : preK A v (k + 1) = preK A v k ++ [(v, ge (rowOf A v) k)] := by
  unfold preK
  rw [List.take_succ_eq_append_getElem hk, ge_eq _ hk]
  simp only [List.map_append, List.map_cons, List.map_nil, List.append_assoc]
theorem pre_succ (A : List (List Int)) (v : Nat) : pre A (v + 1) = pre A v ++ (rowOf A v).map fun d => (v, d) := by
  unfold pre
  rw [List.range_succ, List.flatMap_append]
  simp
theorem preK_all (A : List (List Int)) (v : Nat) : preK A v (rowOf A v).length = pre A (v + 1) := by rw [pre_succ]; simp [preK]
theorem pre_le (A : List (List Int)) {v n : Nat} (h : v ≤ n) : ∃ r, pre A n = pre A v ++ r := by
  induction n with
  | zero => have : v = 0 := by omega
            subst this; exact ⟨[], by simp⟩
  | succ n ih =>
    by_cases e : v = n + 1
    · subst e; exact ⟨[], by simp⟩
    · obtain ⟨r, hr⟩ := ih (by omega)
      exact ⟨r ++ (rowOf A n).map fun d => (n, d), by rw [pre_succ, hr, List.append_assoc]⟩
theorem preK_split (A : List (List Int)) {v k : Nat} (hv : v < A.length) (hk : k < (rowOf A v).length) : ∃ r, pre A A.length = preK A v k ++ (v, ge (rowOf A v) k) :: r := by
  obtain ⟨r, hr⟩ := pre_le A (show v + 1 ≤ A.length by omega)
  refine ⟨((rowOf A v).drop (k + 1)).map (fun d => (v, d)) ++ r, ?_⟩
  rw [hr, pre_succ]
  unfold preK
  have : rowOf A v = (rowOf A v).take k ++ ge (rowOf A v) k :: (rowOf A v).drop (k + 1) := by
    rw [ge_eq _ hk, ← List.drop_eq_getElem_cons hk, List.take_append_drop]
  conv => lhs; rw [this]
  simp

/-- What holds of the darts so far. -/
def Good (E : List (Int × Int)) (P : List (Nat × Int)) : Prop := (∀ q ∈ P, okDart E q) ∧ (P.map (·.2)).Nodup
theorem Good.nil (E : List (Int × Int)) : Good E [] := ⟨fun _ h => (by cases h), List.nodup_nil⟩
theorem Good.snoc {E : List (Int × Int)} {P : List (Nat × Int)} {v : Nat} {d : Int} (h : Good E P) (h1 : 0 ≤ d) (h2 : d < 2 * E.length) (h3 : tailE E d = v) (h4 : d ∉ P.map (·.2)) : Good E (P ++ [(v, d)]) := by
  refine ⟨fun q hq => ?_, ?_⟩
  · rcases List.mem_append.1 hq with hq | hq
    · exact h.1 q hq
    · rw [List.mem_singleton.1 hq]; exact ⟨h1, h2, h3⟩
  · rw [List.map_append, List.nodup_append]
    refine ⟨h.2, by simp, fun a ha b hb => ?_⟩
    simp at hb
    subst hb
    exact fun e => h4 (e ▸ ha)
theorem bad_dart {N : Int} {E : List (Int × Int)} {A : List (List Int)} {v k : Nat} (hv : v < A.length) (hk : k < (rowOf A v).length) (h : ¬ okDart E (v, ge (rowOf A v) k)) : vRotB N E A = false := by
  obtain ⟨r, hr⟩ := preK_split A hv hk
  exact vRotB_no fun hV => h (hV.dr _ (by rw [hr]; simp))
theorem bad_twice {N : Int} {E : List (Int × Int)} {A : List (List Int)} {v k : Nat} (hv : v < A.length) (hk : k < (rowOf A v).length) (h : ge (rowOf A v) k ∈ (preK A v k).map (·.2)) : vRotB N E A = false := by
  obtain ⟨r, hr⟩ := preK_split A hv hk
  refine vRotB_no fun hV => ?_
  have := hV.nd
  rw [hr, List.map_append, List.nodup_append] at this
  exact this.2.2 _ h _ (by simp) rfl
theorem preK_len {A : List (List Int)} (hr : ∀ v, v < A.length → (rowOf A v).length ≤ 100) : ∀ v, v ≤ A.length → (pre A v).length ≤ v * 100
  | 0, _ => by simp [pre]
  | v + 1, h => by
    have := preK_len hr v (by omega)
    have := hr v (by omega)
    rw [pre_succ, List.length_append, List.length_map]
    omega

/-- A rotation system in memory, its rows of any length. -/
structure RotAw (w : World) (pE pA : Option Addr) (E : List (Int × Int)) (A : List (List Int)) : Prop where
  hE : Prs w pE E
  hA : Mat w pA A
  e1 : E.length ≤ 100
  a1 : A.length ≤ 100
theorem RotAw.grew {w w' : World} {pE pA : Option Addr} {E : List (Int × Int)} {A : List (List Int)} (h : RotAw w pE pA E A) (hg : Grew w w') : RotAw w' pE pA E A := ⟨h.hE.grew hg, h.hA.grew hg, h.e1, h.a1⟩
theorem RotAt.aw {w : World} {pE pA : Option Addr} {E : List (Int × Int)} {A : List (List Int)} (h : RotAt w pE pA E A) : RotAw w pE pA E A := ⟨h.hE, h.hA, h.e1, h.a1⟩
theorem int_nodup_len {M : Nat} {S : List Int} (h1 : S.Nodup) (h2 : ∀ x ∈ S, 0 ≤ x ∧ x < M) : S.length ≤ M := by
  have h2 : ∀ x ∈ S, x ∈ (List.range M).map Int.ofNat := fun x hx => by
    have := h2 x hx
    exact List.mem_map.2 ⟨x.toNat, List.mem_range.2 (by omega), by simp; omega⟩
  have := List.Nodup.length_le_of_subset h1 h2
  simpa using this
theorem Good.len {E : List (Int × Int)} {P : List (Nat × Int)} (h : Good E P) : P.length ≤ 2 * E.length := by
  have := int_nodup_len (M := 2 * E.length) h.2 (fun x hx => by
    obtain ⟨q, hq, rfl⟩ := List.mem_map.1 hx
    have := h.1 q hq
    exact ⟨this.1, by have := this.2.1; omega⟩)
  rwa [List.length_map] at this
theorem RotAw.at {N : Int} {w : World} {pE pA : Option Addr} {E : List (Int × Int)} {A : List (List Int)} (h : RotAw w pE pA E A) (he : E.length ≤ 50) (hv : vRotB N E A = true) : RotAt w pE pA E A := by
  refine ⟨h.hE, h.hA, h.e1, h.a1, fun v hv' => ?_⟩
  have hV := vRotB_iff.1 hv
  obtain ⟨r, hr⟩ := pre_le A (v := v + 1) (n := A.length) (by omega)
  have h1 : (pre A (v + 1)).length ≤ (pre A A.length).length := by rw [hr, List.length_append]; omega
  rw [pre_succ, List.length_append, List.length_map, hV.ln] at h1
  omega

/-- A list of bools in memory: which of the first M numbers are in S. -/
def bls (M : Nat) (S : List Int) : List Value := (List.range M).map fun d : Nat => Value.bool (decide ((d : Int) ∈ S))
theorem bls_length (M : Nat) (S : List Int) : (bls M S).length = M := by simp [bls]
theorem bls_get {M d : Nat} (S : List Int) (h : d < M) : (bls M S)[d]? = some (.bool (decide ((d : Int) ∈ S))) := by simp [bls, h]
theorem bls_nil (M : Nat) : bls M [] = List.replicate M (.bool false) := by
  refine List.ext_getElem (by simp [bls]) fun i h1 h2 => ?_
  simp [bls]
theorem bls_set {M d : Nat} (S : List Int) (h : d < M) : (bls M S).set d (.bool true) = bls M (S ++ [(d : Int)]) := by
  refine List.ext_getElem (by simp [bls]) fun i h1 h2 => ?_
  rw [List.getElem_set]
  by_cases e : d = i
  · subst e; simp [bls]
  · rw [if_neg e]
    have : ((i : Int) ∈ S ++ [(d : Int)]) ↔ (i : Int) ∈ S := by
      rw [List.mem_append, List.mem_singleton]
      exact ⟨fun h => h.resolve_right (by omega), Or.inl⟩
    simp only [bls, List.getElem_map, List.getElem_range, this]

theorem Tryd.infoBool : (Tryd.prog.info? 4).map (fun i => (i.zero, i.size, i.bytes)) = some (some (.bool false), 1, 1) := by kernel_rfl

theorem tail_p (a b d : Int) (w : World) (h0 : 0 ≤ d) : Calls Tryd.prog 39 #[.agg #[.int .i64 a, .int .i64 b], .int .i64 (d % 2)] w fun e w' => e = .returned (.int .i64 (if d % 2 = 0 then a else b)) ∧ Grew w w' := by
  by_cases h : d % 2 = 0
  · have h' : (d % 2 == 0) = true := beq_iff_eq.2 h
    rw [if_pos h]
    clear h
    go_enter Tryd.func39, Tryd.ntmps39
    go_wp2
    go_ret
    exact ⟨rfl, by (repeat (first | exact Grew.refl _ | refine Grew.over ?_ _ | refine Grew.alloc ?_ _ | refine Grew.drew ?_ | refine Grew.drewN ?_ _))⟩
  · have h' : (d % 2 == 0) = false := beq_eq_false_iff_ne.2 h
    rw [if_neg h]
    clear h
    go_enter Tryd.func39, Tryd.ntmps39
    go_wp2
    go_ret
    exact ⟨rfl, by (repeat (first | exact Grew.refl _ | refine Grew.over ?_ _ | refine Grew.alloc ?_ _ | refine Grew.drew ?_ | refine Grew.drewN ?_ _))⟩

theorem tail_e (E : List (Int × Int)) (m : Nat) (w : World) : Calls Tryd.prog 39 #[.agg #[.int .i64 (pr E (m / 2)).1, .int .i64 (pr E (m / 2)).2], .int .i64 ((m : Int) % 2)] w fun e w' => e = .returned (.int .i64 (tailE E m)) ∧ Grew w w' := by
  have e : tailE E m = if (m : Int) % 2 = 0 then (pr E (m / 2)).1 else (pr E (m / 2)).2 := by
    unfold tailE
    have : ((m : Int) / 2).toNat = m / 2 := by omega
    rw [this]
  rw [e]
  exact tail_p _ _ _ w (by omega)

end Go.Proofs.YtdacnkjmimhcaaaDoor
