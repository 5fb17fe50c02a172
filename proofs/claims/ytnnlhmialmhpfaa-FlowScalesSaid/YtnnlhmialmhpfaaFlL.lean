/- Rounds of relaxing from labels 0, plain. -/
import Derived.Test.YtnnlhmialmhpfaaFlD
set_option linter.unusedSimpArgs false
set_option linter.unusedVariables false
namespace Go.Proofs.Ytnnlhmialmhpfaa

/-- In round k (k rounds are done), j steps having been looked at. -/
structure CyS (V : Nat) (A : List Ark) (f : List Int) (L : List (Nat × Bool)) (d : List Int) (k j : Nat) (changed : Bool) : Prop where
  len : d.length = V
  bd : ∀ v, v < V → -(1000 * ((k : Int) * 4096 + j)) ≤ ge d v ∧ ge d v ≤ 1000 * ((k : Int) * 4096 + j)
  un : changed = false → ∀ t, t < j → ∀ i b, L[t]? = some (i, b) → ge d (sT A i b) ≤ ge d (sF A i b) + sC A i b
  gh : ∀ π, Pot A f π → ∃ ch, BF V 1152921504606846976 π d ch ∧ Rd A L d ch (k + 1) j ∧ (changed = true → ∃ v, v < V ∧ k + 2 ≤ (ch v).length)
/-- k rounds are done, each of which has changed something. -/
structure CyO (V : Nat) (A : List Ark) (f : List Int) (L : List (Nat × Bool)) (d : List Int) (k : Nat) : Prop where
  len : d.length = V
  bd : ∀ v, v < V → -(1000 * ((k : Int) * 4096)) ≤ ge d v ∧ ge d v ≤ 1000 * ((k : Int) * 4096)
  gh : ∀ π, Pot A f π → ∃ ch, BF V 1152921504606846976 π d ch ∧ Rd A L d ch (k + 1) 0 ∧ (0 < k → ∃ v, v < V ∧ k + 1 ≤ (ch v).length)
theorem CyO.begin (V : Nat) (A : List Ark) (f : List Int) (L : List (Nat × Bool)) : CyO V A f L (List.replicate V 0) 0 := by
  have h0 : ∀ v, ge (List.replicate V 0) v = 0 := fun v => by
    unfold ge
    rw [List.getD_eq_getElem?_getD, List.getElem?_replicate]
    split <;> rfl
  exact ⟨by simp, fun v _ => by rw [h0]; omega, fun π _ => ⟨_, BF.zero V _ π (by decide), Rd.begin (fun t i b _ => by simp), fun h => by omega⟩⟩
theorem CyO.start {V : Nat} {A : List Ark} {f : List Int} {L : List (Nat × Bool)} {d : List Int} {k : Nat} (h : CyO V A f L d k) : CyS V A f L d k 0 false :=
  ⟨h.len, fun v hv => by have := h.bd v hv; omega, fun _ t ht => by omega, fun π hp => by obtain ⟨ch, h1, h2, _⟩ := h.gh π hp; exact ⟨ch, h1, h2, fun e => by cases e⟩⟩
theorem CyS.same {V : Nat} {A : List Ark} {f : List Int} {L : List (Nat × Bool)} {d : List Int} {k j : Nat} {changed : Bool} (h : CyS V A f L d k j changed) {i : Nat} {b : Bool} (hj : L[j]? = some (i, b)) (hle : ge d (sT A i b) ≤ ge d (sF A i b) + sC A i b) : CyS V A f L d k (j + 1) changed := by
  refine ⟨h.len, fun v hv => by have := h.bd v hv; omega, fun hc t ht i' b' he => ?_, fun π hp => ?_⟩
  · by_cases e : t = j
    · subst e
      rw [hj] at he
      cases he
      exact hle
    · exact h.un hc t (by omega) i' b' he
  · obtain ⟨ch, h1, h2, h3⟩ := h.gh π hp
    exact ⟨ch, h1, h2.same hj hle, h3⟩
theorem CyS.relax {s : List Int} {A : List Ark} {f : List Int} {d : List Int} {k j : Nat} {changed : Bool} (hV : vN s A) (hk : k ≤ 256) (hjl : j ≤ 4096) (h : CyS s.length A f (resL A f A.length) d k j changed) {i : Nat} {b : Bool} (hj : (resL A f A.length)[j]? = some (i, b))
    (hlt : ge d (sF A i b) + sC A i b < ge d (sT A i b)) : CyS s.length A f (resL A f A.length) (d.set (sT A i b) (ge d (sF A i b) + sC A i b)) k (j + 1) true := by
  have hm := mem_resL.1 (List.mem_of_getElem? hj)
  have hi := hm.1
  have hu := sF_lt hV hi b
  have hv := sT_lt hV hi b
  have hc := sC_bd hV hi b
  have hbu := h.bd _ hu
  refine ⟨by rw [List.length_set]; exact h.len, fun v hv' => ?_, fun e => (by cases e), fun π hp => ?_⟩
  · rw [ge_set d (by rw [h.len]; exact hv)]
    have := h.bd v hv'
    split <;> omega
  · obtain ⟨ch, h1, h2, h3⟩ := h.gh π hp
    have hr := hp i b ⟨hi, hm.2⟩
    have hne : sF A i b ≠ sT A i b := fun e => by rw [e] at hlt hr; omega
    obtain ⟨g1, _⟩ := h1.relax hu hv hc hr (by omega) (Or.inr hlt) (by omega)
    obtain ⟨g2, g3⟩ := h2.relax hj hlt (by rw [h.len]; exact hv) hne
    refine ⟨_, g1, g2, fun _ => ⟨_, hv, ?_⟩⟩
    unfold upd1
    rw [if_pos rfl]
    omega
theorem CyS.next {V : Nat} {A : List Ark} {f : List Int} {L : List (Nat × Bool)} {d : List Int} {k : Nat} (h : CyS V A f L d k L.length true) (hl : L.length ≤ 4096) : CyO V A f L d (k + 1) := by
  refine ⟨h.len, fun v hv => by have := h.bd v hv; omega, fun π hp => ?_⟩
  obtain ⟨ch, h1, h2, h3⟩ := h.gh π hp
  exact ⟨ch, h1, h2.next, fun _ => h3 rfl⟩
theorem CyS.pot {s : List Int} {A : List Ark} {f : List Int} {d : List Int} {k : Nat} (h : CyS s.length A f (resL A f A.length) d k (resL A f A.length).length false) : ∃ π, Pot A f π := by
  refine ⟨fun v => ge d v, fun i b hR => ?_⟩
  obtain ⟨t, ht⟩ := List.getElem?_of_mem ((mem_resL (A := A) (f := f) (i := i) (b := b) (k := A.length)).2 ⟨hR.1, hR.2⟩)
  have := h.un rfl t (List.getElem?_eq_some_iff.1 ht).1 i b ht
  show 0 ≤ sC A i b + ge d (sF A i b) - ge d (sT A i b)
  omega
theorem CyO.none {V : Nat} {A : List Ark} {f : List Int} {L : List (Nat × Bool)} {d : List Int} {k : Nat} (h : CyO V A f L d k) (hk : V ≤ k) (h0 : 0 < k) : ¬ ∃ π, Pot A f π := by
  rintro ⟨π, hp⟩
  obtain ⟨ch, h1, _, h3⟩ := h.gh π hp
  obtain ⟨v, hv, hl⟩ := h3 h0
  have := h1.chain hv
  omega
/-- The round that follows V rounds does not matter. -/
theorem CyS.none {V : Nat} {A : List Ark} {f : List Int} {L : List (Nat × Bool)} {d : List Int} {k j : Nat} (h : CyS V A f L d k j true) (hk : V ≤ k + 1) : ¬ ∃ π, Pot A f π := by
  rintro ⟨π, hp⟩
  obtain ⟨ch, h1, _, h3⟩ := h.gh π hp
  obtain ⟨v, hv, hl⟩ := h3 rfl
  have := h1.chain hv
  omega
theorem pot_empty {s : List Int} {A : List Ark} (hV : vN s A) (f : List Int) (h0 : s.length = 0) : ∃ π, Pot A f π :=
  ⟨fun _ => 0, fun i b hR => by have := (hV.a i hR.1).1; omega⟩
end Go.Proofs.Ytnnlhmialmhpfaa
