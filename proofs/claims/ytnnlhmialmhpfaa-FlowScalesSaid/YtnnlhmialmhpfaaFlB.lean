/- Shortest ways by labels, plain: labels with chains of vertices. -/
import Derived.Test.YtnnlhmialmhpfaaFlA
set_option linter.unusedSimpArgs false
set_option linter.unusedVariables false
namespace Go.Proofs.Ytnnlhmialmhpfaa

/-- Labels: far means that there is none. ch v: the vertices of the walk that gave v its label. -/
structure BF (V : Nat) (far : Int) (π : Nat → Int) (d : List Int) (ch : Nat → List Nat) : Prop where
  len : d.length = V
  nd : ∀ v, v < V → (ch v).Nodup
  lt : ∀ v, v < V → ∀ x ∈ ch v, x < V
  lab : ∀ v, v < V → ge d v ≠ far → 1 ≤ (ch v).length ∧ -(1000 * (((ch v).length : Int) - 1)) ≤ ge d v ∧ ge d v ≤ 1000 * (((ch v).length : Int) - 1)
  red : ∀ v, v < V → ge d v ≠ far → ∀ x ∈ ch v, ge d x ≠ far ∧ ge d x - π x ≤ ge d v - π v
def upd1 {α : Type} (ch : Nat → α) (v : Nat) (x : α) : Nat → α := fun w => if w = v then x else ch w
theorem BF.chain {V : Nat} {far : Int} {π : Nat → Int} {d : List Int} {ch : Nat → List Nat} (h : BF V far π d ch) {v : Nat} (hv : v < V) : (ch v).length ≤ V := nodup_len V (h.nd v hv) (h.lt v hv)
theorem BF.bound {V : Nat} {far : Int} {π : Nat → Int} {d : List Int} {ch : Nat → List Nat} (h : BF V far π d ch) {v : Nat} (hv : v < V) (hf : ge d v ≠ far) : -(1000 * (V : Int)) ≤ ge d v ∧ ge d v ≤ 1000 * (V : Int) := by
  have h1 := h.lab v hv hf
  have h2 := h.chain hv
  omega
/-- A label is made smaller. -/
theorem BF.relax {V : Nat} {far : Int} {π : Nat → Int} {d : List Int} {ch : Nat → List Nat} (h : BF V far π d ch) {u v : Nat} {c : Int} (hu : u < V) (hv : v < V) (hc : -1000 ≤ c ∧ c ≤ 1000) (hr : 0 ≤ c + π u - π v)
    (hf : ge d u ≠ far) (hlt : ge d v = far ∨ ge d u + c < ge d v) (hfar : ge d u + c ≠ far) : BF V far π (d.set v (ge d u + c)) (upd1 ch v (v :: ch u)) ∧ v ∉ ch u := by
  have hn : v ∉ ch u := fun hm => by
    obtain ⟨g1, g2⟩ := h.red u hu hf v hm
    rcases hlt with e | e
    · exact g1 e
    · omega
  have hge : ∀ w, ge (d.set v (ge d u + c)) w = if w = v then ge d u + c else ge d w := fun w => ge_set d (by rw [h.len]; exact hv) _ w
  refine ⟨⟨by rw [List.length_set]; exact h.len, fun w hw => ?_, fun w hw x hx => ?_, fun w hw hwf => ?_, fun w hw hwf x hx => ?_⟩, hn⟩
  · unfold upd1
    split
    · exact List.nodup_cons.2 ⟨hn, h.nd u hu⟩
    · exact h.nd w hw
  · unfold upd1 at hx
    split at hx
    · rcases List.mem_cons.1 hx with e | e
      · rw [e]; exact hv
      · exact h.lt u hu x e
    · exact h.lt w hw x hx
  · rw [hge] at hwf ⊢
    unfold upd1
    by_cases e : w = v
    · rw [if_pos e, if_pos e]
      obtain ⟨l1, l2, l3⟩ := h.lab u hu hf
      rw [List.length_cons]
      omega
    · rw [if_neg e] at hwf
      rw [if_neg e, if_neg e]
      exact h.lab w hw hwf
  · rw [hge] at hwf ⊢
    rw [hge]
    unfold upd1 at hx
    by_cases e : w = v
    · rw [if_pos e] at hx hwf
      rw [if_pos e]
      by_cases ex : x = v
      · rw [if_pos ex, ex, e]; exact ⟨hfar, Int.le_refl _⟩
      · rw [if_neg ex]
        rcases List.mem_cons.1 hx with e2 | e2
        · exact absurd e2 ex
        · obtain ⟨g1, g2⟩ := h.red u hu hf x e2
          rw [e]
          exact ⟨g1, by omega⟩
    · rw [if_neg e] at hx hwf
      rw [if_neg e]
      obtain ⟨g1, g2⟩ := h.red w hw hwf x hx
      by_cases ex : x = v
      · subst ex
        rw [if_pos rfl]
        refine ⟨hfar, ?_⟩
        rcases hlt with e3 | e3
        · exact absurd e3 g1
        · omega
      · rw [if_neg ex]; exact ⟨g1, g2⟩

/-- The measure of the search. -/
def mea (V : Nat) (d : List Int) : Nat := (sumN (fun v => ge d v + 1000000) V).toNat
theorem mea_lt {V : Nat} {d : List Int} (hl : d.length = V) (hlo : ∀ v, v < V → -1000000 ≤ ge d v) {v : Nat} (hv : v < V) {x : Int} (hx : x < ge d v) (hx2 : -1000000 ≤ x) : mea V (d.set v x) < mea V d := by
  unfold mea
  have e : sumN (fun w => ge (d.set v x) w + 1000000) V = sumN (fun w => ge d w + 1000000) V + (x - ge d v) := by
    have : sumN (fun w => ge (d.set v x) w + 1000000) V = sumN (fun w => (ge d w + 1000000) + (if w = v then x - ge d v else 0)) V := sumN_congr fun w _ => by
      rw [ge_set d (by omega)]
      by_cases e : w = v
      · rw [if_pos e, if_pos e, e]; omega
      · rw [if_neg e, if_neg e]; omega
    rw [this, sumN_add, sumN_one hv (fun j _ hne => if_neg hne), if_pos rfl]
  have h1 : 0 ≤ sumN (fun w => ge (d.set v x) w + 1000000) V := sumN_nonneg fun w hw => by
    rw [ge_set d (by omega)]
    have := hlo w hw
    split <;> omega
  omega

/-! ### Rounds from labels 0: a label of round k has a chain longer than k -/
/-- Step (u, v, c) is settled, or u has been changed in the last round. -/
def ok1 (d : List Int) (ch : Nat → List Nat) (k : Nat) (u v : Nat) (c : Int) : Prop := ge d v ≤ ge d u + c ∨ k ≤ (ch u).length
/-- In round k (from 1 on), the first j steps having been looked at. -/
structure Rd (A : List Ark) (L : List (Nat × Bool)) (d : List Int) (ch : Nat → List Nat) (k j : Nat) : Prop where
  done : ∀ t, t < j → ∀ i b, L[t]? = some (i, b) → ok1 d ch (k + 1) (sF A i b) (sT A i b) (sC A i b)
  todo : ∀ t, j ≤ t → ∀ i b, L[t]? = some (i, b) → ok1 d ch k (sF A i b) (sT A i b) (sC A i b)
theorem Rd.same {A : List Ark} {L : List (Nat × Bool)} {d : List Int} {ch : Nat → List Nat} {k j : Nat} (h : Rd A L d ch k j) {i : Nat} {b : Bool} (hj : L[j]? = some (i, b)) (hle : ge d (sT A i b) ≤ ge d (sF A i b) + sC A i b) : Rd A L d ch k (j + 1) := by
  refine ⟨fun t ht i' b' he => ?_, fun t ht => h.todo t (by omega)⟩
  by_cases e : t = j
  · subst e
    rw [hj] at he
    cases he
    exact Or.inl hle
  · exact h.done t (by omega) i' b' he
theorem Rd.relax {A : List Ark} {L : List (Nat × Bool)} {d : List Int} {ch : Nat → List Nat} {k j : Nat} (h : Rd A L d ch k j) {i : Nat} {b : Bool} (hj : L[j]? = some (i, b)) (hlt : ge d (sF A i b) + sC A i b < ge d (sT A i b))
    (hlen : sT A i b < d.length) (hne : sF A i b ≠ sT A i b) : Rd A L (d.set (sT A i b) (ge d (sF A i b) + sC A i b)) (upd1 ch (sT A i b) (sT A i b :: ch (sF A i b))) k (j + 1) ∧ k + 1 ≤ (sT A i b :: ch (sF A i b)).length := by
  have hlk : k ≤ (ch (sF A i b)).length := (h.todo j (Nat.le_refl _) i b hj).resolve_left (by omega)
  have key : ∀ (K : Nat) (u v : Nat) (c : Int), K ≤ k + 1 → ok1 d ch K u v c → ok1 (d.set (sT A i b) (ge d (sF A i b) + sC A i b)) (upd1 ch (sT A i b) (sT A i b :: ch (sF A i b))) K u v c := fun K u v c hK ho => by
    unfold ok1 upd1
    rw [ge_set d hlen, ge_set d hlen]
    by_cases e : u = sT A i b
    · right
      rw [if_pos e, List.length_cons]
      omega
    · rw [if_neg e, if_neg e]
      rcases ho with ho | ho
      · left
        by_cases e2 : v = sT A i b
        · rw [if_pos e2]; rw [e2] at ho; omega
        · rw [if_neg e2]; exact ho
      · exact Or.inr ho
  refine ⟨⟨fun t ht i' b' he => ?_, fun t ht i' b' he => key k _ _ _ (by omega) (h.todo t (by omega) i' b' he)⟩, by rw [List.length_cons]; omega⟩
  by_cases e : t = j
  · subst e
    rw [hj] at he
    cases he
    left
    rw [ge_set d hlen, ge_set d hlen, if_pos rfl, if_neg hne]
    exact Int.le_refl _
  · exact key (k + 1) _ _ _ (Nat.le_refl _) (h.done t (by omega) i' b' he)
theorem Rd.next {A : List Ark} {L : List (Nat × Bool)} {d : List Int} {ch : Nat → List Nat} {k : Nat} (h : Rd A L d ch k L.length) : Rd A L d ch (k + 1) 0 := by
  refine ⟨fun t ht => by omega, fun t _ i b he => ?_⟩
  have : t < L.length := (List.getElem?_eq_some_iff.1 he).1
  exact h.done t this i b he
theorem Rd.begin {A : List Ark} {L : List (Nat × Bool)} {d : List Int} {ch : Nat → List Nat} (h : ∀ (t i : Nat) (b : Bool), L[t]? = some (i, b) → 1 ≤ (ch (sF A i b)).length) : Rd A L d ch 1 0 :=
  ⟨fun t ht => by omega, fun t _ i b he => Or.inr (h t i b he)⟩
theorem BF.zero (V : Nat) (far : Int) (π : Nat → Int) (hf : far ≠ 0) : BF V far π (List.replicate V 0) (fun v => [v]) := by
  have h0 : ∀ v, ge (List.replicate V 0) v = 0 := fun v => by
    unfold ge
    rw [List.getD_eq_getElem?_getD, List.getElem?_replicate]
    split <;> rfl
  refine ⟨by simp, fun v hv => by simp, fun v hv x hx => by simp at hx; omega, fun v hv _ => ?_, fun v hv _ x hx => ?_⟩
  · rw [h0]; simp
  · simp at hx; subst hx; exact ⟨by rw [h0]; exact Ne.symm hf, Int.le_refl _⟩
end Go.Proofs.Ytnnlhmialmhpfaa
