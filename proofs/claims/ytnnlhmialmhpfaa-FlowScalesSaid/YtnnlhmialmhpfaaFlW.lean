/- The way back of the reference, plain; sums of excesses behind an augmentation. -/
import Derived.Test.YtnnlhmialmhpfaaFlV
set_option linter.unusedSimpArgs false
set_option linter.unusedVariables false
namespace Go.Proofs.Ytnnlhmialmhpfaa
open Go.RowKit

/-- The vertex ahead of step r of a way to t. -/
def vx (A : List Ark) (P : List (Nat × Bool)) (t r : Nat) : Nat := match P[r]? with
  | some x => sF A x.1 x.2
  | none => t
theorem vx_nil (A : List Ark) (t r : Nat) : vx A [] t r = t := rfl
theorem vx_cons (A : List Ark) (x : Nat × Bool) (P : List (Nat × Bool)) (t r : Nat) : vx A (x :: P) t (r + 1) = vx A P t r := rfl
theorem vx_end (A : List Ark) (P : List (Nat × Bool)) (t : Nat) : vx A P t P.length = t := by
  unfold vx
  rw [List.getElem?_eq_none (Nat.le_refl _)]
theorem vx_at {A : List Ark} {P : List (Nat × Bool)} {t r i : Nat} {b : Bool} (h : P[r]? = some (i, b)) : vx A P t r = sF A i b := by
  unfold vx
  rw [h]
theorem vx_zero {A : List Ark} : ∀ {P : List (Nat × Bool)} {a t : Nat}, Way A P a t → vx A P t 0 = a
  | [], a, t, h => by have : a = t := h; rw [this]; rfl
  | x :: P, a, t, h => h.1
theorem vx_next {A : List Ark} : ∀ {P : List (Nat × Bool)} {a t r i : Nat} {b : Bool}, Way A P a t → P[r]? = some (i, b) → vx A P t (r + 1) = sT A i b
  | [], _, _, _, _, _, _, h => by simp at h
  | x :: P, a, t, 0, i, b, hw, h => by
    simp at h
    subst h
    rw [vx_cons]
    exact vx_zero hw.2
  | x :: P, a, t, r + 1, i, b, hw, h => by
    rw [vx_cons]
    exact vx_next hw.2 (by simpa using h)
/-- The way that the labels' last steps tell. -/
structure Tr (V : Nat) (A : List Ark) (L : List (Nat × Bool)) (far : Int) (d pr : List Int) (ch : Nat → List Nat) (a : Nat) (P : List (Nat × Bool)) (v t : Nat) : Prop where
  wy : Wy V A L far d ch P v t
  st : ∀ r i b, P[r]? = some (i, b) → ∃ j : Nat, ge pr (vx A P t (r + 1)) = (j : Int) ∧ L[j]? = some (i, b)
  ne : ∀ r, 0 < r → r ≤ P.length → vx A P t r ≠ a
theorem Tr.lt {V : Nat} {A : List Ark} {L : List (Nat × Bool)} {far : Int} {d pr : List Int} {ch : Nat → List Nat} {a : Nat} {P : List (Nat × Bool)} {v t : Nat} (h : Tr V A L far d pr ch a P v t) {r : Nat} (hr : r ≤ P.length) : vx A P t r < V := by
  cases r with
  | zero => rw [vx_zero h.wy.way]; exact h.wy.vs
  | succ r =>
    obtain ⟨⟨i, b⟩, hx⟩ : ∃ x, P[r]? = some x := ⟨_, List.getElem?_eq_getElem (by omega)⟩
    rw [vx_next h.wy.way hx]
    exact h.wy.vP (i, b) (List.mem_of_getElem? hx)
theorem Se.trace {V : Nat} {far : Int} {A : List Ark} {L : List (Nat × Bool)} {π : Nat → Int} {d pr : List Int} {ch : Nat → List Nat} {a : Nat} (h : Se V far (fun v => v = a) A L π d pr ch) (hs : Settled far A L d)
    (hF : ∀ i b, (i, b) ∈ L → sF A i b < V) : ∀ (n v t : Nat) (P : List (Nat × Bool)), (ch v).length ≤ n → ge d v ≠ far → Tr V A L far d pr ch a P v t → ∃ P', Tr V A L far d pr ch a P' a t := by
  intro n
  induction n with
  | zero =>
    intro v t P hn hd hT
    by_cases e : v = a
    · subst e; exact ⟨P, hT⟩
    · have hv := hT.wy.vs
      have := (h.bf.lab v hv hd).1
      omega
  | succ n ih =>
    intro v t P hn hd hT
    by_cases e : v = a
    · subst e; exact ⟨P, hT⟩
    · have hv := hT.wy.vs
      obtain ⟨j, i, b, h1, h2, h3, h4, h5⟩ := h.back hs hT.wy (fun g => e (h.root v hv hd g)) hF
      have hz : vx A P t 0 = v := vx_zero hT.wy.way
      refine ih (sF A i b) t ((i, b) :: P) (by omega) h5 ⟨h3, fun r i' b' hr => ?_, fun r h0 hr => ?_⟩
      · cases r with
        | zero =>
          simp at hr
          obtain ⟨rfl, rfl⟩ := hr
          exact ⟨j, by rw [vx_cons, hz]; exact h1, h2⟩
        | succ r =>
          rw [vx_cons]
          exact hT.st r i' b' (by simpa using hr)
      · cases r with
        | zero => omega
        | succ r =>
          rw [vx_cons]
          cases r with
          | zero => rw [hz]; exact e
          | succ r => exact hT.ne (r + 1) (by omega) (by simpa using hr)
theorem Se.traceAll {V : Nat} {far : Int} {A : List Ark} {L : List (Nat × Bool)} {π : Nat → Int} {d pr : List Int} {ch : Nat → List Nat} {a : Nat} (h : Se V far (fun v => v = a) A L π d pr ch) (hs : Settled far A L d)
    (hF : ∀ i b, (i, b) ∈ L → sF A i b < V) {t : Nat} (ht : t < V) (hd : ge d t ≠ far) : ∃ P, Tr V A L far d pr ch a P a t :=
  h.trace hs hF (ch t).length t t [] (Nat.le_refl _) hd ⟨Wy.nil ht, fun r i b hr => by simp at hr, fun r h0 hr => by simp at hr; omega⟩
/-! ### The steps in the opposite order -/
theorem addP_rev {f : List Int} {P : List (Nat × Bool)} (k : Int) (hp : P.Pairwise fun x y => x.1 ≠ y.1) (hm : ∀ x ∈ P, x.1 < f.length) : addP f k P.reverse = addP f k P := by
  refine ge_ext f.length (addP_length _ _ _) (addP_length _ _ _) fun i _ => ?_
  rw [ge_addP k P f hp hm, ge_addP k P.reverse f (List.pairwise_reverse.2 (hp.imp fun h => Ne.symm h)) (fun x hx => hm x (List.mem_reverse.1 hx))]
  simp only [List.mem_reverse]
theorem addP_bd2 {s : List Int} {A : List Ark} (hV : vN s A) {f : List Int} (hf : Fit A f) {Q : List (Nat × Bool)} (hp : Q.Pairwise fun x y => x.1 ≠ y.1) (hm : ∀ x ∈ Q, x.1 < A.length) {k : Int} (h0 : 0 < k) (hk : k ≤ 2148532224) {i : Nat} (hi : i < A.length) :
    -2148532224 ≤ ge (addP f k Q) i ∧ ge (addP f k Q) i ≤ 2150000000 := by
  rw [ge_addP k Q f hp (fun x hx => by rw [hf.l]; exact hm x hx)]
  have h1 := hf.b i hi
  have h2 := (hV.a i hi).2.2.1.2
  split
  · omega
  · split <;> omega
theorem drop_rev {P : List (Nat × Bool)} {r : Nat} {x : Nat × Bool} (h : P[r]? = some x) : (P.drop r).reverse = (P.drop (r + 1)).reverse ++ [x] := by
  obtain ⟨h1, h2⟩ := List.getElem?_eq_some_iff.1 h
  rw [List.drop_eq_getElem_cons h1, List.reverse_cons, h2]
/-! ### The excesses of the reference -/
theorem St.ex {s : List Int} {A : List Ark} {f xs : List Int} (h : St s A f xs) (hV : vN s A) : exL s A f A.length = xs := by
  refine ge_ext s.length (exL_length _ _ _ _) h.xl fun v hv => ?_
  rw [ge_exL hV f _ (Nat.le_refl _), h.xv v hv]
  rfl
theorem St.none2 {s : List Int} {A : List Ark} {f xs : List Int} (h : St s A f xs) (hV : vN s A) {far : Int} {a : Nat} (hno : NoWay s.length far (fun v => v = a) A (resL A f A.length) xs) (ha : a < s.length) (ha0 : 0 < ge xs a) : Cut s A := by
  obtain ⟨d, hs, h1, h2⟩ := hno
  refine cut_of hV h.fit hs (fun v hv hd => ?_) ha (h1 a ha rfl) (by rw [← h.xv a ha]; exact ha0)
  rw [← h.xv v hv]
  by_cases e : ge xs v < 0
  · exact absurd (h2 v hv e) hd
  · omega
theorem St.send2 {s : List Int} {A : List Ark} {f xs : List Int} (h : St s A f xs) (hV : vN s A) {far : Int} {d : List Int} {ch : Nat → List Nat} {P : List (Nat × Bool)} {a t : Nat} {k : Int} (hs : Settled far A (resL A f A.length) d)
    (hw : Wy s.length A (resL A f A.length) far d ch P a t) (ht : t < s.length) (hk : Snd s A f xs P a t k) :
    St s A (addP f k P.reverse) (exL s A (addP f k P.reverse) A.length) ∧ mp s.length (exL s A (addP f k P.reverse) A.length) < mp s.length xs := by
  obtain ⟨h1, h2⟩ := h.send hV hs hw ht hk
  rw [addP_rev k hw.arcs (fun x hx => by rw [h.fit.l]; exact (mem_resL (i := x.1) (b := x.2)).1 (hw.stp x hx).1 |>.1)]
  rw [h1.ex hV]
  exact ⟨h1, h2⟩
end Go.Proofs.Ytnnlhmialmhpfaa
