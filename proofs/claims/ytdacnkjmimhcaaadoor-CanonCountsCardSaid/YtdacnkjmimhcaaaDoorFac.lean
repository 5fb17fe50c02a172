/- The faces as cycles. -/
import Derived.Test.YtdacnkjmimhcaaaDoorRotJ
import Derived.Test.YtdacnkjmimhcaaaDoorCyc
set_option linter.unusedSimpArgs false
set_option linter.unusedVariables false
namespace Go.Proofs.YtdacnkjmimhcaaaDoor

theorem Ch.last {f : Int → Int} : ∀ {t : List Int} {x z : Int}, Ch f x t z → ∃ q ∈ x :: t, f q = z
  | [], x, z, h => ⟨x, by simp, h⟩
  | y :: t, x, z, ⟨_, h⟩ => by
    obtain ⟨q, hq, e⟩ := Ch.last h
    exact ⟨q, List.mem_cons_of_mem _ hq, e⟩
theorem Cyc.pre {f : Int → Int} {l : List Int} (h : Cyc f l) {z : Int} (hz : z ∈ l) : ∃ q ∈ l, f q = z := by
  obtain ⟨u, v, rfl, h'⟩ := h.start hz
  obtain ⟨q, hq, e⟩ := Ch.last h'
  refine ⟨q, ?_, e⟩
  simp only [List.mem_append, List.mem_cons] at hq ⊢
  rcases hq with h | h | h
  · exact Or.inr (Or.inl h)
  · exact Or.inr (Or.inr h)
  · exact Or.inl h

section
variable {M : Nat} {f : Int → Int}
theorem face_hit (hf : ∀ x : Int, 0 ≤ x → x < M → 0 ≤ f x ∧ f x < M) (hi : ∀ x y : Int, 0 ≤ x → x < M → 0 ≤ y → y < M → f x = f y → x = y) {S p : List Int} {x x0 : Int}
    (hm : Met M (S ++ (x0 :: p))) (hS : ∀ y : Int, 0 ≤ y → y < M → f y ∈ S → y ∈ S) (hc : Ch f x0 p x) (hx : x ∈ S ++ (x0 :: p)) : x = x0 := by
  have hn := hm.1
  rw [List.nodup_append] at hn
  have hr : ∀ y ∈ x0 :: p, 0 ≤ y ∧ y < M := fun y hy => hm.2 y (List.mem_append_right _ hy)
  rcases List.mem_append.1 hx with hx | hx
  · obtain ⟨q, hq, e⟩ := Ch.last hc
    exact absurd rfl (hn.2.2 q (hS q (hr q hq).1 (hr q hq).2 (e ▸ hx)) q hq)
  · rcases List.mem_cons.1 hx with hx | hx
    · exact hx
    · exfalso
      obtain ⟨u, v, rfl⟩ := List.append_of_mem hx
      obtain ⟨c1, c2⟩ := Ch.app.1 hc
      obtain ⟨q, hq, e⟩ := Ch.last c1
      obtain ⟨r, hr', e'⟩ := Ch.last c2
      have h1 : q ∈ x0 :: (u ++ x :: v) := by
        rcases List.mem_cons.1 hq with h | h
        · exact List.mem_cons.2 (Or.inl h)
        · exact List.mem_cons.2 (Or.inr (List.mem_append_left _ h))
      have h2 : r ∈ x0 :: (u ++ x :: v) := List.mem_cons.2 (Or.inr (List.mem_append_right _ hr'))
      have : q = r := hi q r (hr q h1).1 (hr q h1).2 (hr r h2).1 (hr r h2).2 (by rw [e, e'])
      subst this
      have hn2 := hn.2.1
      rw [← List.cons_append, List.nodup_append] at hn2
      exact hn2.2.2 q hq q hr' rfl
theorem faceN_cyc (hf : ∀ x : Int, 0 ≤ x → x < M → 0 ≤ f x ∧ f x < M) (hi : ∀ x y : Int, 0 ≤ x → x < M → 0 ≤ y → y < M → f x = f y → x = y) {S : List Int} {x0 : Int} (hS : ∀ y : Int, 0 ≤ y → y < M → f y ∈ S → y ∈ S) :
    ∀ (n : Nat) (p : List Int) (x : Int), Met M (S ++ (x0 :: p)) → Ch f x0 p x → 0 ≤ x → x < M → n + (p.length + 1) = M → Cyc f (x0 :: (p ++ faceN f n (S ++ (x0 :: p)) x))
  | 0, p, x, hm, hc, h0, h1, hn => by
    have hx : x ∈ S ++ (x0 :: p) := Classical.byContradiction fun hx => by
      have := (hm.snoc h0 h1 hx).len
      simp at this
      omega
    have := face_hit hf hi hm hS hc hx
    subst this
    simp only [faceN, List.append_nil]
    exact hc
  | n + 1, p, x, hm, hc, h0, h1, hn => by
    rw [faceN]
    by_cases hx : x ∈ S ++ (x0 :: p)
    · rw [if_pos hx, List.append_nil]
      have := face_hit hf hi hm hS hc hx
      subst this
      exact hc
    · rw [if_neg hx]
      have := faceN_cyc hf hi hS n (p ++ [x]) (f x) (by rw [← List.cons_append, ← List.append_assoc]; exact hm.snoc h0 h1 hx) (Ch.app.2 ⟨hc, rfl⟩) (hf x h0 h1).1 (hf x h0 h1).2 (by rw [List.length_append]; simp; omega)
      have e : S ++ (x0 :: p) ++ [x] = S ++ x0 :: (p ++ [x]) := by rw [List.append_assoc]; rfl
      rw [e]
      rw [List.append_assoc] at this
      exact this

/-- What the faces are, when the first d darts have been asked. -/
structure FacOK (M : Nat) (f : Int → Int) (d : Nat) (S : List Int) (fs : List (List Int)) : Prop where
  met : Met M S
  flat : S = fs.flatten
  cyc : ∀ l ∈ fs, Cyc f l
  old : ∀ x : Int, 0 ≤ x → x < d → x ∈ S
  shut : ∀ y : Int, 0 ≤ y → y < M → f y ∈ S → y ∈ S
  head : ∀ l ∈ fs, (∀ x ∈ l, ge l 0 ≤ x) ∧ ge l 0 < d
  incr : fs.Pairwise fun l m => ge l 0 < ge m 0
theorem facesN_ok (hf : ∀ x : Int, 0 ≤ x → x < M → 0 ≤ f x ∧ f x < M) (hi : ∀ x y : Int, 0 ≤ x → x < M → 0 ≤ y → y < M → f x = f y → x = y) : ∀ d : Nat, d ≤ M → FacOK M f d (facesN f M d).1 (facesN f M d).2
  | 0, _ => ⟨⟨List.nodup_nil, fun _ h => (by cases h)⟩, rfl, fun _ h => (by cases h), fun x h0 h1 => (by omega), fun y _ _ h => (by cases h), fun _ h => (by cases h), List.Pairwise.nil⟩
  | d + 1, hd => by
    have ih := facesN_ok hf hi d (by omega)
    obtain ⟨S, hS⟩ : ∃ S, (facesN f M d).1 = S := ⟨_, rfl⟩
    obtain ⟨fs, hfs⟩ : ∃ fs, (facesN f M d).2 = fs := ⟨_, rfl⟩
    rw [hS, hfs] at ih
    simp only [facesN]
    rw [hS, hfs]
    by_cases hx : (d : Int) ∈ S
    · have e : faceN f M S d = [] := by
        cases M with
        | zero => rfl
        | succ m => rw [faceN, if_pos hx]
      rw [e, if_pos rfl, List.append_nil]
      refine ⟨ih.met, ih.flat, ih.cyc, fun x h0 h1 => ?_, ih.shut, fun l hl => ⟨(ih.head l hl).1, by have := (ih.head l hl).2; push_cast; omega⟩, ih.incr⟩
      by_cases e : x = d
      · exact e ▸ hx
      · exact ih.old x h0 (by push_cast at h1; omega)
    · obtain ⟨m, rfl⟩ : ∃ m, M = m + 1 := ⟨M - 1, by omega⟩
      have hm1 := ih.met.snoc (x := (d : Int)) (by omega) (by omega) hx
      have hcy := faceN_cyc hf hi (S := S) (x0 := (d : Int)) ih.shut m [] (f d) hm1 rfl (hf d (by omega) (by omega)).1 (hf d (by omega) (by omega)).2 (by simp)
      rw [List.nil_append] at hcy
      have hfm := faceN_met hf (m + 1) S d ih.met (by omega) (by omega)
      have hfe : faceN f (m + 1) S d = (d : Int) :: faceN f m (S ++ [(d : Int)]) (f d) := by rw [faceN, if_neg hx]
      rw [← hfe] at hcy
      obtain ⟨l, hl⟩ : ∃ l, faceN f (m + 1) S d = l := ⟨_, rfl⟩
      have hl0 : ge l 0 = d := by rw [← hl, hfe, ge_cons_zero]
      have hdl : (d : Int) ∈ l := by rw [← hl, hfe]; simp
      rw [hl] at hcy hfm ⊢
      have hne : l ≠ [] := hcy.ne
      rw [if_neg hne]
      have hnew : ∀ x ∈ l, x ∉ S := fun x hx hxS => by
        have := hfm.1
        rw [List.nodup_append] at this
        exact this.2.2 x hxS x hx rfl
      have hrl : ∀ x ∈ l, 0 ≤ x ∧ x < ((m + 1 : Nat) : Int) := fun x hx => hfm.2 x (List.mem_append_right _ hx)
      refine ⟨hfm, ?_, fun l' hl' => ?_, fun x h0 h1 => ?_, fun y h0 h1 hy => ?_, fun l' hl' => ?_, ?_⟩
      · rw [List.flatten_append, ← ih.flat]; simp
      · rcases List.mem_append.1 hl' with h | h
        · exact ih.cyc l' h
        · rw [List.mem_singleton.1 h]; exact hcy
      · by_cases e : x = d
        · exact List.mem_append_right _ (e ▸ hdl)
        · exact List.mem_append_left _ (ih.old x h0 (by push_cast at h1; omega))
      · rcases List.mem_append.1 hy with h | h
        · exact List.mem_append_left _ (ih.shut y h0 h1 h)
        · obtain ⟨q, hq, e⟩ := hcy.pre h
          have := hi q y (hrl q hq).1 (hrl q hq).2 h0 h1 e
          subst this
          exact List.mem_append_right _ hq
      · rcases List.mem_append.1 hl' with h | h
        · have := ih.head l' h
          exact ⟨this.1, by push_cast; omega⟩
        · rw [List.mem_singleton.1 h]
          refine ⟨fun x hx => ?_, by rw [hl0]; push_cast; omega⟩
          rw [hl0]
          exact Int.not_lt.1 fun hlt => hnew x hx (ih.old x (hrl x hx).1 hlt)
      · rw [List.pairwise_append]
        refine ⟨ih.incr, List.pairwise_singleton _ _, fun a ha b hb => ?_⟩
        rw [List.mem_singleton.1 hb, hl0]
        exact (ih.head a ha).2
end

theorem fac_inj {N : Int} {E : List (Int × Int)} {A : List (List Int)} (hV : vRot N E A) : ∀ x y : Int, 0 ≤ x → x < (2 * E.length : Nat) → 0 ≤ y → y < (2 * E.length : Nat) → nxF A x = nxF A y → x = y := by
  intro x y x0 x1 y0 y1 h
  have hs : ∀ x y : Int, 0 ≤ x → x < 2 * E.length → 0 ≤ y → y < 2 * E.length → sucF A x = sucF A y → x = y := by
    intro x y x0 x1 y0 y1 h
    obtain ⟨v, k, hv, hk, e, _⟩ := dart_pos hV x0 x1
    obtain ⟨v', k', hv', hk', e', _⟩ := dart_pos hV y0 y1
    rw [← e, ← e', suc_of hV hv hk, suc_of hV hv' hk'] at h
    have l1 : (k + 1) % (rowOf A v).length < (rowOf A v).length := Nat.mod_lt _ (by omega)
    have l2 : (k' + 1) % (rowOf A v').length < (rowOf A v').length := Nat.mod_lt _ (by omega)
    have t1 : tailE E (ge (rowOf A v) ((k + 1) % (rowOf A v).length)) = v := (hV.dr (v, _) (mem_pre.2 ⟨_, hv, l1, rfl⟩)).2.2
    have t2 : tailE E (ge (rowOf A v') ((k' + 1) % (rowOf A v').length)) = v' := (hV.dr (v', _) (mem_pre.2 ⟨_, hv', l2, rfl⟩)).2.2
    have hvv : v = v' := by rw [h, t2] at t1; omega
    subst hvv
    have hkk : (k + 1) % (rowOf A v).length = (k' + 1) % (rowOf A v).length := by
      rcases Nat.lt_trichotomy ((k + 1) % (rowOf A v).length) ((k' + 1) % (rowOf A v).length) with c | c | c
      · exact absurd h (row_inj hV hv c l2)
      · exact c
      · exact absurd h.symm (row_inj hV hv c l1)
    have : k = k' := by
      rcases Nat.lt_or_ge (k + 1) (rowOf A v).length with c | c
      · rcases Nat.lt_or_ge (k' + 1) (rowOf A v).length with c' | c'
        · rw [Nat.mod_eq_of_lt c, Nat.mod_eq_of_lt c'] at hkk; omega
        · have : k' + 1 = (rowOf A v).length := by omega
          rw [Nat.mod_eq_of_lt c, this, Nat.mod_self] at hkk; omega
      · have e1 : k + 1 = (rowOf A v).length := by omega
        rcases Nat.lt_or_ge (k' + 1) (rowOf A v).length with c' | c'
        · rw [Nat.mod_eq_of_lt c', e1, Nat.mod_self] at hkk; omega
        · omega
    subst this
    rw [← e, ← e']
  have o1 := oth_in (d := x) (M := E.length) x0 (by push_cast at x1; omega)
  have o2 := oth_in (d := y) (M := E.length) y0 (by push_cast at y1; omega)
  have := hs (oth x) (oth y) o1.1 (by omega) o2.1 (by omega) h
  rw [← oth_oth x, this, oth_oth]
theorem fac_ok {N : Int} {E : List (Int × Int)} {A : List (List Int)} (hV : vRot N E A) : FacOK (2 * E.length) (nxF A) (2 * E.length) (facesN (nxF A) (2 * E.length) (2 * E.length)).1 (facesF A (2 * E.length)) :=
  facesN_ok (fun x h0 h1 => by have := nxF_in hV (e := x) h0 (by push_cast at h1; omega); push_cast; omega) (fac_inj hV) _ (Nat.le_refl _)
theorem fac_dec {N : Int} {E : List (Int × Int)} {A : List (List Int)} (hV : vRot N E A) : Dec (fun x => 0 ≤ x ∧ x < 2 * (E.length : Int)) (nxF A) (facesF A (2 * E.length)) := by
  have h := fac_ok hV
  refine ⟨h.cyc, by rw [← h.flat]; exact h.met.1, fun x => ?_⟩
  rw [← h.flat]
  exact ⟨fun hx => by have := h.met.2 x hx; push_cast at this; omega, fun hx => h.old x hx.1 (by push_cast; omega)⟩
end Go.Proofs.YtdacnkjmimhcaaaDoor
