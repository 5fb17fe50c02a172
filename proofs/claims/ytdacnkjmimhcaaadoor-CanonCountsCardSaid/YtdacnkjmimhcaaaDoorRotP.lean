/- Components: plain part. -/
import Derived.Test.YtdacnkjmimhcaaaDoorRotO
set_option linter.unusedSimpArgs false
set_option linter.unusedVariables false
namespace Go.Proofs.YtdacnkjmimhcaaaDoor
open Go.RowKit

/-- An edge among the first j has the ends u and v. -/
def nbrJ (E : List (Int × Int)) (j : Nat) (u v : Int) : Prop := ∃ i, i < j ∧ (((pr E i).1 = u ∧ (pr E i).2 = v) ∨ ((pr E i).2 = u ∧ (pr E i).1 = v))
theorem nbrJ.symm {E : List (Int × Int)} {j : Nat} {u v : Int} (h : nbrJ E j u v) : nbrJ E j v u := by
  obtain ⟨i, hi, h | h⟩ := h
  · exact ⟨i, hi, Or.inr ⟨h.2, h.1⟩⟩
  · exact ⟨i, hi, Or.inl ⟨h.2, h.1⟩⟩
inductive Cn (E : List (Int × Int)) (j : Nat) : Int → Int → Prop
  | refl (u : Int) : Cn E j u u
  | step {u v w : Int} : Cn E j u v → nbrJ E j v w → Cn E j u w
theorem Cn.trans {E : List (Int × Int)} {j : Nat} {u v w : Int} (h : Cn E j u v) (k : Cn E j v w) : Cn E j u w := by
  induction k with
  | refl => exact h
  | step _ hn ih => exact ih.step hn
theorem Cn.symm {E : List (Int × Int)} {j : Nat} {u v : Int} (h : Cn E j u v) : Cn E j v u := by
  induction h with
  | refl => exact Cn.refl _
  | step _ hn ih => exact ((Cn.refl _).step hn.symm).trans ih
theorem Cn.mono {E : List (Int × Int)} {i j : Nat} (hij : i ≤ j) {u v : Int} (h : Cn E i u v) : Cn E j u v := by
  induction h with
  | refl => exact Cn.refl _
  | step _ hn ih =>
    obtain ⟨k, hk, hn⟩ := hn
    exact ih.step ⟨k, by omega, hn⟩
theorem Cn.edge (E : List (Int × Int)) (j : Nat) : Cn E (j + 1) (pr E j).1 (pr E j).2 := (Cn.refl _).step ⟨j, by omega, Or.inl ⟨rfl, rfl⟩⟩
/-- What one edge more joins. -/
theorem Cn.split {E : List (Int × Int)} {j : Nat} {u v : Int} (h : Cn E (j + 1) u v) :
    Cn E j u v ∨ (Cn E j u (pr E j).1 ∧ Cn E j (pr E j).2 v) ∨ (Cn E j u (pr E j).2 ∧ Cn E j (pr E j).1 v) := by
  induction h with
  | refl => exact Or.inl (Cn.refl _)
  | step _ hn ih =>
    obtain ⟨i, hi, hn⟩ := hn
    by_cases e : i = j
    · subst e
      rcases hn with ⟨rfl, rfl⟩ | ⟨rfl, rfl⟩
      · rcases ih with h | ⟨h, _⟩ | ⟨h, _⟩
        · exact Or.inr (Or.inl ⟨h, Cn.refl _⟩)
        · exact Or.inr (Or.inl ⟨h, Cn.refl _⟩)
        · exact Or.inl h
      · rcases ih with h | ⟨h, _⟩ | ⟨h, _⟩
        · exact Or.inr (Or.inr ⟨h, Cn.refl _⟩)
        · exact Or.inl h
        · exact Or.inr (Or.inr ⟨h, Cn.refl _⟩)
    · have hn' : nbrJ E j _ _ := ⟨i, by omega, hn⟩
      rcases ih with h | ⟨h, h2⟩ | ⟨h, h2⟩
      · exact Or.inl (h.step hn')
      · exact Or.inr (Or.inl ⟨h, h2.step hn'⟩)
      · exact Or.inr (Or.inr ⟨h, h2.step hn'⟩)

/-- The least of its component. -/
def isL (E : List (Int × Int)) (j : Nat) (v : Int) : Prop := ∀ u, 0 ≤ u → u < v → ¬ Cn E j u v
open Classical in
noncomputable def cntP (p : Nat → Prop) : Nat → Nat
  | 0 => 0
  | n + 1 => cntP p n + if p n then 1 else 0
theorem cntP_congr {p q : Nat → Prop} : ∀ {n : Nat}, (∀ v, v < n → (p v ↔ q v)) → cntP p n = cntP q n
  | 0, _ => rfl
  | n + 1, h => by
    have h1 := cntP_congr (n := n) (fun v hv => h v (by omega))
    have h2 := h n (by omega)
    simp only [cntP, h1]
    by_cases hq : q n
    · rw [if_pos hq, if_pos (h2.2 hq)]
    · rw [if_neg hq, if_neg (fun hp => hq (h2.1 hp))]
theorem cntP_le (p : Nat → Prop) : ∀ n, cntP p n ≤ n
  | 0 => Nat.le_refl _
  | n + 1 => by have := cntP_le p n; simp only [cntP]; split <;> omega
theorem cntP_all {p : Nat → Prop} : ∀ {n : Nat}, (∀ v, v < n → p v) → cntP p n = n
  | 0, _ => rfl
  | n + 1, h => by simp only [cntP]; rw [cntP_all (fun v hv => h v (by omega)), if_pos (h n (by omega))]
/-- One less. -/
theorem cntP_drop {p q : Nat → Prop} {x : Nat} (hp : p x) (hq : ¬ q x) : ∀ {n : Nat}, x < n → (∀ v, v < n → v ≠ x → (p v ↔ q v)) → cntP p n = cntP q n + 1
  | 0, h, _ => by omega
  | n + 1, h, hv => by
    simp only [cntP]
    by_cases e : x = n
    · subst e
      rw [cntP_congr (p := p) (q := q) (n := x) (fun v hvx => hv v (by omega) (by omega)), if_pos hp, if_neg hq]
    · have := cntP_drop hp hq (n := n) (by omega) (fun v h1 h2 => hv v (by omega) h2)
      have h2 := hv n (by omega) (Ne.symm e)
      rw [this]
      by_cases hq : q n
      · rw [if_pos hq, if_pos (h2.2 hq)]
      · rw [if_neg hq, if_neg (fun hp => hq (h2.1 hp))]

/-- The number of components, of the first v vertices only those that are the least of theirs. -/
noncomputable def cntL (E : List (Int × Int)) (v : Nat) : Nat := cntP (fun v : Nat => isL E E.length v) v

/-! ### The reference's forest -/
structure UpOK (E : List (Int × Int)) (j N : Nat) (up : List Int) : Prop where
  len : up.length = N
  le : ∀ v, v < N → 0 ≤ ge up v ∧ ge up v ≤ v
  cn : ∀ v, v < N → Cn E j (ge up v) v
  ls : ∀ v : Nat, v < N → ge up v = v → isL E j v
noncomputable def cntR (up : List Int) (N : Nat) : Nat := cntP (fun v : Nat => ge up v = v) N
theorem UpOK.root_eq {E : List (Int × Int)} {j N : Nat} {up : List Int} (h : UpOK E j N up) {r s : Nat} (hr : r < N) (hs : s < N) (er : ge up r = r) (es : ge up s = s) (hc : Cn E j r s) : r = s := by
  rcases Nat.lt_trichotomy r s with hl | hl | hl
  · exact absurd hc (h.ls s hs es r (by omega) (by omega))
  · exact hl
  · exact absurd hc.symm (h.ls r hr er s (by omega) (by omega))
theorem UpOK.keep {E : List (Int × Int)} {j N : Nat} {up : List Int} (h : UpOK E j N up) {r : Nat} (hr : Cn E j r (pr E j).1) (hs : Cn E j r (pr E j).2) : UpOK E (j + 1) N up := by
  refine ⟨h.len, h.le, fun v hv => (h.cn v hv).mono (by omega), fun v hv e u hu huv hc => ?_⟩
  rcases hc.split with hc | ⟨h1, h2⟩ | ⟨h1, h2⟩
  · exact h.ls v hv e u hu huv hc
  · exact h.ls v hv e u hu huv ((h1.trans hr.symm).trans (hs.trans h2))
  · exact h.ls v hv e u hu huv ((h1.trans hs.symm).trans (hr.trans h2))
theorem ge_set_same (l : List Int) {i : Nat} (h : i < l.length) (x : Int) : ge (l.set i x) i = x := by simp [ge, h]
theorem ge_set_other (l : List Int) {i j : Nat} (h : i ≠ j) (x : Int) : ge (l.set i x) j = ge l j := by simp [ge, List.getElem?_set, h]
/-- Two trees are joined: hi's root gets the parent lo. -/
theorem UpOK.join {E : List (Int × Int)} {j N : Nat} {up : List Int} (h : UpOK E j N up) {lo hi : Nat} (hl : lo < hi) (hN : hi < N) (el : ge up lo = lo) (eh : ge up hi = hi)
    (hc : (Cn E j lo (pr E j).1 ∧ Cn E j hi (pr E j).2) ∨ (Cn E j hi (pr E j).1 ∧ Cn E j lo (pr E j).2)) : UpOK E (j + 1) N (up.set hi lo) ∧ cntR up N = cntR (up.set hi lo) N + 1 := by
  have hle := h.len
  have hj : Cn E (j + 1) lo hi := by
    rcases hc with ⟨h1, h2⟩ | ⟨h1, h2⟩
    · exact ((h1.mono (by omega)).trans (Cn.edge E j)).trans (h2.symm.mono (by omega))
    · exact ((h2.mono (by omega)).trans (Cn.edge E j).symm).trans (h1.symm.mono (by omega))
  refine ⟨⟨by simpa using h.len, fun v hv => ?_, fun v hv => ?_, fun v hv e => ?_⟩, ?_⟩
  · by_cases e : hi = v
    · subst e; rw [ge_set_same _ (by omega)]; omega
    · rw [ge_set_other _ e]; exact h.le v hv
  · by_cases e : hi = v
    · subst e; rw [ge_set_same _ (by omega)]; exact hj
    · rw [ge_set_other _ e]; exact (h.cn v hv).mono (by omega)
  · by_cases eh2 : hi = v
    · subst eh2; rw [ge_set_same _ (by omega)] at e; omega
    rw [ge_set_other _ eh2] at e
    intro u hu huv hcn
    have key : ∀ {s : Nat}, s < N → ge up s = s → s ≠ hi → (s = lo ∨ s = hi) → ∀ {u : Int}, 0 ≤ u → Cn E j u hi → ¬ u < s := by
      intro s _ _ hs hlh u hu hc hlt
      have : s = lo := hlh.resolve_right hs
      exact h.ls hi hN eh u hu (by omega) hc
    rcases hcn.split with h0 | ⟨h1, h2⟩ | ⟨h1, h2⟩
    · exact h.ls v hv e u hu huv h0
    · rcases hc with ⟨c1, c2⟩ | ⟨c1, c2⟩
      · exact eh2 (h.root_eq hN hv eh e (c2.trans h2))
      · have : lo = v := h.root_eq (by omega) hv el e (c2.trans h2)
        subst this
        exact h.ls hi hN eh u hu (by omega) (h1.trans c1.symm)
    · rcases hc with ⟨c1, c2⟩ | ⟨c1, c2⟩
      · have : lo = v := h.root_eq (by omega) hv el e (c1.trans h2)
        subst this
        exact h.ls hi hN eh u hu (by omega) (h1.trans c2.symm)
      · exact eh2 (h.root_eq hN hv eh e (c1.trans h2))
  · refine cntP_drop (x := hi) eh ?_ hN (fun v hv hne => ?_)
    · rw [ge_set_same _ (by omega)]; omega
    · rw [ge_set_other _ (Ne.symm hne)]
theorem UpOK.count {E : List (Int × Int)} {N : Nat} {up : List Int} (h : UpOK E E.length N up) : cntR up N = cntL E N := by
  refine cntP_congr fun v hv => ⟨h.ls v hv, fun hL => ?_⟩
  have := h.le v hv
  refine Classical.byContradiction fun hne => hL (ge up v) this.1 (by omega) (h.cn v hv)
def idL (N : Nat) : List Int := (List.range N).map fun v : Nat => (v : Int)
theorem idL_len (N : Nat) : (idL N).length = N := by simp [idL]
theorem ge_idL {N v : Nat} (h : v < N) : ge (idL N) v = v := by simp [ge, idL, h]
theorem Cn_zero {E : List (Int × Int)} {u v : Int} (h : Cn E 0 u v) : u = v := by
  induction h with
  | refl => rfl
  | step _ hn _ => obtain ⟨i, hi, _⟩ := hn; omega
theorem UpOK.start (E : List (Int × Int)) (N : Nat) : UpOK E 0 N (idL N) ∧ cntR (idL N) N = N := by
  refine ⟨⟨idL_len N, fun v hv => by rw [ge_idL hv]; omega, fun v hv => by rw [ge_idL hv]; exact Cn.refl _, fun v hv _ u hu huv hc => ?_⟩, cntP_all fun v hv => ge_idL hv⟩
  have := Cn_zero hc
  omega

/-! ### The program's search -/
def old (E : List (Int × Int)) (v : Nat) (x : Int) : Prop := ∃ u : Int, 0 ≤ u ∧ u < v ∧ Cn E E.length u x
structure Bfs (E : List (Int × Int)) (N v : Nat) (S q : List Int) : Prop where
  met : Met N S
  od : ∀ x, old E v x → x ∈ S
  sd : ∀ x ∈ S, old E (v + 1) x
  qs : ∀ x ∈ q, x ∈ S
  vn : (v : Int) ∈ S
  cl : ∀ x ∈ S, x ∈ q ∨ ∀ y, nbrJ E E.length x y → y ∈ S
theorem old.mono {E : List (Int × Int)} {v : Nat} {x : Int} (h : old E v x) : old E (v + 1) x := by
  obtain ⟨u, h1, h2, h3⟩ := h
  exact ⟨u, h1, by push_cast; omega, h3⟩
theorem old.step {E : List (Int × Int)} {v : Nat} {x y : Int} (h : old E v x) (hn : nbrJ E E.length x y) : old E v y := by
  obtain ⟨u, h1, h2, h3⟩ := h
  exact ⟨u, h1, h2, h3.step hn⟩
theorem Bfs.start {E : List (Int × Int)} {N v : Nat} {S : List Int} (hm : Met N S) (hS : ∀ x, x ∈ S ↔ old E v x) (hv : v < N) (hn : (v : Int) ∉ S) : Bfs E N v (S ++ [(v : Int)]) [(v : Int)] := by
  refine ⟨hm.snoc (by omega) (by omega) hn, fun x hx => List.mem_append_left _ ((hS x).2 hx), fun x hx => ?_, fun x hx => List.mem_append_right _ hx, by simp, fun x hx => ?_⟩
  · rcases List.mem_append.1 hx with hx | hx
    · exact ((hS x).1 hx).mono
    · rw [List.mem_singleton.1 hx]; exact ⟨v, by omega, by push_cast; omega, Cn.refl _⟩
  · rcases List.mem_append.1 hx with hx | hx
    · exact Or.inr fun y hy => List.mem_append_left _ ((hS y).2 (((hS x).1 hx).step hy))
    · exact Or.inl hx
theorem Bfs.add {E : List (Int × Int)} {N v : Nat} {S q : List Int} (h : Bfs E N v S q) {x y : Int} (hx : x ∈ S) (hn : nbrJ E E.length x y) (hy : y ∉ S) (h0 : 0 ≤ y) (h1 : y < N) : Bfs E N v (S ++ [y]) (q ++ [y]) := by
  refine ⟨h.met.snoc h0 h1 hy, fun z hz => List.mem_append_left _ (h.od z hz), fun z hz => ?_, fun z hz => ?_, List.mem_append_left _ h.vn, fun z hz => ?_⟩
  · rcases List.mem_append.1 hz with hz | hz
    · exact h.sd z hz
    · rw [List.mem_singleton.1 hz]; exact (h.sd x hx).step hn
  · rcases List.mem_append.1 hz with hz | hz
    · exact List.mem_append_left _ (h.qs z hz)
    · exact List.mem_append_right _ hz
  · rcases List.mem_append.1 hz with hz | hz
    · rcases h.cl z hz with h2 | h2
      · exact Or.inl (List.mem_append_left _ h2)
      · exact Or.inr fun w hw => List.mem_append_left _ (h2 w hw)
    · exact Or.inl (List.mem_append_right _ hz)
theorem Bfs.cut {E : List (Int × Int)} {N v : Nat} {S q : List Int} {x : Int} (h : Bfs E N v S (x :: q)) (hx : ∀ y, nbrJ E E.length x y → y ∈ S) : Bfs E N v S q := by
  refine ⟨h.met, h.od, h.sd, fun z hz => h.qs z (List.mem_cons_of_mem _ hz), h.vn, fun z hz => ?_⟩
  rcases h.cl z hz with h2 | h2
  · rcases List.mem_cons.1 h2 with rfl | h2
    · exact Or.inr hx
    · exact Or.inl h2
  · exact Or.inr h2
theorem Bfs.done {E : List (Int × Int)} {N v : Nat} {S : List Int} (h : Bfs E N v S []) : ∀ x, x ∈ S ↔ old E (v + 1) x := by
  have hcl : ∀ x ∈ S, ∀ y, nbrJ E E.length x y → y ∈ S := fun x hx => (h.cl x hx).resolve_left (fun h => by cases h)
  refine fun x => ⟨h.sd x, fun hx => ?_⟩
  obtain ⟨u, h1, h2, h3⟩ := hx
  by_cases e : u < v
  · exact h.od x ⟨u, h1, e, h3⟩
  · have : u = v := by push_cast at h2; omega
    subst this
    have : ∀ {a b : Int}, Cn E E.length a b → a ∈ S → b ∈ S := by
      intro a b hab ha
      induction hab with
      | refl => exact ha
      | step _ hn ih => exact hcl _ ih _ hn
    exact this h3 h.vn
theorem cntL_succ {E : List (Int × Int)} {N v : Nat} {S : List Int} (hS : ∀ x, x ∈ S ↔ old E v x) : cntL E (v + 1) = cntL E v + if (v : Int) ∈ S then 0 else 1 := by
  unfold cntL
  simp only [cntP]
  congr 1
  by_cases h : (v : Int) ∈ S
  · rw [if_pos h, if_neg]
    intro hL
    obtain ⟨u, h1, h2, h3⟩ := (hS v).1 h
    exact hL u h1 h2 h3
  · rw [if_neg h, if_pos]
    intro u h1 h2 h3
    exact h ((hS v).2 ⟨u, h1, h2, h3⟩)

/-- Darts and edges. -/
theorem nbr_dart {E : List (Int × Int)} {d : Int} (h0 : 0 ≤ d) (h1 : d < 2 * E.length) : nbrJ E E.length (tailE E d) (tailE E (oth d)) := by
  refine ⟨(d / 2).toNat, by omega, ?_⟩
  by_cases e : d % 2 = 0
  · have e1 : oth d = d + 1 := by unfold oth; rw [if_pos e]
    have e2 : (d + 1) % 2 ≠ 0 := by omega
    have e3 : (d + 1) / 2 = d / 2 := by omega
    left
    unfold tailE
    rw [e1, if_pos e, if_neg e2, e3]
    exact ⟨rfl, rfl⟩
  · have e1 : oth d = d - 1 := by unfold oth; rw [if_neg e]
    have e2 : (d - 1) % 2 = 0 := by omega
    have e3 : (d - 1) / 2 = d / 2 := by omega
    right
    unfold tailE
    rw [e1, if_neg e, if_pos e2, e3]
    exact ⟨rfl, rfl⟩
theorem dart_nbr {E : List (Int × Int)} {u v : Int} (h : nbrJ E E.length u v) : ∃ d : Int, 0 ≤ d ∧ d < 2 * E.length ∧ tailE E d = u ∧ tailE E (oth d) = v := by
  obtain ⟨i, hi, h | h⟩ := h
  · refine ⟨2 * i, by omega, by omega, ?_, ?_⟩
    · unfold tailE; rw [if_pos (by omega), show (2 * (i : Int) / 2).toNat = i by omega]; exact h.1
    · unfold oth tailE; rw [if_pos (by omega : (2 * (i : Int)) % 2 = 0), if_neg (by omega), show ((2 * (i : Int) + 1) / 2).toNat = i by omega]; exact h.2
  · refine ⟨2 * i + 1, by omega, by omega, ?_, ?_⟩
    · unfold tailE; rw [if_neg (by omega), show ((2 * (i : Int) + 1) / 2).toNat = i by omega]; exact h.1
    · unfold oth tailE; rw [if_neg (by omega : ¬ (2 * (i : Int) + 1) % 2 = 0), if_pos (by omega), show ((2 * (i : Int) + 1 - 1) / 2).toNat = i by omega]; exact h.2
theorem tail_in {N : Int} {E : List (Int × Int)} {A : List (List Int)} (hV : vRot N E A) {d : Int} (h0 : 0 ≤ d) (h1 : d < 2 * E.length) : 0 ≤ tailE E d ∧ tailE E d < N := by
  have := hV.ed (d / 2).toNat (by omega)
  unfold okEdge at this
  unfold tailE
  split <;> omega
/-- When all darts around x have been met, so have all its neighbours. -/
theorem nbr_all {N : Int} {E : List (Int × Int)} {A : List (List Int)} (hV : vRot N E A) {x : Nat} {S : List Int} (h : ∀ k, k < (rowOf A x).length → tailE E (oth (ge (rowOf A x) k)) ∈ S) : ∀ y, nbrJ E E.length x y → y ∈ S := by
  intro y hy
  obtain ⟨d, h0, h1, h2, h3⟩ := dart_nbr hy
  obtain ⟨v, k, hv, hk, he, ht⟩ := dart_pos hV h0 h1
  have : v = x := by omega
  subst this
  have := h k hk
  rw [he, h3] at this
  exact this
theorem dart_of {N : Int} {E : List (Int × Int)} {A : List (List Int)} (hV : vRot N E A) {x k : Nat} (hx : x < A.length) (hk : k < (rowOf A x).length) : 0 ≤ ge (rowOf A x) k ∧ ge (rowOf A x) k < 2 * E.length ∧ tailE E (ge (rowOf A x) k) = x :=
  hV.dr (x, ge (rowOf A x) k) (mem_pre.2 ⟨k, hx, hk, rfl⟩)

end Go.Proofs.YtdacnkjmimhcaaaDoor
