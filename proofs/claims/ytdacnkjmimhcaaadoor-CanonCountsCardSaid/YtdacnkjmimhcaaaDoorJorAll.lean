/- The peeling of a planar triangulation always finds a free vertex, and the order that it leaves is canonical: plain mathematics. -/
import Derived.Test.YtdacnkjmimhcaaaDoorGen
import Derived.Test.YtdacnkjmimhcaaaDoorCanN
import Derived.Test.YtdacnkjmimhcaaaDoorCanJ
/- Edges taken out of a rotation system, its darts keeping their numbers: the count of components, faces and lone vertices. -/
set_option linter.unusedSimpArgs false
set_option linter.unusedVariables false
namespace Go.Proofs.YtdacnkjmimhcaaaDoor

/-! ### Connected without some edges -/
inductive Cs (E : List (Int × Int)) (L : List Nat) (u : Int) : Int → Prop
  | refl : Cs E L u u
  | step {v w : Int} (i : Nat) : Cs E L u v → i < E.length → i ∉ L → (((pr E i).1 = v ∧ (pr E i).2 = w) ∨ ((pr E i).2 = v ∧ (pr E i).1 = w)) → Cs E L u w
section
variable {E : List (Int × Int)} {L : List Nat}
theorem Cs.trans {u v w : Int} (h : Cs E L u v) (k : Cs E L v w) : Cs E L u w := by
  induction k with
  | refl => exact h
  | step i _ hi hL hn ih => exact ih.step i hi hL hn
theorem Cs.one {v w : Int} (i : Nat) (hi : i < E.length) (hL : i ∉ L) (hn : ((pr E i).1 = v ∧ (pr E i).2 = w) ∨ ((pr E i).2 = v ∧ (pr E i).1 = w)) : Cs E L v w := Cs.refl.step i hi hL hn
theorem Cs.symm {u v : Int} (h : Cs E L u v) : Cs E L v u := by
  induction h with
  | refl => exact Cs.refl
  | step i _ hi hL hn ih =>
    refine (Cs.one i hi hL ?_).trans ih
    rcases hn with h | h
    · exact Or.inr ⟨h.2, h.1⟩
    · exact Or.inl ⟨h.2, h.1⟩
theorem Cs.nil {u v : Int} : Cs E [] u v ↔ Cn E E.length u v := by
  constructor
  · intro h
    induction h with
    | refl => exact Cn.refl _
    | step i _ hi _ hn ih => exact ih.step ⟨i, hi, hn⟩
  · intro h
    induction h with
    | refl => exact Cs.refl
    | step _ hn ih => obtain ⟨i, hi, hn⟩ := hn; exact ih.step i hi (by simp) hn
theorem Cs.del {e : Nat} {u v : Int} (h : Cs E L u v) :
    Cs E (e :: L) u v ∨ (Cs E (e :: L) u (pr E e).1 ∧ Cs E (e :: L) (pr E e).2 v) ∨ (Cs E (e :: L) u (pr E e).2 ∧ Cs E (e :: L) (pr E e).1 v) := by
  induction h with
  | refl => exact Or.inl Cs.refl
  | step i _ hi hL hn ih =>
    by_cases hie : i = e
    · subst hie
      rcases hn with ⟨rfl, rfl⟩ | ⟨rfl, rfl⟩
      · rcases ih with h | ⟨h, _⟩ | ⟨h, _⟩
        · exact Or.inr (Or.inl ⟨h, Cs.refl⟩)
        · exact Or.inr (Or.inl ⟨h, Cs.refl⟩)
        · exact Or.inl h
      · rcases ih with h | ⟨h, _⟩ | ⟨h, _⟩
        · exact Or.inr (Or.inr ⟨h, Cs.refl⟩)
        · exact Or.inl h
        · exact Or.inr (Or.inr ⟨h, Cs.refl⟩)
    · have hL' : i ∉ e :: L := fun hm => by
        rcases List.mem_cons.1 hm with h | h
        · exact hie h
        · exact hL h
      rcases ih with h | ⟨h, h2⟩ | ⟨h, h2⟩
      · exact Or.inl (h.step i hi hL' hn)
      · exact Or.inr (Or.inl ⟨h, h2.step i hi hL' hn⟩)
      · exact Or.inr (Or.inr ⟨h, h2.step i hi hL' hn⟩)
def isS (E : List (Int × Int)) (L : List Nat) (v : Nat) : Prop := ∀ u : Int, 0 ≤ u → u < v → ¬ Cs E L u v
noncomputable def cntS (E : List (Int × Int)) (L : List Nat) (n : Nat) : Nat := cntP (isS E L) n
theorem cntS_nil (n : Nat) : cntS E [] n = cntL E n := by
  unfold cntS cntL
  exact cntP_congr fun v _ => ⟨fun h u h0 h1 hc => h u h0 h1 (Cs.nil.2 hc), fun h u h0 h1 hc => h u h0 h1 (Cs.nil.1 hc)⟩
theorem leadS_eq {v w : Nat} (hv : isS E L v) (hw : isS E L w) (h : Cs E L v w) : v = w := by
  rcases Nat.lt_trichotomy v w with hl | hl | hl
  · exact absurd h (hw v (by omega) (by omega))
  · exact hl
  · exact absurd h.symm (hv w (by omega) (by omega))
theorem not_leadS {v : Nat} (h : ¬ isS E L v) : ∃ u : Int, 0 ≤ u ∧ u < v ∧ Cs E L u v := by
  apply Classical.byContradiction
  intro hn
  exact h fun u h0 h1 hc => hn ⟨u, h0, h1, hc⟩
theorem compS_del (e : Nat) (N : Nat) : cntS E (e :: L) N ≤ cntS E L N + 1 := by
  unfold cntS
  refine cntP_one fun v w _ _ pv qv pw qw => ?_
  obtain ⟨u, u0, u1, hu⟩ := not_leadS qv
  obtain ⟨u', u0', u1', hu'⟩ := not_leadS qw
  rcases Cs.del (e := e) hu with h | ⟨h1, h2⟩ | ⟨h1, h2⟩
  · exact absurd h (pv u u0 u1)
  · rcases Cs.del (e := e) hu' with h | ⟨h3, h4⟩ | ⟨h3, h4⟩
    · exact absurd h (pw u' u0' u1')
    · exact leadS_eq pv pw (h2.symm.trans h4)
    · exfalso
      have k1 : ¬ u < w := fun hl => pw u u0 hl (h1.trans h4)
      have k2 : ¬ u' < v := fun hl => pv u' u0' hl (h3.trans h2)
      omega
  · rcases Cs.del (e := e) hu' with h | ⟨h3, h4⟩ | ⟨h3, h4⟩
    · exact absurd h (pw u' u0' u1')
    · exfalso
      have k1 : ¬ u < w := fun hl => pw u u0 hl (h1.trans h4)
      have k2 : ¬ u' < v := fun hl => pv u' u0' hl (h3.trans h2)
      omega
    · exact leadS_eq pv pw (h2.symm.trans h4)
theorem compS_keep {e : Nat} (N : Nat) (h : Cs E (e :: L) (pr E e).2 (pr E e).1) : cntS E (e :: L) N ≤ cntS E L N := by
  unfold cntS
  refine cntP_mono fun v _ pv u u0 u1 hu => ?_
  rcases Cs.del (e := e) hu with h0 | ⟨h1, h2⟩ | ⟨h1, h2⟩
  · exact pv u u0 u1 h0
  · exact pv u u0 u1 ((h1.trans h.symm).trans h2)
  · exact pv u u0 u1 ((h1.trans h).trans h2)
end

/-! ### The darts that are left -/
def skS (σ : Int → Int) (e : Nat) (y : Int) : Int := if y = 2 * (e : Int) then σ (2 * e) else if y = 2 * (e : Int) + 1 then σ (2 * e + 1) else y
/-- The dart behind a dart, some edges taken out. -/
def sucL (A : List (List Int)) : List Nat → Int → Int
  | [], d => sucF A d
  | e :: L, d => skS (sucL A L) e (sucL A L d)
def facL (A : List (List Int)) (L : List Nat) (y : Int) : Int := sucL A L (oth y)
def offB (L : List Nat) (d : Int) : Bool := L.all fun e => decide (d / 2 ≠ (e : Int))
theorem off_iff {L : List Nat} {d : Int} : offB L d = true ↔ ∀ e ∈ L, d / 2 ≠ (e : Int) := by
  unfold offB
  simp only [List.all_eq_true, decide_eq_true_iff]
theorem off_oth {L : List Nat} {d : Int} : offB L (oth d) = offB L d := by unfold offB; rw [oth_half]
theorem off_cons {L : List Nat} {e : Nat} {d : Int} : offB (e :: L) d = (decide (d / 2 ≠ (e : Int)) && offB L d) := rfl
def rowL (A : List (List Int)) (L : List Nat) (v : Nat) : List Int := (rowOf A v).filter (offB L)
theorem rowL_cons (A : List (List Int)) (L : List Nat) (e v : Nat) : rowL A (e :: L) v = (rowL A L v).filter (fun d => decide (d / 2 ≠ (e : Int))) := by
  unfold rowL
  rw [List.filter_filter]
  rfl
theorem mem_rowL {A : List (List Int)} {L : List Nat} {v : Nat} {d : Int} : d ∈ rowL A L v ↔ d ∈ rowOf A v ∧ offB L d = true := List.mem_filter
theorem skS_id {σ : Int → Int} {e : Nat} {y : Int} (h : y / 2 ≠ (e : Int)) : skS σ e y = y := by unfold skS; rw [if_neg (by omega), if_neg (by omega)]
theorem skS_at {σ : Int → Int} {e : Nat} {y : Int} (h : y / 2 = (e : Int)) : skS σ e y = σ y := by
  unfold skS
  by_cases h1 : y = 2 * (e : Int)
  · rw [if_pos h1, h1]
  · rw [if_neg h1, if_pos (by omega), show 2 * (e : Int) + 1 = y by omega]

/-- A cycle, one element taken out. -/
theorem cyc_skip {σ : Int → Int} {e : Nat} {l : List Int} (hc : Cyc σ l) (hn : l.Nodup) (h1 : ∀ c ∈ l, ∀ c' ∈ l, c / 2 = (e : Int) → c' / 2 = (e : Int) → c = c') (h0 : l.filter (fun d => decide (d / 2 ≠ (e : Int))) ≠ []) :
    Cyc (fun d => skS σ e (σ d)) (l.filter (fun d => decide (d / 2 ≠ (e : Int)))) := by
  by_cases hx : ∃ c ∈ l, c / 2 = (e : Int)
  · obtain ⟨c, hcl, hce⟩ := hx
    obtain ⟨u, v, rfl, hcy⟩ := hc.start hcl
    rw [List.nodup_append, List.nodup_cons] at hn
    have hu : ∀ d ∈ u, d / 2 ≠ (e : Int) := fun d hd he => hn.2.2 d hd c (by simp) (h1 d (by simp [hd]) c (by simp) he hce)
    have hv : ∀ d ∈ v, d / 2 ≠ (e : Int) := fun d hd he => by
      have := h1 d (by simp [hd]) c (by simp) he hce
      exact hn.2.1.1 (this ▸ hd)
    have hf : (u ++ c :: v).filter (fun d => decide (d / 2 ≠ (e : Int))) = u ++ v := by
      rw [List.filter_append, List.filter_cons, if_neg (by simp [hce]), List.filter_eq_self.2 (fun d hd => by simpa using hu d hd), List.filter_eq_self.2 (fun d hd => by simpa using hv d hd)]
    rw [hf] at h0 ⊢
    refine Cyc.rot (u := v) (v := u) ?_
    have hvu : ∀ d ∈ v ++ u, d / 2 ≠ (e : Int) := fun d hd => by
      rcases List.mem_append.1 hd with h | h
      · exact hv d h
      · exact hu d h
    cases hl : v ++ u with
    | nil =>
      exfalso
      rw [List.append_eq_nil_iff] at hl
      exact h0 (by rw [hl.1, hl.2]; rfl)
    | cons y t =>
      rw [hl] at hcy hvu
      obtain ⟨e1, e2⟩ : σ c = y ∧ Ch σ y t c := hcy
      have := Ch.sk (g := fun d => skS σ e (σ d)) (sk := skS σ e) (fun _ _ => rfl) (fun z hz => skS_id (hvu z (List.mem_cons_of_mem _ hz))) e2
      rw [skS_at hce, e1] at this
      exact this
  · have hno : ∀ d ∈ l, d / 2 ≠ (e : Int) := fun d hd he => hx ⟨d, hd, he⟩
    rw [List.filter_eq_self.2 (fun d hd => by simpa using hno d hd)]
    cases l with
    | nil => exact hc.elim
    | cons y t =>
      have := Ch.sk (g := fun d => skS σ e (σ d)) (sk := skS σ e) (fun _ _ => rfl) (fun z hz => skS_id (hno z (List.mem_cons_of_mem _ hz))) hc
      rw [skS_id (hno y (by simp))] at this
      exact this

section
variable {N : Int} {E : List (Int × Int)} {A : List (List Int)}
theorem row_one (hV : vRot N E A) {v : Nat} (hv : v < A.length) {c c' : Int} (h : c ∈ rowOf A v) (h' : c' ∈ rowOf A v) {e : Nat} (k : c / 2 = (e : Int)) (k' : c' / 2 = (e : Int)) : c = c' := by
  apply Classical.byContradiction
  intro hne
  have t1 := mem_row hV hv h
  have t2 := mem_row hV hv h'
  have he : e < E.length := by omega
  have hends := ends_ne hV he
  rcases (by omega : (c = 2 * (e : Int) ∧ c' = 2 * (e : Int) + 1) ∨ (c = 2 * (e : Int) + 1 ∧ c' = 2 * (e : Int))) with ⟨a, b⟩ | ⟨a, b⟩
  · rw [a] at t1; rw [b] at t2; exact hends (by rw [t1.2.2, t2.2.2])
  · rw [a] at t1; rw [b] at t2; exact hends (by rw [t1.2.2, t2.2.2])
theorem rowL_cyc (hV : vRot N E A) {v : Nat} (hv : v < A.length) : ∀ {L : List Nat}, rowL A L v ≠ [] → Cyc (sucL A L) (rowL A L v)
  | [], h0 => by
    have e : rowL A [] v = rowOf A v := List.filter_eq_self.2 (fun _ _ => rfl)
    rw [e] at h0 ⊢
    exact row_cyc hV hv h0
  | e :: L, h0 => by
    rw [rowL_cons] at h0 ⊢
    have h1 : rowL A L v ≠ [] := fun h => by rw [h] at h0; exact h0 rfl
    exact cyc_skip (rowL_cyc hV hv h1) ((row_nodup hV hv).filter _) (fun c hc c' hc' k k' => row_one hV hv (mem_rowL.1 hc).1 (mem_rowL.1 hc').1 k k') h0
/-- The darts of the edges that are left. -/
def DL (E : List (Int × Int)) (L : List Nat) (y : Int) : Prop := (0 ≤ y ∧ y < 2 * (E.length : Int)) ∧ offB L y = true
theorem DL.oth {L : List Nat} {y : Int} (h : DL E L y) : DL E L (oth y) := ⟨oth_in h.1.1 h.1.2, by rw [off_oth]; exact h.2⟩
theorem DL.row (hV : vRot N E A) {L : List Nat} {y : Int} (h : DL E L y) : ∃ v, v < A.length ∧ y ∈ rowL A L v ∧ tailE E y = v := by
  obtain ⟨v, hv, hm, ht⟩ := row_of hV h.1.1 h.1.2
  exact ⟨v, hv, mem_rowL.2 ⟨hm, h.2⟩, ht⟩
theorem rowL_DL (hV : vRot N E A) {L : List Nat} {v : Nat} (hv : v < A.length) {y : Int} (h : y ∈ rowL A L v) : DL E L y ∧ tailE E y = v := by
  obtain ⟨h1, h2⟩ := mem_rowL.1 h
  have := mem_row hV hv h1
  exact ⟨⟨⟨this.1, this.2.1⟩, h2⟩, this.2.2⟩
theorem sucL_in (hV : vRot N E A) {L : List Nat} {y : Int} (h : DL E L y) : DL E L (sucL A L y) ∧ tailE E (sucL A L y) = tailE E y := by
  obtain ⟨v, hv, hm, ht⟩ := h.row hV
  have := rowL_DL hV hv ((rowL_cyc hV hv (List.ne_nil_of_mem hm)).img hm)
  rw [ht]
  exact this
theorem facL_tail (hV : vRot N E A) {L : List Nat} {y : Int} (h : DL E L y) : DL E L (facL A L y) ∧ tailE E (facL A L y) = tailE E (oth y) := sucL_in hV h.oth
end
end Go.Proofs.YtdacnkjmimhcaaaDoor

/- Edges taken out of a planar rotation system: components, faces and lone vertices. -/
namespace Go.Proofs.YtdacnkjmimhcaaaDoor

section
variable {N : Int} {E : List (Int × Int)} {A : List (List Int)}
theorem off_not {L : List Nat} {e : Nat} (hL : e ∉ L) {d : Int} (hd : d / 2 = e) : offB L d = true := off_iff.2 fun e' he' h => by
  have h2 : e' = e := by omega
  exact hL (h2 ▸ he')
noncomputable def isoS (A : List (List Int)) (L : List Nat) : Nat := cntP (fun u => rowL A L u = []) A.length
theorem row_alone (hV : vRot N E A) {L : List Nat} {v : Nat} (hv : v < A.length) {c : Int} (hc : c ∈ rowL A L v) (hs : sucL A L c = c) : rowL A L v = [c] := by
  have hn : (rowL A L v).Nodup := (row_nodup hV hv).filter _
  obtain ⟨p, q, hl, hcy⟩ := (rowL_cyc hV hv (List.ne_nil_of_mem hc)).start hc
  cases hqp : q ++ p with
  | nil =>
    rw [List.append_eq_nil_iff] at hqp
    rw [hl, hqp.1, hqp.2]
    rfl
  | cons y t =>
    exfalso
    rw [hqp] at hcy
    obtain ⟨e1, _⟩ : sucL A L c = y ∧ Ch (sucL A L) y t c := hcy
    rw [hl, List.nodup_append, List.nodup_cons] at hn
    have hy : y ∈ q ++ p := by rw [hqp]; simp
    rw [← e1, hs] at hy
    rcases List.mem_append.1 hy with h | h
    · exact hn.2.1.1 h
    · exact hn.2.2 c h c (by simp) rfl
theorem iso_step (hV : vRot N E A) {L : List Nat} {e : Nat} (he : e < E.length) (hL : e ∉ L) : isoS A L + ((if facL A L (2 * e) = 2 * e + 1 then 1 else 0) + (if facL A L (2 * e + 1) = 2 * e then 1 else 0)) ≤ isoS A (e :: L) := by
  have oa : oth (2 * (e : Int)) = 2 * e + 1 := oth_a e
  have ob : oth (2 * (e : Int) + 1) = 2 * e := oth_b e
  have off : ∀ d : Int, d / 2 = e → offB L d = true := fun d hd => off_not hL hd
  obtain ⟨va, hva, ha, ta⟩ := DL.row hV (L := L) (y := 2 * (e : Int)) ⟨by omega, off _ (by omega)⟩
  obtain ⟨vb, hvb, hb, tb⟩ := DL.row hV (L := L) (y := 2 * (e : Int) + 1) ⟨by omega, off _ (by omega)⟩
  have hne : va ≠ vb := fun h => ends_ne hV he (by rw [ta, tb, h])
  have hpa : ¬ rowL A L va = [] := List.ne_nil_of_mem ha
  have hpb : ¬ rowL A L vb = [] := List.ne_nil_of_mem hb
  unfold isoS
  rw [← Nat.add_assoc, Nat.add_right_comm, Nat.add_assoc, Nat.add_comm (if facL A L (2 * (e : Int) + 1) = 2 * e then 1 else 0), ← Nat.add_assoc,
    ← cntP_add (p := fun u => rowL A L u = []) (x := vb) (P := facL A L (2 * e) = 2 * e + 1) hpb hvb,
    ← cntP_add (p := fun u => rowL A L u = [] ∨ (u = vb ∧ facL A L (2 * e) = 2 * e + 1)) (x := va) (P := facL A L (2 * e + 1) = 2 * e) (fun h => h.elim hpa (fun h => hne h.1)) hva]
  refine cntP_mono fun u _ h => ?_
  rw [rowL_cons]
  rcases h with (h | ⟨rfl, h⟩) | ⟨rfl, h⟩
  · rw [h]; rfl
  · unfold facL at h
    rw [oa] at h
    rw [row_alone hV hvb hb h]
    simp
    omega
  · unfold facL at h
    rw [ob] at h
    rw [row_alone hV hva ha h]
    simp

theorem face_cs (hV : vRot N E A) {L : List Nat} {e : Nat} : ∀ {t : List Int} {x z : Int}, (∀ y ∈ x :: t, DL E L y ∧ y / 2 ≠ (e : Int)) → Ch (facL A L) x t z → Cs E (e :: L) (tailE E x) (tailE E z) := by
  have one : ∀ y : Int, DL E L y → y / 2 ≠ (e : Int) → Cs E (e :: L) (tailE E y) (tailE E (facL A L y)) := fun y hy he => by
    rw [(facL_tail hV hy).2]
    refine Cs.one (y / 2).toNat (by have := hy.1; omega) (fun hm => ?_) ?_
    · rcases List.mem_cons.1 hm with h | h
      · have := hy.1; omega
      · exact off_iff.1 hy.2 _ h (by have := hy.1; omega)
    · unfold tailE oth
      by_cases h2 : y % 2 = 0
      · rw [if_pos h2, if_pos h2, if_neg (by omega), show ((y + 1) / 2) = y / 2 by omega]
        exact Or.inl ⟨rfl, rfl⟩
      · rw [if_neg h2, if_neg h2, if_pos (by omega), show ((y - 1) / 2) = y / 2 by omega]
        exact Or.inr ⟨rfl, rfl⟩
  intro t
  induction t with
  | nil =>
    intro x z hx hc
    have h := hx x (by simp)
    have hc' : facL A L x = z := hc
    rw [← hc']
    exact one x h.1 h.2
  | cons y t ih =>
    intro x z hx hc
    obtain ⟨h1, h2⟩ := hc
    have h := hx x (by simp)
    have := one x h.1 h.2
    rw [h1] at this
    exact this.trans (ih (fun y hy => hx y (List.mem_cons_of_mem _ hy)) h2)

/-- What stays of Euler's equation. -/
def Sub (N : Int) (E : List (Int × Int)) (A : List (List Int)) (L : List Nat) : Prop :=
  ∃ M, Dec (DL E L) (facL A L) M ∧ 2 * (cntS E L A.length : Int) + E.length ≤ N + L.length + M.length + isoS A L
theorem DL_cons {L : List Nat} {e : Nat} {y : Int} : (DL E L y ∧ y ≠ 2 * (e : Int) ∧ y ≠ 2 * (e : Int) + 1) ↔ DL E (e :: L) y := by
  unfold DL
  rw [off_cons, Bool.and_eq_true, decide_eq_true_iff]
  constructor
  · rintro ⟨⟨h1, h2⟩, h3, h4⟩
    exact ⟨h1, by omega, h2⟩
  · rintro ⟨h1, h2, h3⟩
    exact ⟨⟨h1, h3⟩, by omega, by omega⟩
theorem sub_step (hV : vRot N E A) {L : List Nat} {e : Nat} (he : e < E.length) (hL : e ∉ L) (h : Sub N E A L) : Sub N E A (e :: L) := by
  obtain ⟨M0, hD, hle⟩ := h
  have hiso := iso_step hV he hL
  have oa : oth (2 * (e : Int)) = 2 * e + 1 := oth_a e
  have ob : oth (2 * (e : Int) + 1) = 2 * e := oth_b e
  have off : ∀ d : Int, d / 2 = e → offB L d = true := fun d hd => off_not hL hd
  have da : DL E L (2 * (e : Int)) := ⟨by omega, off _ (by omega)⟩
  have db : DL E L (2 * (e : Int) + 1) := ⟨by omega, off _ (by omega)⟩
  have hsk : ∀ y : Int, y ≠ 2 * (e : Int) → y ≠ 2 * (e : Int) + 1 → skS (sucL A L) e y = y := fun y h1 h2 => by unfold skS; rw [if_neg h1, if_neg h2]
  have hka : skS (sucL A L) e (2 * e) = facL A L (2 * e + 1) := by unfold skS facL; rw [if_pos rfl, ob]
  have hkb : skS (sucL A L) e (2 * e + 1) = facL A L (2 * e) := by unfold skS facL; rw [if_neg (by omega), if_pos rfl, oa]
  obtain ⟨t, M, h1, hM⟩ := hD.at (x := 2 * (e : Int)) da
  by_cases hb : (2 * (e : Int) + 1) ∈ t
  · obtain ⟨L', h2, h3⟩ := h1.del_one (g := facL A (e :: L)) hb hsk hka hkb (fun _ _ _ _ => rfl)
    refine ⟨L', h2.congr fun y => DL_cons, ?_⟩
    have := compS_del (E := E) (L := L) e A.length
    rw [List.length_cons]
    omega
  · have hbt : (2 * (e : Int) + 1) ∉ (2 * (e : Int)) :: t := fun h => by
      rcases List.mem_cons.1 h with h | h
      · omega
      · exact hb h
    obtain ⟨u, M2, h2, hM2⟩ := h1.tail.at (x := 2 * (e : Int) + 1) ⟨db, hbt⟩
    have hn := h1.nd
    rw [List.flatten_cons, List.nodup_append] at hn
    have h3 : Dec (DL E L) (facL A L) (((2 * (e : Int)) :: t) :: ((2 * (e : Int) + 1) :: u) :: M2) := by
      refine (h2.cons (l := (2 * (e : Int)) :: t) (h1.cyc _ (by simp)) hn.1 (fun x hx h => h.2 hx)).congr fun x => ⟨fun h => ?_, fun h => ?_⟩
      · rcases h with h | h
        · exact h.1
        · exact (h1.mem x).1 (by rw [List.flatten_cons]; exact List.mem_append_left _ h)
      · by_cases hx : x ∈ (2 * (e : Int)) :: t
        · exact Or.inr hx
        · exact Or.inl ⟨h, hx⟩
    have hfa : facL A L (2 * e) ≠ 2 * e := fun h => by
      have := (facL_tail hV da).2
      rw [h, oa] at this
      exact ends_ne hV he this
    have hfb : facL A L (2 * e + 1) ≠ 2 * e + 1 := fun h => by
      have := (facL_tail hV db).2
      rw [h, ob] at this
      exact ends_ne hV he this.symm
    obtain ⟨L', h4, h5⟩ := h3.del_two (g := facL A (e :: L)) hsk hka hkb hfa hfb (fun _ _ _ _ => rfl)
    have hcy : Cyc (facL A L) ((2 * (e : Int)) :: t) := h1.cyc _ (by simp)
    have hk : cntS E (e :: L) A.length ≤ cntS E L A.length := by
      refine compS_keep _ ?_
      cases t with
      | nil => exact absurd hcy hfa
      | cons x t =>
        obtain ⟨c1, c2⟩ : facL A L (2 * e) = x ∧ Ch (facL A L) x t (2 * e) := hcy
        have hin : ∀ y ∈ x :: t, DL E L y ∧ y / 2 ≠ (e : Int) := fun y hy => by
          have hyD := (h1.mem y).1 (by rw [List.flatten_cons]; exact List.mem_append_left _ (List.mem_cons_of_mem _ hy))
          have hy1 : y ≠ 2 * e + 1 := fun h => hb (h ▸ hy)
          have hy2 : y ≠ 2 * e := fun h => by
            rw [List.nodup_cons] at hn
            exact hn.1.1 (h ▸ hy)
          exact ⟨hyD, by omega⟩
        have := face_cs hV hin c2
        rw [tail_a] at this
        have ht : tailE E x = (pr E e).2 := by
          rw [← c1, (facL_tail hV da).2, oa, tail_b]
        rw [ht] at this
        exact this
    refine ⟨L', h4.congr fun y => DL_cons, ?_⟩
    rw [List.length_cons]
    omega
theorem sub_nil (hV : vRot N E A) (hg : genusF N E A = 0) : Sub N E A [] := by
  have hx := (gen_main _ rfl hV).1
  rw [genus_eq hV] at hg
  have hh : (genX N E A).tdiv 2 * 2 = genX N E A := by
    obtain ⟨k, hk⟩ : ∃ k, genX N E A = 2 * k := ⟨genX N E A / 2, by omega⟩
    rw [hk, Int.mul_tdiv_cancel_left _ (by decide)]
    omega
  have hr : ∀ v, rowL A [] v = rowOf A v := fun v => List.filter_eq_self.2 (fun _ _ => rfl)
  refine ⟨facesF A (2 * E.length), (fac_dec hV).congr fun x => ⟨fun h => ⟨h, rfl⟩, fun h => h.1⟩, ?_⟩
  have hI : isoS A [] = isoN A := by
    unfold isoS isoN
    exact cntP_congr fun v _ => by rw [hr, List.length_eq_zero_iff]
  rw [cntS_nil, hI, List.length_nil]
  unfold genX at hh hg
  omega
theorem sub_all (hV : vRot N E A) (hg : genusF N E A = 0) : ∀ {L : List Nat}, L.Nodup → (∀ e ∈ L, e < E.length) → Sub N E A L
  | [], _, _ => sub_nil hV hg
  | e :: L, hn, hL => by
    rw [List.nodup_cons] at hn
    exact sub_step hV (hL e (by simp)) hn.1 (sub_all hV hg hn.2 fun e' he' => hL e' (List.mem_cons_of_mem _ he'))
end
end Go.Proofs.YtdacnkjmimhcaaaDoor

/- Two chords inside a ring do not cross in a planar rotation system. -/
namespace Go.Proofs.YtdacnkjmimhcaaaDoor

/-! ### Counting -/
open Classical in
theorem cntP_list (p : Nat → Prop) : ∀ n, cntP p n = ((List.range n).filter (fun v => decide (p v))).length
  | 0 => rfl
  | n + 1 => by
    rw [List.range_succ, List.filter_append, List.length_append, ← cntP_list p n]
    simp only [cntP]
    by_cases h : p n
    · simp [h]
    · simp [h]
theorem cntP_most {p : Nat → Prop} {n : Nat} {S : List Nat} (hn : S.Nodup) (h : ∀ v ∈ S, v < n ∧ ¬ p v) : cntP p n + S.length ≤ n := by
  classical
  rw [cntP_list]
  have : ((List.range n).filter (fun v => decide (p v)) ++ S).Nodup := by
    rw [List.nodup_append]
    refine ⟨List.nodup_range.filter _, hn, fun a ha b hb e => ?_⟩
    subst e
    exact (h a hb).2 (of_decide_eq_true (List.mem_filter.1 ha).2)
  have h2 := List.Nodup.length_le_of_subset this (l₂ := List.range n) (fun x hx => by
    rcases List.mem_append.1 hx with hx | hx
    · exact (List.mem_filter.1 hx).1
    · exact List.mem_range.2 (h x hx).1)
  rw [List.length_append, List.length_range] at h2
  exact h2
theorem cntP_least {p : Nat → Prop} {n : Nat} {S : List Nat} (h : ∀ v, v < n → ¬ p v → v ∈ S) : n ≤ cntP p n + S.length := by
  classical
  rw [cntP_list, ← List.length_append]
  have := List.Nodup.length_le_of_subset (List.nodup_range (n := n)) (l₂ := (List.range n).filter (fun v => decide (p v)) ++ S) (fun x hx => by
    by_cases e : p x
    · exact List.mem_append_left _ (List.mem_filter.2 ⟨hx, decide_eq_true e⟩)
    · exact List.mem_append_right _ (h x (List.mem_range.1 hx) e))
  rwa [List.length_range] at this

/-! ### Two cycles -/
theorem dec_none {D : Int → Prop} {f : Int → Int} {M : List (List Int)} (h : Dec D f M) (h0 : ∀ x, ¬ D x) : M = [] := by
  cases M with
  | nil => rfl
  | cons l M =>
    exfalso
    have hc := h.cyc l (by simp)
    cases l with
    | nil => exact hc
    | cons x t => exact h0 x ((h.mem x).1 (by simp))
theorem dec_two {D : Int → Prop} {f : Int → Int} {M : List (List Int)} (h : Dec D f M) {a b : Int} (ha : D a) (hab : ∀ S : Int → Prop, (∀ x, D x → S x → S (f x)) → ∀ x, D x → (S a → S b → S x)) : M.length ≤ 2 := by
  have hcl : ∀ (t : List Int) (K : List (List Int)), Dec D f (t :: K) → ∀ x, D x → x ∈ t → f x ∈ t := fun t K hd x _ hx => (hd.cyc t (by simp)).img hx
  obtain ⟨t, K, h1, hK⟩ := h.at ha
  by_cases hb : D b ∧ b ∉ a :: t
  · obtain ⟨u, K2, h2, hK2⟩ := h1.tail.at hb
    have : K2 = [] := dec_none h2.tail fun x hx => by
      have hS := hab (fun y => y ∈ a :: t ∨ y ∈ b :: u) (fun y _ hy => by
        rcases hy with hy | hy
        · exact Or.inl (hcl _ _ h1 y ((h1.mem y).1 (by rw [List.flatten_cons]; exact List.mem_append_left _ hy)) hy)
        · exact Or.inr ((h2.cyc _ (by simp)).img hy)) x hx.1.1 (Or.inl (by simp)) (Or.inr (by simp))
      rcases hS with h | h
      · exact hx.1.2 h
      · exact hx.2 h
    subst this
    simp at hK2
    omega
  · have : K = [] := dec_none h1.tail fun x hx => by
      have hbt : b ∈ a :: t ∨ ¬ D b := by
        by_cases e : D b
        · exact Or.inl (Classical.byContradiction fun h => hb ⟨e, h⟩)
        · exact Or.inr e
      have hS := hab (fun y => y ∈ a :: t ∨ ¬ D y) (fun y hy h => by
        rcases h with h | h
        · exact Or.inl (hcl _ _ h1 y hy h)
        · exact absurd hy h) x hx.1 (Or.inl (by simp)) hbt
      rcases hS with h | h
      · exact hx.2 h
      · exact h hx.1
    subst this
    simp at hK
    omega

/-! ### The ring -/
def up (m t : Nat) : Nat := if t + 1 = m then 0 else t + 1
def dn (m t : Nat) : Nat := if t = 0 then m - 1 else t - 1
theorem up_lt {m t : Nat} (h : t < m) : up m t < m := by unfold up; split <;> omega
theorem dn_lt {m t : Nat} (h : t < m) : dn m t < m := by unfold dn; split <;> omega
theorem up_dn {m t : Nat} (h : t < m) : up m (dn m t) = t := by unfold up dn; split <;> split <;> omega
theorem dn_up {m t : Nat} (h : t < m) : dn m (up m t) = t := by unfold up dn; split <;> split <;> omega

/-- A ring of vertices; at each, the darts behind the one to the next and ahead of the one to the vertex before lead outside. -/
structure Ring (E : List (Int × Int)) (A : List (List Int)) (m : Nat) (c R : Nat → Int) : Prop where
  inj : ∀ s t, s < m → t < m → c s = c t → s = t
  inA : ∀ t, t < m → 0 ≤ c t ∧ c t < A.length
  rd : ∀ t, t < m → 0 ≤ R t ∧ R t < 2 * (E.length : Int)
  tl : ∀ t, t < m → tailE E (R t) = c t
  hd : ∀ t, t < m → tailE E (oth (R t)) = c (up m t)
  gap : ∀ t, t < m → ∃ X G p q, rowOf A (c t).toNat = p ++ q ∧ q ++ p = oth (R (dn m t)) :: (X ++ R t :: G) ∧ ∀ d ∈ G, ∀ s, s < m → tailE E (oth d) ≠ c s

section
variable {N : Int} {E : List (Int × Int)} {A : List (List Int)} {m : Nat} {c R : Nat → Int}
theorem half_cases {d d' : Int} (h : d / 2 = d' / 2) : d = d' ∨ d = oth d' := by unfold oth; split <;> omega
/-- The edges of the ring and two more. -/
def keepL (m : Nat) (R : Nat → Int) (x y : Int) : List Nat := (x / 2).toNat :: (y / 2).toNat :: (List.range m).map fun t => (R t / 2).toNat
def offL (E : List (Int × Int)) (m : Nat) (R : Nat → Int) (x y : Int) : List Nat := (List.range E.length).filter fun e => decide (e ∉ keepL m R x y)
theorem off_keep {x y d : Int} (hx : 0 ≤ x) (hy : 0 ≤ y) (hR : ∀ t, t < m → 0 ≤ R t) (h0 : 0 ≤ d) (h1 : d < 2 * (E.length : Int)) : offB (offL E m R x y) d = true ↔ d / 2 = x / 2 ∨ d / 2 = y / 2 ∨ ∃ t, t < m ∧ d / 2 = R t / 2 := by
  rw [off_iff]
  constructor
  · intro h
    apply Classical.byContradiction
    intro hn
    refine h (d / 2).toNat (List.mem_filter.2 ⟨List.mem_range.2 (by omega), decide_eq_true ?_⟩) (by omega)
    intro hm
    unfold keepL at hm
    rcases List.mem_cons.1 hm with e | hm
    · exact hn (Or.inl (by omega))
    · rcases List.mem_cons.1 hm with e | hm
      · exact hn (Or.inr (Or.inl (by omega)))
      · obtain ⟨t, ht, e⟩ := List.mem_map.1 hm
        have := hR t (List.mem_range.1 ht)
        have e' : (R t / 2).toNat = (d / 2).toNat := e
        exact hn (Or.inr (Or.inr ⟨t, List.mem_range.1 ht, by omega⟩))
  · intro h e he hde
    have hm := of_decide_eq_true (List.mem_filter.1 he).2
    refine hm ?_
    unfold keepL
    rcases h with h | h | ⟨t, ht, h⟩
    · exact List.mem_cons.2 (Or.inl (by omega))
    · exact List.mem_cons.2 (Or.inr (List.mem_cons.2 (Or.inl (by omega))))
    · exact List.mem_cons_of_mem _ (List.mem_cons_of_mem _ (List.mem_map.2 ⟨t, List.mem_range.2 ht, by omega⟩))
end
end Go.Proofs.YtdacnkjmimhcaaaDoor

/- Two chords inside a ring do not cross: the faces of the ring with two crossing chords. -/
namespace Go.Proofs.YtdacnkjmimhcaaaDoor

theorem single_of {l : List Int} {a : Int} (hn : l.Nodup) (ha : a ∈ l) (h : ∀ d ∈ l, d = a) : l = [a] := by
  cases l with
  | nil => cases ha
  | cons b t =>
    have hb := h b (by simp)
    subst hb
    cases t with
    | nil => rfl
    | cons d t =>
      have := h d (by simp)
      subst this
      rw [List.nodup_cons] at hn
      exact absurd (List.mem_cons_self ..) hn.1

/-- A ring and two crossing chords. -/
structure Crs (E : List (Int × Int)) (A : List (List Int)) (m : Nat) (c R : Nat → Int) (x y : Int) (p0 p1 p2 p3 : Nat) : Prop extends Ring E A m c R where
  l1 : p0 < p1
  l2 : p1 < p2
  l3 : p2 < p3
  l4 : p3 < m
  xd : 0 ≤ x ∧ x < 2 * (E.length : Int)
  yd : 0 ≤ y ∧ y < 2 * (E.length : Int)
  xt : tailE E x = c p0
  xh : tailE E (oth x) = c p2
  yt : tailE E y = c p1
  yh : tailE E (oth y) = c p3

section
variable {N : Int} {E : List (Int × Int)} {A : List (List Int)} {m : Nat} {c R : Nat → Int} {x y : Int} {p0 p1 p2 p3 : Nat}
theorem Crs.kept (h : Crs E A m c R x y p0 p1 p2 p3) {d : Int} (h0 : 0 ≤ d) (h1 : d < 2 * (E.length : Int)) (ho : offB (offL E m R x y) d = true) :
    (∃ t, t < m ∧ (d = R t ∨ d = oth (R t))) ∨ d = x ∨ d = oth x ∨ d = y ∨ d = oth y := by
  rcases (off_keep h.xd.1 h.yd.1 (fun t ht => (h.rd t ht).1) h0 h1).1 ho with k | k | ⟨t, ht, k⟩
  · rcases half_cases k with e | e
    · exact Or.inr (Or.inl e)
    · exact Or.inr (Or.inr (Or.inl e))
  · rcases half_cases k with e | e
    · exact Or.inr (Or.inr (Or.inr (Or.inl e)))
    · exact Or.inr (Or.inr (Or.inr (Or.inr e)))
  · exact Or.inl ⟨t, ht, half_cases k⟩
theorem Crs.keep_R (h : Crs E A m c R x y p0 p1 p2 p3) {t : Nat} (ht : t < m) : DL E (offL E m R x y) (R t) :=
  ⟨h.rd t ht, (off_keep h.xd.1 h.yd.1 (fun t ht => (h.rd t ht).1) (h.rd t ht).1 (h.rd t ht).2).2 (Or.inr (Or.inr ⟨t, ht, rfl⟩))⟩
theorem Crs.keep_x (h : Crs E A m c R x y p0 p1 p2 p3) : DL E (offL E m R x y) x :=
  ⟨h.xd, (off_keep h.xd.1 h.yd.1 (fun t ht => (h.rd t ht).1) h.xd.1 h.xd.2).2 (Or.inl rfl)⟩
theorem Crs.keep_y (h : Crs E A m c R x y p0 p1 p2 p3) : DL E (offL E m R x y) y :=
  ⟨h.yd, (off_keep h.xd.1 h.yd.1 (fun t ht => (h.rd t ht).1) h.yd.1 h.yd.2).2 (Or.inr (Or.inl rfl))⟩
/-- Both ends of a kept edge lie on the ring. -/
theorem Crs.on (h : Crs E A m c R x y p0 p1 p2 p3) {d : Int} (h0 : 0 ≤ d) (h1 : d < 2 * (E.length : Int)) (ho : offB (offL E m R x y) d = true) : (∃ s, s < m ∧ tailE E d = c s) ∧ ∃ s, s < m ∧ tailE E (oth d) = c s := by
  have := h.l1; have := h.l2; have := h.l3; have := h.l4
  rcases h.kept h0 h1 ho with ⟨t, ht, e | e⟩ | e | e | e | e <;> subst e
  · exact ⟨⟨t, ht, h.tl t ht⟩, _, up_lt ht, h.hd t ht⟩
  · rw [oth_oth]; exact ⟨⟨_, up_lt ht, h.hd t ht⟩, t, ht, h.tl t ht⟩
  · exact ⟨⟨p0, by omega, h.xt⟩, p2, by omega, h.xh⟩
  · rw [oth_oth]; exact ⟨⟨p2, by omega, h.xh⟩, p0, by omega, h.xt⟩
  · exact ⟨⟨p1, by omega, h.yt⟩, p3, by omega, h.yh⟩
  · rw [oth_oth]; exact ⟨⟨p3, by omega, h.yh⟩, p1, by omega, h.yt⟩

/-- The darts at a vertex of the ring. -/
theorem Crs.at (hV : vRot N E A) (h : Crs E A m c R x y p0 p1 p2 p3) {t : Nat} (ht : t < m) : ∃ X : List Int, Cyc (sucL A (offL E m R x y)) (oth (R (dn m t)) :: (X ++ [R t])) ∧ X.Nodup ∧
    (∀ d ∈ X, (d = x ∧ t = p0) ∨ (d = oth x ∧ t = p2) ∨ (d = y ∧ t = p1) ∨ (d = oth y ∧ t = p3)) ∧
    ∀ d o, DL E (offL E m R x y) d → tailE E d = c t → o < m → tailE E (oth d) = c o → o ≠ up m t → o ≠ dn m t → d ∈ X := by
  obtain ⟨X, G, p, q, hrow, hqp, hG⟩ := h.gap t ht
  have hin := h.inA t ht
  obtain ⟨v, hv⟩ : ∃ v : Nat, (c t).toNat = v := ⟨_, rfl⟩
  have hcv : c t = (v : Int) := by omega
  rw [hv] at hrow
  have hvA : v < A.length := by omega
  have hdn := dn_lt ht
  have hnd : (q ++ p).Nodup := by
    have := row_nodup hV hvA
    rw [hrow] at this
    exact (List.perm_append_comm.nodup_iff).1 this
  have hmem : ∀ d, d ∈ q ++ p ↔ d ∈ rowOf A v := fun d => by rw [hrow, List.mem_append, List.mem_append]; exact or_comm
  rw [hqp] at hnd
  simp only [List.nodup_cons, List.nodup_append, List.mem_append, List.mem_cons, not_or] at hnd
  obtain ⟨⟨n1, n2, n3⟩, n4, ⟨n5, n6⟩, n7⟩ := hnd
  have kl : offB (offL E m R x y) (oth (R (dn m t))) = true := (h.keep_R hdn).oth.2
  have kr := (h.keep_R ht).2
  have hGf : G.filter (offB (offL E m R x y)) = [] := List.filter_eq_nil_iff.2 fun d hd ho => by
    have hdr := (hmem d).1 (by rw [hqp]; simp [hd])
    have := mem_row hV hvA hdr
    obtain ⟨_, s, hs, e⟩ := h.on this.1 this.2.1 ho
    exact hG d hd s hs e
  have hf : (q ++ p).filter (offB (offL E m R x y)) = oth (R (dn m t)) :: (X.filter (offB (offL E m R x y)) ++ [R t]) := by
    rw [hqp, List.filter_cons, if_pos kl, List.filter_append, List.filter_cons, if_pos kr, hGf]
  have hrL : rowL A (offL E m R x y) v = p.filter (offB (offL E m R x y)) ++ q.filter (offB (offL E m R x y)) := by unfold rowL; rw [hrow, List.filter_append]
  have hne : rowL A (offL E m R x y) v ≠ [] := List.ne_nil_of_mem (mem_rowL.2 ⟨(hmem (R t)).1 (by rw [hqp]; simp), kr⟩)
  have hcy := rowL_cyc hV hvA hne
  rw [hrL] at hcy
  have hcy := hcy.rot
  rw [← List.filter_append, hf] at hcy
  refine ⟨X.filter (offB (offL E m R x y)), hcy, n4.filter _, fun d hd => ?_, fun d o hd htl ho hho hu hd' => ?_⟩
  · obtain ⟨hdX, ho⟩ := List.mem_filter.1 hd
    have hdr := (hmem d).1 (by rw [hqp]; simp [hdX])
    have hm := mem_row hV hvA hdr
    have htd : tailE E d = c t := by rw [hm.2.2, hcv]
    have := h.l1; have := h.l2; have := h.l3; have := h.l4
    rcases h.kept hm.1 hm.2.1 ho with ⟨s, hs, e | e⟩ | e | e | e | e
    · exfalso
      rw [e, h.tl s hs] at htd
      have := h.inj s t hs ht htd
      subst this
      exact n7 d hdX (R s) (Or.inl rfl) e
    · exfalso
      rw [e, h.hd s hs] at htd
      have hst := h.inj _ t (up_lt hs) ht htd
      have : s = dn m t := by rw [← hst, dn_up hs]
      subst this
      exact n1 (e ▸ hdX)
    · rw [e, h.xt] at htd
      exact Or.inl ⟨e, (h.inj _ _ (by omega) ht htd).symm⟩
    · rw [e, h.xh] at htd
      exact Or.inr (Or.inl ⟨e, (h.inj _ _ (by omega) ht htd).symm⟩)
    · rw [e, h.yt] at htd
      exact Or.inr (Or.inr (Or.inl ⟨e, (h.inj _ _ (by omega) ht htd).symm⟩))
    · rw [e, h.yh] at htd
      exact Or.inr (Or.inr (Or.inr ⟨e, (h.inj _ _ (by omega) ht htd).symm⟩))
  · obtain ⟨v', hv', hm', ht'⟩ := hd.row hV
    have : v' = v := by rw [htl, hcv] at ht'; omega
    subst this
    have hq := (hmem d).2 (mem_rowL.1 hm').1
    rw [hqp] at hq
    refine List.mem_filter.2 ⟨?_, hd.2⟩
    rcases List.mem_cons.1 hq with e | hq
    · exfalso
      rw [e, oth_oth, h.tl _ hdn] at hho
      exact hd' (h.inj _ _ hdn ho hho).symm
    · rcases List.mem_append.1 hq with hq | hq
      · exact hq
      · exfalso
        rcases List.mem_cons.1 hq with e | hq
        · rw [e, h.hd t ht] at hho
          exact hu (h.inj _ _ (up_lt ht) ho hho).symm
        · exact hG d hq o ho hho
/-- A vertex of the ring without a chord. -/
theorem Crs.plain (hV : vRot N E A) (h : Crs E A m c R x y p0 p1 p2 p3) {t : Nat} (ht : t < m) (h0 : t ≠ p0) (h1 : t ≠ p1) (h2 : t ≠ p2) (h3 : t ≠ p3) :
    sucL A (offL E m R x y) (oth (R (dn m t))) = R t ∧ sucL A (offL E m R x y) (R t) = oth (R (dn m t)) := by
  obtain ⟨X, hc, _, hX, _⟩ := h.at hV ht
  cases X with
  | nil => exact hc
  | cons d X =>
    exfalso
    rcases hX d (by simp) with e | e | e | e
    · exact h0 e.2
    · exact h2 e.2
    · exact h1 e.2
    · exact h3 e.2
/-- A vertex of the ring with a chord. -/
theorem Crs.chord (hV : vRot N E A) (h : Crs E A m c R x y p0 p1 p2 p3) {t o : Nat} (ht : t < m) (ho : o < m) {d : Int} (hd : DL E (offL E m R x y) d) (htl : tailE E d = c t) (hho : tailE E (oth d) = c o) (hu : o ≠ up m t) (hdn : o ≠ dn m t)
    (hX : ∀ d', (d' = x ∧ t = p0) ∨ (d' = oth x ∧ t = p2) ∨ (d' = y ∧ t = p1) ∨ (d' = oth y ∧ t = p3) → d' = d) :
    sucL A (offL E m R x y) (oth (R (dn m t))) = d ∧ sucL A (offL E m R x y) d = R t ∧ sucL A (offL E m R x y) (R t) = oth (R (dn m t)) := by
  obtain ⟨X, hc, hn, hX', hall⟩ := h.at hV ht
  have := single_of hn (hall d o hd htl ho hho hu hdn) (fun d' hd' => hX d' (hX' d' hd'))
  subst this
  exact hc
end
end Go.Proofs.YtdacnkjmimhcaaaDoor

/- Two chords inside a ring do not cross: the count. -/
namespace Go.Proofs.YtdacnkjmimhcaaaDoor

section
variable {N : Int} {E : List (Int × Int)} {A : List (List Int)} {m : Nat} {c R : Nat → Int} {x y : Int} {p0 p1 p2 p3 : Nat}
theorem Crs.c0 (hV : vRot N E A) (h : Crs E A m c R x y p0 p1 p2 p3) : sucL A (offL E m R x y) (oth (R (dn m p0))) = x ∧ sucL A (offL E m R x y) x = R p0 ∧ sucL A (offL E m R x y) (R p0) = oth (R (dn m p0)) := by
  have := h.l1; have := h.l2; have := h.l3; have := h.l4
  refine h.chord hV (t := p0) (o := p2) (by omega) (by omega) h.keep_x h.xt h.xh (by unfold up; split <;> omega) (by unfold dn; split <;> omega) fun d' hd => ?_
  rcases hd with e | e | e | e <;> first | exact e.1 | (exfalso; omega)
theorem Crs.c2 (hV : vRot N E A) (h : Crs E A m c R x y p0 p1 p2 p3) : sucL A (offL E m R x y) (oth (R (dn m p2))) = oth x ∧ sucL A (offL E m R x y) (oth x) = R p2 ∧ sucL A (offL E m R x y) (R p2) = oth (R (dn m p2)) := by
  have := h.l1; have := h.l2; have := h.l3; have := h.l4
  refine h.chord hV (t := p2) (o := p0) (by omega) (by omega) h.keep_x.oth h.xh (by rw [oth_oth]; exact h.xt) (by unfold up; split <;> omega) (by unfold dn; split <;> omega) fun d' hd => ?_
  rcases hd with e | e | e | e <;> first | exact e.1 | (exfalso; omega)
theorem Crs.c1 (hV : vRot N E A) (h : Crs E A m c R x y p0 p1 p2 p3) : sucL A (offL E m R x y) (oth (R (dn m p1))) = y ∧ sucL A (offL E m R x y) y = R p1 ∧ sucL A (offL E m R x y) (R p1) = oth (R (dn m p1)) := by
  have := h.l1; have := h.l2; have := h.l3; have := h.l4
  refine h.chord hV (t := p1) (o := p3) (by omega) (by omega) h.keep_y h.yt h.yh (by unfold up; split <;> omega) (by unfold dn; split <;> omega) fun d' hd => ?_
  rcases hd with e | e | e | e <;> first | exact e.1 | (exfalso; omega)
theorem Crs.c3 (hV : vRot N E A) (h : Crs E A m c R x y p0 p1 p2 p3) : sucL A (offL E m R x y) (oth (R (dn m p3))) = oth y ∧ sucL A (offL E m R x y) (oth y) = R p3 ∧ sucL A (offL E m R x y) (R p3) = oth (R (dn m p3)) := by
  have := h.l1; have := h.l2; have := h.l3; have := h.l4
  refine h.chord hV (t := p3) (o := p1) (by omega) (by omega) h.keep_y.oth h.yh (by rw [oth_oth]; exact h.yt) (by unfold up; split <;> omega) (by unfold dn; split <;> omega) fun d' hd => ?_
  rcases hd with e | e | e | e <;> first | exact e.1 | (exfalso; omega)
theorem Crs.right (hV : vRot N E A) (h : Crs E A m c R x y p0 p1 p2 p3) {t : Nat} (ht : t < m) : sucL A (offL E m R x y) (R t) = oth (R (dn m t)) := by
  by_cases h0 : t = p0
  · rw [h0]; exact (h.c0 hV).2.2
  by_cases h1 : t = p1
  · rw [h1]; exact (h.c1 hV).2.2
  by_cases h2 : t = p2
  · rw [h2]; exact (h.c2 hV).2.2
  by_cases h3 : t = p3
  · rw [h3]; exact (h.c3 hV).2.2
  exact (h.plain hV ht h0 h1 h2 h3).2

/-- From one dart of the inside one comes to all, from one of the outside too. -/
theorem Crs.reach (hV : vRot N E A) (h : Crs E A m c R x y p0 p1 p2 p3) (S : Int → Prop) (hS : ∀ d, DL E (offL E m R x y) d → S d → S (facL A (offL E m R x y) d)) (s0 : S (oth (R 0))) (s1 : S x) :
    ∀ d, DL E (offL E m R x y) d → S d := by
  have hl1 := h.l1; have hl2 := h.l2; have hl3 := h.l3; have hl4 := h.l4
  have outer : ∀ t, t < m → S (oth (R t)) := by
    have down : ∀ t, t < m → S (oth (R t)) → S (oth (R (dn m t))) := fun t ht k => by
      have := hS _ (h.keep_R ht).oth k
      unfold facL at this
      rwa [oth_oth, h.right hV ht] at this
    have hl : ∀ k, k < m → S (oth (R (m - 1 - k))) := by
      intro k
      induction k with
      | zero =>
        intro _
        have := down 0 (by omega) s0
        unfold dn at this
        rw [if_pos rfl] at this
        exact this
      | succ k ih =>
        intro hk
        have := down _ (by omega) (ih (by omega))
        unfold dn at this
        rw [if_neg (by omega), show m - 1 - k - 1 = m - 1 - (k + 1) by omega] at this
        exact this
    intro t ht
    have := hl (m - 1 - t) (by omega)
    rwa [show m - 1 - (m - 1 - t) = t by omega] at this
  -- one step along the ring
  have go : ∀ t, t < m → S (R t) → S (sucL A (offL E m R x y) (oth (R (dn m (up m t))))) := fun t ht k => by
    have := hS _ (h.keep_R ht) k
    unfold facL at this
    rwa [dn_up ht]
  have seg : ∀ a k, a + k < m → S (R a) → (∀ t, a < t → t ≤ a + k → t ≠ p0 ∧ t ≠ p1 ∧ t ≠ p2 ∧ t ≠ p3) → S (R (a + k)) := by
    intro a k
    induction k with
    | zero => intro _ hs _; exact hs
    | succ k ih =>
      intro hk hs hp
      have h1 := ih (by omega) hs (fun t h1 h2 => hp t h1 (by omega))
      have h2 := go _ (by omega) h1
      have hu : up m (a + k) = a + (k + 1) := by unfold up; rw [if_neg (by omega)]; omega
      rw [hu] at h2
      have := hp (a + (k + 1)) (by omega) (by omega)
      rwa [(h.plain hV hk this.1 this.2.1 this.2.2.1 this.2.2.2).1] at h2
  have fx : S x → S (R p2) := fun k => by
    have := hS _ h.keep_x k
    unfold facL at this
    rwa [(h.c2 hV).2.1] at this
  have fx' : S (oth x) → S (R p0) := fun k => by
    have := hS _ h.keep_x.oth k
    unfold facL at this
    rwa [oth_oth, (h.c0 hV).2.1] at this
  have fy : S y → S (R p3) := fun k => by
    have := hS _ h.keep_y k
    unfold facL at this
    rwa [(h.c3 hV).2.1] at this
  have fy' : S (oth y) → S (R p1) := fun k => by
    have := hS _ h.keep_y.oth k
    unfold facL at this
    rwa [oth_oth, (h.c1 hV).2.1] at this
  have upp : ∀ p, 0 < p → p < m → up m (p - 1) = p := fun p h0 h1 => by unfold up; rw [if_neg (by omega)]; omega
  have r2 := fx s1
  have s23 : ∀ t, p2 ≤ t → t < p3 → S (R t) := fun t h1 h2 => by
    have := seg p2 (t - p2) (by omega) r2 (fun t' _ _ => ⟨by omega, by omega, by omega, by omega⟩)
    rwa [show p2 + (t - p2) = t by omega] at this
  have sy' : S (oth y) := by
    have := go (p3 - 1) (by omega) (s23 _ (by omega) (by omega))
    rwa [upp p3 (by omega) hl4, (h.c3 hV).1] at this
  have r1 := fy' sy'
  have s12 : ∀ t, p1 ≤ t → t < p2 → S (R t) := fun t h1 h2 => by
    have := seg p1 (t - p1) (by omega) r1 (fun t' _ _ => ⟨by omega, by omega, by omega, by omega⟩)
    rwa [show p1 + (t - p1) = t by omega] at this
  have sx' : S (oth x) := by
    have := go (p2 - 1) (by omega) (s12 _ (by omega) (by omega))
    rwa [upp p2 (by omega) (by omega), (h.c2 hV).1] at this
  have r0 := fx' sx'
  have s01 : ∀ t, p0 ≤ t → t < p1 → S (R t) := fun t h1 h2 => by
    have := seg p0 (t - p0) (by omega) r0 (fun t' _ _ => ⟨by omega, by omega, by omega, by omega⟩)
    rwa [show p0 + (t - p0) = t by omega] at this
  have sy : S y := by
    have := go (p1 - 1) (by omega) (s01 _ (by omega) (by omega))
    rwa [upp p1 (by omega) (by omega), (h.c1 hV).1] at this
  have r3 := fy sy
  have s3m : ∀ t, p3 ≤ t → t < m → S (R t) := fun t h1 h2 => by
    have := seg p3 (t - p3) (by omega) r3 (fun t' _ _ => ⟨by omega, by omega, by omega, by omega⟩)
    rwa [show p3 + (t - p3) = t by omega] at this
  have s00 : ∀ t, t < p0 → S (R t) := fun t ht => by
    have h1 := go (m - 1) (by omega) (s3m _ (by omega) (by omega))
    have hu : up m (m - 1) = 0 := by unfold up; rw [if_pos (by omega)]
    rw [hu, (h.plain hV (t := 0) (by omega) (by omega) (by omega) (by omega) (by omega)).1] at h1
    have := seg 0 t (by omega) h1 (fun t' _ _ => ⟨by omega, by omega, by omega, by omega⟩)
    rwa [Nat.zero_add] at this
  intro d hd
  rcases h.kept hd.1.1 hd.1.2 hd.2 with ⟨t, ht, e | e⟩ | e | e | e | e <;> subst e
  · by_cases k0 : t < p0
    · exact s00 t k0
    by_cases k1 : t < p1
    · exact s01 t (by omega) k1
    by_cases k2 : t < p2
    · exact s12 t (by omega) k2
    by_cases k3 : t < p3
    · exact s23 t (by omega) k3
    exact s3m t (by omega) ht
  · exact outer t ht
  · exact s1
  · exact sx'
  · exact sy
  · exact sy'
end
end Go.Proofs.YtdacnkjmimhcaaaDoor

/- Two chords inside a ring do not cross in a planar rotation system. -/
namespace Go.Proofs.YtdacnkjmimhcaaaDoor

theorem least_of (c : Nat → Int) : ∀ m, 0 < m → ∃ μ, μ < m ∧ ∀ t, t < m → c μ ≤ c t
  | 0, h => absurd h (by omega)
  | m + 1, _ => by
    by_cases h : 0 < m
    · obtain ⟨μ, h1, h2⟩ := least_of c m h
      by_cases h3 : c μ ≤ c m
      · exact ⟨μ, by omega, fun t ht => by
          by_cases e : t = m
          · rw [e]; exact h3
          · exact h2 t (by omega)⟩
      · exact ⟨m, by omega, fun t ht => by
          by_cases e : t = m
          · rw [e]; exact Int.le_refl _
          · have := h2 t (by omega); omega⟩
    · exact ⟨0, by omega, fun t ht => by have : t = 0 := by omega
                                         rw [this]; exact Int.le_refl _⟩

section
variable {N : Int} {E : List (Int × Int)} {A : List (List Int)} {m : Nat} {c R : Nat → Int} {x y : Int} {p0 p1 p2 p3 : Nat}
theorem Crs.faces (hV : vRot N E A) (h : Crs E A m c R x y p0 p1 p2 p3) {M : List (List Int)} (hM : Dec (DL E (offL E m R x y)) (facL A (offL E m R x y)) M) : M.length ≤ 2 := by
  have := h.l1; have := h.l2; have := h.l3; have := h.l4
  exact dec_two hM (a := oth (R 0)) (b := x) (h.keep_R (by omega)).oth fun S hS d hd sa sb => h.reach hV S hS sa sb d hd
theorem Crs.lone (hV : vRot N E A) (h : Crs E A m c R x y p0 p1 p2 p3) : isoS A (offL E m R x y) + m ≤ A.length := by
  have hn : ((List.range m).map fun t => (c t).toNat).Nodup := by
    unfold List.Nodup
    rw [List.pairwise_map]
    refine List.Pairwise.imp_of_mem ?_ List.nodup_range
    intro a b ha hb hne e
    have ha := List.mem_range.1 ha
    have hb := List.mem_range.1 hb
    have h1 := h.inA a ha
    have h2 := h.inA b hb
    exact hne (h.inj a b ha hb (by omega))
  have := cntP_most (p := fun u => rowL A (offL E m R x y) u = []) (n := A.length) hn (fun v hv => by
    obtain ⟨t, ht, rfl⟩ := List.mem_map.1 hv
    have ht := List.mem_range.1 ht
    have hin := h.inA t ht
    refine ⟨by omega, ?_⟩
    obtain ⟨v, hv, hm, htl⟩ := (h.keep_R ht).row hV
    rw [h.tl t ht] at htl
    rw [show (c t).toNat = v by omega]
    exact List.ne_nil_of_mem hm)
  rw [List.length_map, List.length_range] at this
  exact this
theorem Crs.path (h : Crs E A m c R x y p0 p1 p2 p3) {u v : Int} (hc : Cs E (offL E m R x y) u v) : u = v ∨ (∃ s, s < m ∧ u = c s) ∧ ∃ s, s < m ∧ v = c s := by
  induction hc with
  | refl => exact Or.inl rfl
  | step i _ hi hL hn ih =>
    have ho := h.on (d := 2 * (i : Int)) (by omega) (by omega) (off_not hL (by omega))
    rw [oth_a, tail_a, tail_b] at ho
    right
    rcases hn with ⟨rfl, rfl⟩ | ⟨rfl, rfl⟩
    · rcases ih with rfl | ih
      · exact ho
      · exact ⟨ih.1, ho.2⟩
    · rcases ih with rfl | ih
      · exact ⟨ho.2, ho.1⟩
      · exact ⟨ih.1, ho.1⟩
theorem Crs.comps (h : Crs E A m c R x y p0 p1 p2 p3) : A.length + 1 ≤ cntS E (offL E m R x y) A.length + m := by
  have := h.l4
  obtain ⟨μ, hμ, hmin⟩ := least_of c m (by omega)
  have := cntP_least (p := isS E (offL E m R x y)) (n := A.length) (S := ((List.range m).erase μ).map fun t => (c t).toNat) (fun v hv hp => by
    obtain ⟨u, u0, u1, hu⟩ := not_leadS hp
    rcases h.path hu with e | ⟨⟨s, hs, es⟩, t, ht, et⟩
    · omega
    · refine List.mem_map.2 ⟨t, ?_, by omega⟩
      refine (List.mem_erase_of_ne (fun e => ?_)).2 (List.mem_range.2 ht)
      subst e
      have := hmin s hs
      omega)
  rw [List.length_map, List.length_erase_of_mem (List.mem_range.2 hμ), List.length_range] at this
  unfold cntS
  omega
theorem Crs.edges (h : Crs E A m c R x y p0 p1 p2 p3) : (offL E m R x y).length + (m + 2) ≤ E.length := by
  have hl1 := h.l1; have hl2 := h.l2; have hl3 := h.l3; have hl4 := h.l4
  have hx := h.xd; have hy := h.yd
  have tails : ∀ {d d' : Int}, d / 2 = d' / 2 → (tailE E d = tailE E d' ∧ tailE E (oth d) = tailE E (oth d')) ∨ (tailE E d = tailE E (oth d') ∧ tailE E (oth d) = tailE E d') := fun {d d'} e => by
    rcases half_cases e with e | e
    · rw [e]; exact Or.inl ⟨rfl, rfl⟩
    · rw [e, oth_oth]; exact Or.inr ⟨rfl, rfl⟩
  have xR : ∀ t, t < m → x / 2 ≠ R t / 2 := fun t ht e => by
    have hu : up m t < m := up_lt ht
    rcases tails e with ⟨e1, e2⟩ | ⟨e1, e2⟩ <;> rw [h.xt] at e1 <;> rw [h.xh] at e2
    · rw [h.tl t ht] at e1; rw [h.hd t ht] at e2
      have a := h.inj _ _ (by omega) ht e1
      have b := h.inj _ _ (by omega) hu e2
      unfold up at b; split at b <;> omega
    · rw [h.hd t ht] at e1; rw [h.tl t ht] at e2
      have a := h.inj _ _ (by omega) hu e1
      have b := h.inj _ _ (by omega) ht e2
      unfold up at a; split at a <;> omega
  have yR : ∀ t, t < m → y / 2 ≠ R t / 2 := fun t ht e => by
    have hu : up m t < m := up_lt ht
    rcases tails e with ⟨e1, e2⟩ | ⟨e1, e2⟩ <;> rw [h.yt] at e1 <;> rw [h.yh] at e2
    · rw [h.tl t ht] at e1; rw [h.hd t ht] at e2
      have a := h.inj _ _ (by omega) ht e1
      have b := h.inj _ _ (by omega) hu e2
      unfold up at b; split at b <;> omega
    · rw [h.hd t ht] at e1; rw [h.tl t ht] at e2
      have a := h.inj _ _ (by omega) hu e1
      have b := h.inj _ _ (by omega) ht e2
      unfold up at a; split at a <;> omega
  have xy : x / 2 ≠ y / 2 := fun e => by
    rcases tails e with ⟨e1, _⟩ | ⟨e1, _⟩ <;> rw [h.xt] at e1
    · rw [h.yt] at e1
      have := h.inj _ _ (by omega) (by omega) e1
      omega
    · rw [h.yh] at e1
      have := h.inj _ _ (by omega) (by omega) e1
      omega
  have RR : ∀ s t, s < m → t < m → R s / 2 = R t / 2 → s = t := fun s t hs ht e => by
    rcases tails e with ⟨e1, _⟩ | ⟨e1, e2⟩ <;> rw [h.tl s hs] at e1
    · rw [h.tl t ht] at e1
      exact h.inj _ _ hs ht e1
    · rw [h.hd t ht] at e1
      rw [h.hd s hs, h.tl t ht] at e2
      have a := h.inj _ _ hs (up_lt ht) e1
      have b := h.inj _ _ (up_lt hs) ht e2
      exfalso
      unfold up at a b
      split at a <;> split at b <;> omega
  have hk : (keepL m R x y).Nodup := by
    unfold keepL
    rw [List.nodup_cons, List.nodup_cons]
    refine ⟨fun hm => ?_, fun hm => ?_, ?_⟩
    · rcases List.mem_cons.1 hm with e | hm
      · exact xy (by omega)
      · obtain ⟨t, ht, e⟩ := List.mem_map.1 hm
        have ht := List.mem_range.1 ht
        have := h.rd t ht
        have e' : (R t / 2).toNat = (x / 2).toNat := e
        exact xR t ht (by omega)
    · obtain ⟨t, ht, e⟩ := List.mem_map.1 hm
      have ht := List.mem_range.1 ht
      have := h.rd t ht
      have e' : (R t / 2).toNat = (y / 2).toNat := e
      exact yR t ht (by omega)
    · unfold List.Nodup
      rw [List.pairwise_map]
      refine List.Pairwise.imp_of_mem ?_ List.nodup_range
      intro a b ha hb hne e
      have ha := List.mem_range.1 ha
      have hb := List.mem_range.1 hb
      have h1 := h.rd a ha
      have h2 := h.rd b hb
      exact hne (RR a b ha hb (by omega))
  have hlen : (keepL m R x y).length = m + 2 := by simp [keepL]
  have hall : (offL E m R x y ++ keepL m R x y).Nodup := by
    rw [List.nodup_append]
    refine ⟨List.nodup_range.filter _, hk, fun a ha b hb e => ?_⟩
    subst e
    exact of_decide_eq_true (List.mem_filter.1 ha).2 hb
  have := List.Nodup.length_le_of_subset hall (l₂ := List.range E.length) (fun e he => by
    rcases List.mem_append.1 he with he | he
    · exact (List.mem_filter.1 he).1
    · refine List.mem_range.2 ?_
      unfold keepL at he
      rcases List.mem_cons.1 he with e1 | he
      · omega
      · rcases List.mem_cons.1 he with e1 | he
        · omega
        · obtain ⟨t, ht, e1⟩ := List.mem_map.1 he
          have := h.rd t (List.mem_range.1 ht)
          have e' : (R t / 2).toNat = e := e1
          omega)
  rw [List.length_append, hlen, List.length_range] at this
  exact this
/-- They do not cross. -/
theorem Crs.false (hV : vRot N E A) (hg : genusF N E A = 0) (h : Crs E A m c R x y p0 p1 p2 p3) : False := by
  have hal := hV.al
  obtain ⟨M, hM, hle⟩ := sub_all hV hg (L := offL E m R x y) (List.nodup_range.filter _) (fun e he => List.mem_range.1 (List.mem_filter.1 he).1)
  have h1 := h.faces hV hM
  have h2 := h.lone hV
  have h3 := h.comps
  have h4 := h.edges
  omega
end
end Go.Proofs.YtdacnkjmimhcaaaDoor

/- Fans of a contour: what taking a vertex away does to them. -/
namespace Go.Proofs.YtdacnkjmimhcaaaDoor

section
variable {N : Int} {E : List (Int × Int)} {A : List (List Int)}
def isD (E : List (Int × Int)) (d : Int) : Prop := 0 ≤ d ∧ d < 2 * (E.length : Int)
theorem isD.oth {d : Int} (h : isD E d) : isD E (oth d) := oth_in h.1 h.2
theorem isD.suc (hV : vRot N E A) {d : Int} (h : isD E d) : isD E (sucF A d) := sucF_in hV h.1 h.2
theorem tri_at (hT : trgB N E A = true) {d : Int} (hd : isD E d) : nxF A (nxF A (nxF A d)) = d := by
  have hV := trg_valid hT
  have hD := fac_dec hV
  have hm := (hD.mem d).2 hd
  obtain ⟨l, hl, h0⟩ := List.mem_flatten.1 hm
  have hc := hD.cyc l hl
  have hlen : l.length = 3 := by
    unfold trgB at hT
    rw [Bool.and_eq_true, List.all_eq_true] at hT
    have := hT.2 l (by unfold facesO; rw [if_pos (vRotB_iff.2 hV)]; exact hl)
    exact of_decide_eq_true this
  obtain ⟨i, hi, e⟩ := mem_ge.1 h0
  have a0 := hc.idx hi
  have a1 := hc.idx (k := (i + 1) % l.length) (Nat.mod_lt _ (by omega))
  have a2 := hc.idx (k := ((i + 1) % l.length + 1) % l.length) (Nat.mod_lt _ (by omega))
  rw [hlen] at a0 a1 a2
  rw [e] at a0
  rw [a0, a1, a2]
  rw [← e]
  congr 1
  omega
/-- The dart that closes the triangle of two neighbouring darts. -/
def thd (A : List (List Int)) (d : Int) : Int := oth (sucF A (oth (sucF A d)))
theorem thd_ok (hT : trgB N E A = true) {d : Int} (hd : isD E d) : isD E (thd A d) ∧ sucF A (thd A d) = oth d ∧ sucF A (oth (sucF A d)) = oth (thd A d) ∧ tailE E (thd A d) = tailE E (oth d) ∧ tailE E (oth (thd A d)) = tailE E (oth (sucF A d)) := by
  have hV := trg_valid hT
  have h1 := hd.suc hV
  have h2 := h1.oth.suc hV
  have h3 : sucF A (thd A d) = oth d := by
    have := tri_at hT hd.oth
    unfold nxF at this
    rw [oth_oth] at this
    exact this
  have h4 : oth (thd A d) = sucF A (oth (sucF A d)) := by unfold thd; rw [oth_oth]
  refine ⟨h2.oth, h3, h4.symm, ?_, ?_⟩
  · have := suc_tail hV (d := thd A d) h2.oth.1 h2.oth.2
    rw [h3] at this
    exact this.symm
  · rw [h4, suc_tail hV h1.oth.1 h1.oth.2]
/-- In a simple system a dart is known by its ends. -/
theorem dart_uniq (hT : trgB N E A = true) {d d' : Int} (hd : isD E d) (hd' : isD E d') (ht : tailE E d = tailE E d') (hh : tailE E (oth d) = tailE E (oth d')) : d = d' := by
  have hV := trg_valid hT
  obtain ⟨v, hv, hm, e⟩ := row_of hV hd.1 hd.2
  obtain ⟨v', hv', hm', e'⟩ := row_of hV hd'.1 hd'.2
  have : v = v' := by omega
  subst this
  have hn := near_nodup hV (trg_simple hT) hv
  unfold nearL List.Nodup at hn
  rw [List.pairwise_map] at hn
  obtain ⟨i, hi, ei⟩ := List.getElem_of_mem hm
  obtain ⟨j, hj, ej⟩ := List.getElem_of_mem hm'
  apply Classical.byContradiction
  intro hne
  rw [List.pairwise_iff_getElem] at hn
  rcases Nat.lt_trichotomy i j with hl | hl | hl
  · exact hn i j hi hj hl (by rw [ei, ej]; exact hh)
  · subst hl; exact hne (ei.symm.trans ej)
  · exact hn j i hj hi hl (by rw [ei, ej]; exact hh.symm)

/-- Between the dart back and the dart on lie darts to what is left, behind them darts to what is gone. -/
def Fan (E : List (Int × Int)) (A : List (List Int)) (go : Int → Prop) (a b : Int) : Prop :=
  isD E a ∧ isD E b ∧ tailE E (oth a) = tailE E b ∧ ∃ X G p q, rowOf A (tailE E b).toNat = p ++ q ∧ q ++ p = oth a :: (X ++ b :: G) ∧ (∀ d ∈ X, ¬ go (tailE E (oth d))) ∧ ∀ d ∈ G, go (tailE E (oth d))

theorem suc_inj (hV : vRot N E A) {x y : Int} (hx : isD E x) (hy : isD E y) (h : sucF A x = sucF A y) : x = y := by
  have := fac_inj hV (oth x) (oth y) hx.oth.1 (by have := hx.oth.2; push_cast; exact this) hy.oth.1 (by have := hy.oth.2; push_cast; exact this) (by unfold nxF; rw [oth_oth, oth_oth]; exact h)
  rw [← oth_oth x, this, oth_oth]
/-- A row read from another place. -/
theorem rot_row (hV : vRot N E A) {b : Int} (hb : isD E b) {p q l : List Int} (hr : rowOf A (tailE E b).toNat = p ++ q) (hl : q ++ p = l) (h0 : l ≠ []) : Cyc (sucF A) l ∧ l.Nodup ∧ ∀ d, d ∈ l ↔ isD E d ∧ tailE E d = tailE E b := by
  obtain ⟨v, hv, hm, ht⟩ := row_of hV hb.1 hb.2
  have e : (tailE E b).toNat = v := by omega
  rw [e] at hr
  have hne : rowOf A v ≠ [] := List.ne_nil_of_mem hm
  have h1 := row_cyc hV hv hne
  have h2 := row_nodup hV hv
  rw [hr] at h1 h2
  have h3 := h1.rot
  rw [hl] at h3
  have h4 := (List.perm_append_comm.nodup_iff).1 h2
  rw [hl] at h4
  refine ⟨h3, h4, fun d => ?_⟩
  rw [← hl, List.mem_append, or_comm, ← List.mem_append, ← hr]
  constructor
  · intro hd
    have := mem_row hV hv hd
    exact ⟨⟨this.1, this.2.1⟩, by rw [this.2.2, ht]⟩
  · rintro ⟨hd, htd⟩
    obtain ⟨v', hv', hm', ht'⟩ := row_of hV hd.1 hd.2
    have : v' = v := by omega
    subst this
    exact hm'
theorem Ch.snd {f : Int → Int} {x z a : Int} {t u : List Int} (h : Ch f x (t ++ a :: u) z) : ∃ w W, x :: t = W ++ [w] ∧ f w = a := by
  obtain ⟨h1, _⟩ := Ch.app.1 h
  obtain ⟨w, hw, hf⟩ : ∃ w, (∃ W, x :: t = W ++ [w]) ∧ f w = a := by
    clear h
    induction t generalizing x with
    | nil => exact ⟨x, ⟨[], rfl⟩, h1⟩
    | cons y t ih =>
      obtain ⟨_, h2⟩ := h1
      obtain ⟨w, ⟨W, hW⟩, hf⟩ := ih h2
      exact ⟨w, ⟨x :: W, by rw [hW]; rfl⟩, hf⟩
  obtain ⟨W, hW⟩ := hw
  exact ⟨w, W, hW, hf⟩
/-- The vertex before the one that is taken. -/
theorem fan_left (hT : trgB N E A = true) {go go' : Int → Prop} {e a y : Int} (h : Fan E A go e a) (hy : isD E y) (hs : sucF A y = a) (hne : y ≠ oth e) (h1 : go' (tailE E (oth a))) (h2 : ∀ x, go x → go' x) (h3 : ∀ x, go' x → go x ∨ x = tailE E (oth a)) : Fan E A go' e y := by
  have hV := trg_valid hT
  obtain ⟨he, ha, hea, X, G, p, q, hr, hl, hX, hG⟩ := h
  obtain ⟨hc, hn, hm⟩ := rot_row hV ha hr hl (by simp)
  have hty : tailE E y = tailE E a := by rw [← suc_tail hV hy.1 hy.2, hs]
  have hc' : Ch (sucF A) (oth e) (X ++ a :: G) (oth e) := hc
  obtain ⟨w, W, hW, hw⟩ := Ch.snd hc'
  have hwm : w ∈ oth e :: (X ++ a :: G) := by
    have : w ∈ oth e :: X := by rw [hW]; simp
    rcases List.mem_cons.1 this with k | k
    · exact List.mem_cons.2 (Or.inl k)
    · exact List.mem_cons_of_mem _ (List.mem_append_left _ k)
  have hwy : w = y := suc_inj hV ((hm w).1 hwm).1 hy (by rw [hw, hs])
  subst hwy
  cases W with
  | nil =>
    simp at hW
    exact absurd hW.1.symm hne
  | cons z W =>
    rw [List.cons_append] at hW
    obtain ⟨rfl, rfl⟩ := List.cons.inj hW
    refine ⟨he, hy, hea.trans hty.symm, W, a :: G, p, q, by rw [hty]; exact hr, by rw [hl]; simp, fun d hd hg => ?_, fun d hd => ?_⟩
    · rcases h3 _ hg with k | k
      · exact hX d (List.mem_append_left _ hd) k
      · have hdm := (hm d).1 (by simp [hd])
        have := dart_uniq hT hdm.1 ha hdm.2 k
        subst this
        rw [List.nodup_cons, List.nodup_append] at hn
        exact hn.2.2.2 d (List.mem_append_left _ hd) d (by simp) rfl
    · rcases List.mem_cons.1 hd with rfl | hd
      · exact h1
      · exact h2 _ (hG d hd)
/-- The vertex behind the one that is taken. -/
theorem fan_right (hT : trgB N E A = true) {go go' : Int → Prop} {b e y : Int} (h : Fan E A go b e) (hy : isD E y) (hs : sucF A (oth b) = oth y) (hne : oth y ≠ e) (hyt : tailE E (oth y) = tailE E e) (h1 : go' (tailE E b)) (h2 : ∀ x, go x → go' x) (h3 : ∀ x, go' x → go x ∨ x = tailE E b) : Fan E A go' y e := by
  have hV := trg_valid hT
  obtain ⟨hb, he, hbe, X, G, p, q, hr, hl, hX, hG⟩ := h
  obtain ⟨hc, hn, hm⟩ := rot_row hV he hr hl (by simp)
  have hob := (hm (oth b)).1 (by simp)
  cases X with
  | nil =>
    exfalso
    have hc' : Ch (sucF A) (oth b) ([] ++ e :: G) (oth b) := hc
    have := (Ch.app.1 hc').1
    exact hne (hs.symm.trans this)
  | cons z X =>
    have hc' : sucF A (oth b) = z ∧ Ch (sucF A) z (X ++ e :: G) (oth b) := hc
    have hz : z = oth y := hc'.1.symm.trans hs
    subst hz
    have hX' : ∀ d ∈ X, ¬ go' (tailE E (oth d)) := fun d hd hg => by
      rcases h3 _ hg with k | k
      · exact hX d (List.mem_cons_of_mem _ hd) k
      · have hdm := (hm d).1 (by simp [hd])
        have : d = oth b := dart_uniq hT hdm.1 hob.1 (hdm.2.trans hob.2.symm) (by rw [oth_oth]; exact k)
        subst this
        rw [List.nodup_cons] at hn
        exact hn.1 (by simp [hd])
    have hG' : ∀ d ∈ G ++ [oth b], go' (tailE E (oth d)) := fun d hd => by
      rcases List.mem_append.1 hd with hd | hd
      · exact h2 _ (hG d hd)
      · rw [List.mem_singleton.1 hd, oth_oth]; exact h1
    refine ⟨hy, he, hyt, X, G ++ [oth b], ?_⟩
    cases q with
    | nil =>
      rw [List.nil_append] at hl
      rw [List.append_nil] at hr
      exact ⟨[oth b], oth y :: (X ++ e :: G), by rw [hr, hl]; simp, by simp, hX', hG'⟩
    | cons c q =>
      rw [List.cons_append] at hl
      obtain ⟨hcb, hl2⟩ := List.cons.inj hl
      subst hcb
      exact ⟨p ++ [oth b], q, by rw [hr]; simp, by rw [← List.append_assoc, hl2]; simp, hX', hG'⟩
/-- A vertex that comes to the contour. -/
theorem fan_mid (hT : trgB N E A = true) {go' : Int → Prop} {d y z : Int} (hd : isD E d) (hy : isD E y) (hz : isD E z) (hs : sucF A y = oth d) (hs2 : sucF A (oth d) = oth z) (hne : oth z ≠ y)
    (h1 : go' (tailE E d)) (hin : ∀ f, isD E f → tailE E f = tailE E (oth d) → f ≠ oth d → ¬ go' (tailE E (oth f))) : Fan E A go' z y := by
  have hV := trg_valid hT
  have hty : tailE E y = tailE E (oth d) := by rw [← suc_tail hV hy.1 hy.2, hs]
  have htz : tailE E (oth z) = tailE E (oth d) := by rw [← hs2, suc_tail hV hd.oth.1 hd.oth.2]
  obtain ⟨v, hv, hm, ht⟩ := row_of hV hd.oth.1 hd.oth.2
  obtain ⟨p, q, hpq⟩ := List.append_of_mem hm
  have e : (tailE E (oth d)).toNat = v := by omega
  obtain ⟨hc, hn, hmm⟩ := rot_row hV hd.oth (p := p) (q := oth d :: q) (by rw [e]; exact hpq) rfl (by simp)
  rw [List.cons_append] at hc hn hmm
  cases hqp : q ++ p with
  | nil =>
    exfalso
    rw [hqp] at hc
    have hc' : sucF A (oth d) = oth d := hc
    rw [hs2] at hc'
    have : y = oth d := suc_inj hV hy hd.oth (by rw [hs, hs2, hc'])
    exact hne (hc'.trans this.symm)
  | cons w t =>
    rw [hqp] at hc hn hmm
    have hc' : sucF A (oth d) = w ∧ Ch (sucF A) w t (oth d) := hc
    have hw : w = oth z := hc'.1.symm.trans hs2
    subst hw
    obtain ⟨u, U, hU, hu⟩ : ∃ u U, oth z :: t = U ++ [u] ∧ sucF A u = oth d := by
      have h3 : Ch (sucF A) (oth z) (t ++ oth d :: []) (oth z) := Ch.app.2 ⟨hc'.2, hc'.1⟩
      obtain ⟨u, U, a, b⟩ := Ch.snd h3
      exact ⟨u, U, a, b⟩
    have hum : u ∈ oth d :: oth z :: t := List.mem_cons_of_mem _ (by rw [hU]; simp)
    have huy : u = y := suc_inj hV ((hmm u).1 hum).1 hy (by rw [hu, hs])
    subst huy
    cases U with
    | nil =>
      simp at hU
      exact absurd hU.1 hne
    | cons c U =>
      rw [List.cons_append] at hU
      obtain ⟨rfl, rfl⟩ := List.cons.inj hU
      refine ⟨hz, hy, htz.trans hty.symm, U, [oth d], p ++ [oth d], q, by rw [hty, e, hpq]; simp, by rw [← List.append_assoc, hqp]; simp, fun f hf => ?_, fun f hf => ?_⟩
      · have hfm := (hmm f).1 (by simp [hf])
        refine hin f hfm.1 hfm.2 fun ef => ?_
        subst ef
        rw [List.nodup_cons] at hn
        exact hn.1 (by simp [hf])
      · rw [List.mem_singleton.1 hf, oth_oth]; exact h1
end
end Go.Proofs.YtdacnkjmimhcaaaDoor

/- The peeling's invariant, plain. -/
namespace Go.Proofs.YtdacnkjmimhcaaaDoor

/-- A chain of fans. -/
def Fans (P : Int → Int → Prop) : Int → List Int → Prop
  | _, [] => True
  | a, b :: l => P a b ∧ Fans P b l
theorem Fans.app {P : Int → Int → Prop} : ∀ {l1 : List Int} {a b : Int} {l2 : List Int}, Fans P a (l1 ++ b :: l2) ↔ Fans P a (l1 ++ [b]) ∧ Fans P b l2
  | [], a, b, l2 => by
    show (P a b ∧ Fans P b l2) ↔ ((P a b ∧ True) ∧ Fans P b l2)
    simp
  | c :: l1, a, b, l2 => by
    show (P a c ∧ Fans P c (l1 ++ b :: l2)) ↔ ((P a c ∧ Fans P c (l1 ++ [b])) ∧ Fans P b l2)
    rw [Fans.app (l1 := l1), and_assoc]
theorem Fans.mono {P Q : Int → Int → Prop} : ∀ {l : List Int} {a : Int}, (∀ x y, y ∈ l → P x y → Q x y) → Fans P a l → Fans Q a l
  | [], _, _, _ => trivial
  | b :: l, a, h, ⟨h1, h2⟩ => ⟨h a b (by simp) h1, Fans.mono (fun x y hy => h x y (List.mem_cons_of_mem _ hy)) h2⟩
theorem Fans.idx {P : Int → Int → Prop} : ∀ {l : List Int} {a : Int}, Fans P a l → ∀ t, t < l.length → P (if t = 0 then a else ge l (t - 1)) (ge l t)
  | [], _, _, t, ht => by simp at ht
  | b :: l, a, ⟨h1, h2⟩, 0, _ => by rw [if_pos rfl, ge_cons_zero]; exact h1
  | b :: l, a, ⟨h1, h2⟩, t + 1, ht => by
    have := Fans.idx h2 t (by simpa using ht)
    rw [if_neg (by omega), ge_cons_succ, Nat.add_sub_cancel]
    by_cases e : t = 0
    · subst e
      rw [if_pos rfl] at this
      rw [ge_cons_zero]
      exact this
    · rw [if_neg e] at this
      obtain ⟨s, rfl⟩ : ∃ s, t = s + 1 := ⟨t - 1, by omega⟩
      rw [ge_cons_succ]
      exact this

section
variable {N : Int} {E : List (Int × Int)} {A : List (List Int)}
/-- A closed chain of fans is a ring. -/
theorem ring_of {go : Int → Prop} {D : List Int} (hV : vRot N E A) (hF : Fans (Fan E A go) (ge D (D.length - 1)) D) (hn : (D.map (tailE E)).Nodup) (hg : ∀ d ∈ D, ¬ go (tailE E d)) : Ring E A D.length (fun t => tailE E (ge D t)) (fun t => ge D t) := by
  have hf : ∀ t, t < D.length → Fan E A go (ge D (dn D.length t)) (ge D t) := fun t ht => by
    have := hF.idx t ht
    unfold dn
    by_cases e : t = 0
    · rw [if_pos e] at this ⊢; exact this
    · rw [if_neg e] at this ⊢; exact this
  refine ⟨fun s t hs ht e => ?_, fun t ht => ?_, fun t ht => (hf t ht).2.1, fun _ _ => rfl, fun t ht => ?_, fun t ht => ?_⟩
  · have e' : tailE E (ge D s) = tailE E (ge D t) := e
    unfold List.Nodup at hn
    rw [List.pairwise_map, List.pairwise_iff_getElem] at hn
    rw [ge_eq D hs, ge_eq D ht] at e'
    rcases Nat.lt_trichotomy s t with hl | hl | hl
    · exact absurd e' (hn s t hs ht hl)
    · exact hl
    · exact absurd e'.symm (hn t s ht hs hl)
  · have h1 := (hf t ht).2.1
    have h2 := tail_in hV h1.1 h1.2
    have := hV.al
    refine ⟨h2.1, ?_⟩
    show tailE E (ge D t) < (A.length : Int)
    omega
  · have h1 := hf (up D.length t) (up_lt ht)
    rw [dn_up ht] at h1
    exact h1.2.2.1
  · obtain ⟨_, _, _, X, G, p, q, h1, h2, _, h4⟩ := hf t ht
    exact ⟨X, G, p, q, h1, h2, fun d hd s hs e => hg (ge D s) (ge_mem hs) (e ▸ h4 d hd)⟩

/-- A dart between two vertices of a ring. -/
def Cho (E : List (Int × Int)) (c : Nat → Int) (s t : Nat) : Prop := ∃ d, isD E d ∧ tailE E d = c s ∧ tailE E (oth d) = c t
theorem Cho.symm {c : Nat → Int} {s t : Nat} (h : Cho E c s t) : Cho E c t s := by
  obtain ⟨d, h1, h2, h3⟩ := h
  exact ⟨oth d, h1.oth, h3, by rw [oth_oth]; exact h2⟩
theorem cho_ne (hV : vRot N E A) {c : Nat → Int} {s t : Nat} (h : Cho E c s t) : s ≠ t := by
  rintro rfl
  obtain ⟨d, h1, h2, h3⟩ := h
  have he := ends_ne hV (e := (d / 2).toNat) (by have := h1.1; have := h1.2; omega)
  rcases (by have := h1.1; omega : d = 2 * ((d / 2).toNat : Int) ∨ d = 2 * ((d / 2).toNat : Int) + 1) with e | e
  · rw [e] at h2 h3; rw [oth_a] at h3; exact he (h2.trans h3.symm)
  · rw [e] at h2 h3; rw [oth_b] at h3; exact he (h3.trans h2.symm)
theorem no_chord (hV : vRot N E A) (hg : genusF N E A = 0) {m : Nat} {c R : Nat → Int} (hR : Ring E A m c R) (hall : ∀ t, 0 < t → t + 1 < m → ∃ s, s < m ∧ s ≠ t + 1 ∧ s + 1 ≠ t ∧ Cho E c t s) :
    ∀ n i j, j - i ≤ n → i + 2 ≤ j → j < m → ¬ (i = 0 ∧ j + 1 = m) → ¬ Cho E c i j := by
  intro n
  induction n with
  | zero => intro i j h1 h2; omega
  | succ n ih =>
    intro i j h1 h2 h3 h4 hc
    obtain ⟨s, hs, s1, s2, hcs⟩ := hall (i + 1) (by omega) (by omega)
    have hne := cho_ne hV hcs
    obtain ⟨x, x1, x2, x3⟩ := hc
    by_cases hsj : j < s
    · obtain ⟨y, y1, y2, y3⟩ := hcs
      exact Crs.false hV hg (x := x) (y := y) (p0 := i) (p1 := i + 1) (p2 := j) (p3 := s) ⟨hR, by omega, by omega, hsj, hs, x1, y1, x2, x3, y2, y3⟩
    · by_cases hsi : s < i
      · obtain ⟨y, y1, y2, y3⟩ := hcs.symm
        exact Crs.false hV hg (x := y) (y := x) (p0 := s) (p1 := i) (p2 := i + 1) (p3 := j) ⟨hR, hsi, by omega, by omega, h3, y1, x1, y2, y3, x2, x3⟩
      · exact ih (i + 1) s (by omega) (by omega) hs (by omega) hcs
/-- Some vertex of a ring, other than two neighbours, has no chord. -/
theorem free_ex (hV : vRot N E A) (hg : genusF N E A = 0) {m : Nat} {c R : Nat → Int} (hR : Ring E A m c R) (hm : 3 ≤ m) : ∃ t, 0 < t ∧ t + 1 < m ∧ ∀ s, s < m → s ≠ t + 1 → s + 1 ≠ t → ¬ Cho E c t s := by
  apply Classical.byContradiction
  intro hn
  have hall : ∀ t, 0 < t → t + 1 < m → ∃ s, s < m ∧ s ≠ t + 1 ∧ s + 1 ≠ t ∧ Cho E c t s := fun t h0 h1 => by
    apply Classical.byContradiction
    intro hk
    exact hn ⟨t, h0, h1, fun s hs a b hc => hk ⟨s, hs, a, b, hc⟩⟩
  obtain ⟨s, hs, s1, s2, hc⟩ := hall 1 (by omega) (by omega)
  have hne := cho_ne hV hc
  exact no_chord hV hg hR hall _ 1 s (Nat.le_refl _) (by omega) hs (by omega) hc
end
end Go.Proofs.YtdacnkjmimhcaaaDoor

/- One step of the peeling, plain: what taking a free vertex makes of the contour. -/
namespace Go.Proofs.YtdacnkjmimhcaaaDoor

/-- The neighbours that are left, read from the left one on. -/
theorem turn_ok {l P Q Z : List Int} {a b : Int} (hl : l = P ++ Q) (hQ : Q ++ P = a :: (Z ++ [b])) (hn : l.Nodup) : turnL l a b = a :: (Z ++ [b]) := by
  have key : l.drop (idx a l).toNat ++ l.take (idx a l).toNat = a :: (Z ++ [b]) := by
    cases Q with
    | nil =>
      rw [List.nil_append] at hQ
      rw [List.append_nil] at hl
      subst hl
      subst hQ
      have h0 : idx a (a :: (Z ++ [b])) = (0 : Nat) := by
        have := idx_ge hn (i := 0) (by simp)
        rwa [ge_cons_zero] at this
      rw [h0]
      simp
    | cons c Q =>
      have hQ' : c :: (Q ++ P) = a :: (Z ++ [b]) := hQ
      obtain ⟨rfl, _⟩ := List.cons.inj hQ'
      have h0 : idx c l = (P.length : Nat) := by
        have := idx_ge hn (i := P.length) (by rw [hl]; simp)
        have e : ge l P.length = c := by rw [hl]; unfold ge; simp
        rwa [e] at this
      rw [h0, Int.toNat_natCast, hl, List.drop_left, List.take_left]
      exact hQ
  unfold turnL
  simp only [key]
  have hz : ge (a :: (Z ++ [b])) ((a :: (Z ++ [b])).length - 1) = b := by
    rw [← List.cons_append]
    unfold ge
    simp
  rw [if_pos hz]

section
variable {N : Int} {E : List (Int × Int)} {A : List (List Int)}
/-- A vertex that does not see the one that is taken keeps its fan. -/
theorem fan_keep (hV : vRot N E A) {go go' : Int → Prop} {e f v : Int} (h : Fan E A go e f) (h2 : ∀ x, go x → go' x) (h3 : ∀ x, go' x → go x ∨ x = v) (hn : ∀ d, isD E d → tailE E d = tailE E f → tailE E (oth d) ≠ v) : Fan E A go' e f := by
  obtain ⟨he, hf, hef, X, G, p, q, hr, hl, hX, hG⟩ := h
  obtain ⟨_, _, hm⟩ := rot_row hV hf hr hl (by simp)
  refine ⟨he, hf, hef, X, G, p, q, hr, hl, fun d hd hg => ?_, fun d hd => h2 _ (hG d hd)⟩
  rcases h3 _ hg with k | k
  · exact hX d hd k
  · have hdm := (hm d).1 (by simp [hd])
    exact hn d hdm.1 hdm.2 k
/-- The vertices that come to the contour, in a chain. -/
theorem fans_mid (hT : trgB N E A = true) {go' : Int → Prop} {v : Int} (h1 : go' v) : ∀ {t : List Int} {x z : Int}, Ch (sucF A) x t z → (x :: (t ++ [z])).Nodup → (∀ d ∈ x :: (t ++ [z]), isD E d ∧ tailE E d = v) →
    (∀ d ∈ t, ∀ f, isD E f → tailE E f = tailE E (oth d) → f ≠ oth d → ¬ go' (tailE E (oth f))) → Fans (Fan E A go') (thd A x) (t.map (thd A))
  | [], _, _, _, _, _, _ => trivial
  | d :: t, x, z, hc, hn, hD, hin => by
    obtain ⟨c1, c2⟩ : sucF A x = d ∧ Ch (sucF A) d t z := hc
    have hx := hD x (by simp)
    have hd := hD d (by simp)
    obtain ⟨x1, x2, x3, x4, x5⟩ := thd_ok hT hx.1
    obtain ⟨d1, d2, d3, d4, d5⟩ := thd_ok hT hd.1
    rw [c1] at x3
    have hsd : sucF A d ∈ t ++ [z] := by
      cases t with
      | nil => have : sucF A d = z := c2
               rw [this]; simp
      | cons w t => have : sucF A d = w := c2.1
                    rw [this]; simp
    refine ⟨fan_mid hT hd.1 d1 x1 d2 x3 (fun e => ?_) (by rw [hd.2]; exact h1) (fun f => hin d (by simp) f), fans_mid hT h1 c2 ?_ (fun f hf => hD f (List.mem_cons_of_mem _ hf)) (fun f hf => hin f (List.mem_cons_of_mem _ hf))⟩
    · have hss := hD (sucF A d) (by simp at hsd ⊢; rcases hsd with h | h <;> simp [h])
      have : x = sucF A d := dart_uniq hT hx.1 hss.1 (hx.2.trans hss.2.symm) (by rw [← x4, ← d5, ← e, oth_oth])
      rw [List.nodup_cons] at hn
      rw [← this] at hsd
      exact hn.1 (by rw [List.cons_append]; exact List.mem_cons_of_mem _ hsd)
    · rw [List.nodup_cons] at hn
      exact hn.2
/-- The last fan of a chain. -/
theorem Fans.snoc {P : Int → Int → Prop} : ∀ {L W : List Int} {o e a : Int}, o :: L = W ++ [e] → (Fans P o (L ++ [a]) ↔ Fans P o L ∧ P e a)
  | [], W, o, e, a, h => by
    have : W = [] ∧ e = o := by
      cases W with
      | nil => simp at h; exact ⟨rfl, h.symm⟩
      | cons c W => simp at h
    rw [this.2]
    show (P o a ∧ True) ↔ (True ∧ P o a)
    simp
  | b :: L, W, o, e, a, h => by
    cases W with
    | nil => simp at h
    | cons c W =>
      rw [List.cons_append] at h
      obtain ⟨_, h⟩ := List.cons.inj h
      show (P o b ∧ Fans P b (L ++ [a])) ↔ ((P o b ∧ Fans P b L) ∧ P e a)
      rw [Fans.snoc h, and_assoc]
theorem snoc_ex (o : Int) (L : List Int) : ∃ W e, o :: L = W ++ [e] := by
  have := List.dropLast_concat_getLast (l := o :: L) (by simp)
  exact ⟨_, _, this.symm⟩
theorem Fans.last {P : Int → Int → Prop} {o : Int} {L W : List Int} {e a : Int} (h : o :: L = W ++ [e]) (hF : Fans P o (L ++ [a])) : P e a := ((Fans.snoc h).1 hF).2
theorem Fans.dart {go : Int → Prop} : ∀ {L : List Int} {o : Int}, Fans (Fan E A go) o L → ∀ d ∈ L, isD E d
  | [], _, _, d, hd => by cases hd
  | b :: L, o, h, d, hd => by
    rcases List.mem_cons.1 hd with rfl | hd
    · exact h.1.2.1
    · exact Fans.dart h.2 d hd

/-- The peeling's contour: a closed chain of fans, no vertex twice, none gone; what is neither gone nor on it has no gone neighbour. -/
structure Pee (E : List (Int × Int)) (A : List (List Int)) (go : Int → Prop) (D : List Int) : Prop where
  fans : Fans (Fan E A go) 1 D
  last : ∃ L, D = L ++ [1]
  nd : (D.map (tailE E)).Nodup
  ng : ∀ d ∈ D, ¬ go (tailE E d)
  inn : ∀ d, isD E d → ¬ go (tailE E d) → tailE E d ∉ D.map (tailE E) → ¬ go (tailE E (oth d))

/-- What lies at a vertex of the contour that sees no other of its vertices than those beside it. -/
structure Spot (E : List (Int × Int)) (A : List (List Int)) (go : Int → Prop) (L1 : List Int) (a b f : Int) (M X G p q : List Int) : Prop where
  row : rowOf A (tailE E b).toNat = p ++ q
  rot : q ++ p = oth a :: (X ++ b :: G)
  ins : ∀ d ∈ X, ¬ go (tailE E (oth d)) ∧ tailE E (oth d) ∉ (L1 ++ a :: b :: f :: M).map (tailE E)
  out : ∀ d ∈ G, go (tailE E (oth d))
  ta : tailE E (oth a) = tailE E b
  tf : tailE E (oth b) = tailE E f
  da : isD E a
  db : isD E b
theorem mem_tails {D : List Int} {d : Int} (h : d ∈ D) : tailE E d ∈ D.map (tailE E) := List.mem_map_of_mem h
theorem spot_ex (hT : trgB N E A = true) {go : Int → Prop} {L1 M : List Int} {a b f : Int} (h : Pee E A go (L1 ++ a :: b :: f :: M)) (hfr : ∀ d, isD E d → tailE E d = tailE E b → ∀ x, x ∈ L1 ∨ x ∈ M → tailE E (oth d) ≠ tailE E x) :
    ∃ X G p q, Spot E A go L1 a b f M X G p q := by
  have hV := trg_valid hT
  have hF := (Fans.app.1 h.fans).2
  obtain ⟨hab, hbf, _⟩ := hF
  obtain ⟨ha, hb, hta, X, G, p, q, hr, hl, hX, hG⟩ := hab
  have htf := hbf.2.2.1
  obtain ⟨hc, hn, hm⟩ := rot_row hV hb hr hl (by simp)
  refine ⟨X, G, p, q, hr, hl, fun d hd => ⟨hX d hd, fun hk => ?_⟩, hG, hta, htf, ha, hb⟩
  have hdm := (hm d).1 (by simp [hd])
  obtain ⟨x, hx, e⟩ := List.mem_map.1 hk
  have hx' : x ∈ L1 ∨ x = a ∨ x = b ∨ x = f ∨ x ∈ M := by simpa using hx
  rcases hx' with k | k | k | k | k
  · exact hfr d hdm.1 hdm.2 x (Or.inl k) e.symm
  · subst k
    have : d = oth x := dart_uniq hT hdm.1 ha.oth (hdm.2.trans hta.symm) (by rw [oth_oth]; exact e.symm)
    subst this
    rw [List.nodup_cons] at hn
    exact hn.1 (by simp [hd])
  · subst k
    exact cho_ne hV (c := fun _ => tailE E x) (s := 0) (t := 0) ⟨d, hdm.1, hdm.2, e.symm⟩ rfl
  · subst k
    have : d = b := dart_uniq hT hdm.1 hb hdm.2 (e.symm.trans htf.symm)
    subst this
    rw [List.nodup_cons, List.nodup_append] at hn
    exact hn.2.2.2 d hd d (by simp) rfl
  · exact hfr d hdm.1 hdm.2 x (Or.inr k) e.symm
end
end Go.Proofs.YtdacnkjmimhcaaaDoor

/- One step of the peeling, plain: taking a vertex that sees no other of the contour than those beside it leaves a contour again. -/
namespace Go.Proofs.YtdacnkjmimhcaaaDoor

theorem last_in {o e : Int} {L W : List Int} (h : o :: L = W ++ [e]) (h0 : L ≠ []) : e ∈ L := by
  cases W with
  | nil => simp at h; exact absurd h.2 h0
  | cons c W =>
    rw [List.cons_append] at h
    rw [(List.cons.inj h).2]
    simp
section
variable {N : Int} {E : List (Int × Int)} {A : List (List Int)}
theorem pee_closed {go : Int → Prop} {x f : Int} {P M : List Int} (h : Pee E A go (x :: P ++ f :: M)) : (M = [] → tailE E (oth f) = tailE E x) ∧ (∀ g M', M = g :: M' → tailE E (oth f) = tailE E g) ∧ (1 : Int) ∈ f :: M ∧ (M ≠ [] → (1 : Int) ∈ M) := by
  obtain ⟨T, g, hT⟩ := snoc_ex f M
  obtain ⟨L, hL⟩ := h.last
  have hg : g = 1 := by
    rw [hT, ← List.append_assoc] at hL
    have := (List.append_inj' hL rfl).2
    simpa using this
  subst hg
  have h1 : (1 : Int) ∈ f :: M := by rw [hT]; simp
  refine ⟨fun hM => ?_, fun g M' hM => ?_, h1, fun hM => last_in hT hM⟩
  · subst hM
    rw [List.mem_singleton] at h1
    rw [← h1]
    have := h.fans
    exact this.1.2.2.1
  · subst hM
    have := (Fans.app.1 h.fans).2
    exact this.1.2.2.1
/-- What is on the new contour. -/
theorem new_tails (hT : trgB N E A = true) {go : Int → Prop} {L1 M : List Int} {a b f : Int} {X G p q : List Int} (hS : Spot E A go L1 a b f M X G p q) :
    (L1 ++ ((oth a :: X).map (thd A) ++ f :: M)).map (tailE E) = L1.map (tailE E) ++ (tailE E a :: (X.map (fun d => tailE E (oth d)) ++ (f :: M).map (tailE E))) := by
  have hV := trg_valid hT
  obtain ⟨hc, hn, hm⟩ := rot_row hV hS.db hS.row hS.rot (by simp)
  rw [List.map_append, List.map_append, List.map_map]
  congr 1
  rw [← List.cons_append]
  congr 1
  rw [List.map_cons]
  congr 1
  · show tailE E (thd A (oth a)) = _
    rw [(thd_ok hT hS.da.oth).2.2.2.1, oth_oth]
  · apply List.map_congr_left
    intro d hd
    exact (thd_ok hT ((hm d).1 (by simp [hd])).1).2.2.2.1
theorem pee_take (hT : trgB N E A = true) {go go' : Int → Prop} {L1 M : List Int} {a b f : Int} (h : Pee E A go (L1 ++ a :: b :: f :: M)) (hfr : ∀ d, isD E d → tailE E d = tailE E b → ∀ x, x ∈ L1 ∨ x ∈ M → tailE E (oth d) ≠ tailE E x)
    {X G p q : List Int} (hS : Spot E A go L1 a b f M X G p q) (hgo : ∀ x, go' x ↔ go x ∨ x = tailE E b) (hne : L1 ≠ [] ∨ M ≠ [] ∨ X ≠ []) : Pee E A go' (L1 ++ ((oth a :: X).map (thd A) ++ f :: M)) := by
  have hV := trg_valid hT
  obtain ⟨hc, hn, hm⟩ := rot_row hV hS.db hS.row hS.rot (by simp)
  have hc' : Ch (sucF A) (oth a) (X ++ b :: G) (oth a) := hc
  obtain ⟨z, Z, hZ, hz⟩ := Ch.snd hc'
  have hnd := h.nd
  simp only [List.map_append, List.map_cons, List.nodup_append, List.nodup_cons, List.mem_cons, not_or] at hnd
  obtain ⟨n1, ⟨⟨n2, n3, n4⟩, ⟨n5, n6⟩, n7, n8⟩, n9⟩ := hnd
  have fL : ∀ x ∈ L1, tailE E x ≠ tailE E a ∧ tailE E x ≠ tailE E b ∧ tailE E x ≠ tailE E f ∧ ∀ y ∈ M, tailE E x ≠ tailE E y := fun x hx =>
    ⟨n9 _ (mem_tails hx) _ (Or.inl rfl), n9 _ (mem_tails hx) _ (Or.inr (Or.inl rfl)), n9 _ (mem_tails hx) _ (Or.inr (Or.inr (Or.inl rfl))), fun y hy => n9 _ (mem_tails hx) _ (Or.inr (Or.inr (Or.inr (mem_tails hy))))⟩
  have fM : ∀ y ∈ M, tailE E a ≠ tailE E y ∧ tailE E b ≠ tailE E y ∧ tailE E f ≠ tailE E y := fun y hy => ⟨fun e => n4 (e ▸ mem_tails hy), fun e => n6 (e ▸ mem_tails hy), fun e => n7 (e ▸ mem_tails hy)⟩
  obtain ⟨F1, F2⟩ := Fans.app.1 h.fans
  obtain ⟨hab, hbf, hfM⟩ := F2
  obtain ⟨W, e, hW⟩ := snoc_ex 1 L1
  obtain ⟨F1', hea⟩ := (Fans.snoc hW).1 F1
  have h1D : (1 : Int) ∈ f :: M ∧ (M ≠ [] → (1 : Int) ∈ M) := by
    cases L1 with
    | nil => exact (pee_closed (x := a) (P := [b]) h).2.2
    | cons l L1 => exact (pee_closed (x := l) (P := L1 ++ [a, b]) (by simpa using h)).2.2
  have hf : (tailE E (oth f) ∈ (L1 ++ a :: b :: f :: M).map (tailE E)) ∧ (tailE E (oth f) = tailE E a → L1 = [] ∧ M = []) := by
    cases L1 with
    | nil =>
      obtain ⟨c1, c2, _⟩ := pee_closed (x := a) (P := [b]) h
      cases M with
      | nil => exact ⟨by rw [c1 rfl]; simp, fun _ => ⟨rfl, rfl⟩⟩
      | cons g M => exact ⟨by rw [c2 g M rfl]; simp, fun k => absurd ((c2 g M rfl).symm.trans k).symm (fM g (by simp)).1⟩
    | cons l L1 =>
      obtain ⟨c1, c2, _⟩ := pee_closed (x := l) (P := L1 ++ [a, b]) (by simpa using h)
      cases M with
      | nil => exact ⟨by rw [c1 rfl]; simp, fun k => absurd ((c1 rfl).symm.trans k) (fL l (by simp)).1⟩
      | cons g M => exact ⟨by rw [c2 g M rfl]; simp, fun k => absurd ((c2 g M rfl).symm.trans k).symm (fM g (by simp)).1⟩
  have he : (tailE E e ∈ (L1 ++ a :: b :: f :: M).map (tailE E)) ∧ (tailE E e = tailE E f → L1 = [] ∧ M = []) := by
    by_cases hL : L1 = []
    · subst hL
      have e1 : e = 1 := by
        cases W with
        | nil => simpa using hW.symm
        | cons c W => simp at hW
      subst e1
      refine ⟨mem_tails (by have := h1D.1; simp only [List.mem_cons] at this; rcases this with k | k <;> simp [k]), fun k => ⟨rfl, ?_⟩⟩
      apply Classical.byContradiction
      intro hM
      exact (fM 1 (h1D.2 hM)).2.2 k.symm
    · have := last_in hW hL
      exact ⟨mem_tails (by simp [this]), fun k => absurd k (fL e this).2.2.1⟩
  obtain ⟨y1, y2, y3, y4, y5⟩ := thd_ok hT hS.da.oth
  rw [oth_oth] at y2 y4
  have hzm : z ∈ oth a :: X := by rw [hZ]; simp
  have hzd := (hm z).1 (by rcases List.mem_cons.1 hzm with k | k <;> simp [k])
  obtain ⟨z1, z2, z3, z4, z5⟩ := thd_ok hT hzd.1
  rw [hz] at z3 z5
  have hX : ∀ x ∈ X, ∀ u, tailE E (oth x) = u → u ∈ (L1 ++ a :: b :: f :: M).map (tailE E) → False := fun x hx u e hu => (hS.ins x hx).2 (e ▸ hu)
  have hy0 : thd A (oth a) ≠ oth e := fun k => by
    rw [k, oth_oth] at y5
    cases hXe : X with
    | nil =>
      rw [hXe] at hc'
      rw [hc'.1, hS.tf] at y5
      obtain ⟨k1, k2⟩ := he.2 y5
      rcases hne with k | k | k <;> contradiction
    | cons x X' =>
      rw [hXe] at hc'
      rw [hc'.1] at y5
      exact hX x (by rw [hXe]; simp) _ y5.symm he.1
  have hyk : oth (thd A z) ≠ f := fun k => by
    have e1 : tailE E (oth f) = tailE E (oth z) := by rw [← k, oth_oth, z4]
    have hnX : z ∉ X := fun hx => hX z hx _ e1.symm hf.1
    have hX0 : X = [] := Classical.byContradiction fun h0 => hnX (last_in hZ h0)
    rcases List.mem_cons.1 hzm with k | k
    · rw [k, oth_oth] at e1
      obtain ⟨k1, k2⟩ := hf.2 e1
      rcases hne with k | k | k <;> contradiction
    · exact hnX k
  have hb1 : go' (tailE E b) := (hgo _).2 (Or.inr rfl)
  have hkeep : ∀ x y, (y ∈ L1 ∨ y ∈ M) → Fan E A go x y → Fan E A go' x y := fun x y hy hF => fan_keep hV hF (fun x hx => (hgo x).2 (Or.inl hx)) (fun x hx => (hgo x).1 hx) fun d hd ht k => hfr (oth d) hd.oth k y hy (by rw [oth_oth]; exact ht)
  have hsX : ∀ d ∈ X, isD E d ∧ tailE E d = tailE E b := fun d hd => (hm d).1 (by simp [hd])
  have hset : ∀ u, u ∈ (L1 ++ ((oth a :: X).map (thd A) ++ f :: M)).map (tailE E) ↔ (u ∈ (L1 ++ a :: b :: f :: M).map (tailE E) ∧ u ≠ tailE E b) ∨ ∃ d ∈ X, u = tailE E (oth d) := fun u => by
    rw [new_tails hT hS]
    simp only [List.map_append, List.map_cons, List.mem_append, List.mem_cons, List.mem_map]
    constructor
    · rintro (⟨x, hx, rfl⟩ | rfl | ⟨d, hd, rfl⟩ | rfl | ⟨y, hy, rfl⟩)
      · exact Or.inl ⟨Or.inl ⟨x, hx, rfl⟩, (fL x hx).2.1⟩
      · exact Or.inl ⟨Or.inr (Or.inl rfl), n2⟩
      · exact Or.inr ⟨d, hd, rfl⟩
      · exact Or.inl ⟨Or.inr (Or.inr (Or.inr (Or.inl rfl))), fun k => n5 k.symm⟩
      · exact Or.inl ⟨Or.inr (Or.inr (Or.inr (Or.inr ⟨y, hy, rfl⟩))), fun k => (fM y hy).2.1 k.symm⟩
    · rintro (⟨(⟨x, hx, rfl⟩ | rfl | rfl | rfl | ⟨y, hy, rfl⟩), hb⟩ | ⟨d, hd, rfl⟩)
      · exact Or.inl ⟨x, hx, rfl⟩
      · exact Or.inr (Or.inl rfl)
      · exact absurd rfl hb
      · exact Or.inr (Or.inr (Or.inr (Or.inl rfl)))
      · exact Or.inr (Or.inr (Or.inr (Or.inr ⟨y, hy, rfl⟩)))
      · exact Or.inr (Or.inr (Or.inl ⟨d, hd, rfl⟩))
  have hXb : ∀ d ∈ X, tailE E (oth d) ≠ tailE E b := fun d hd k => hX d hd _ k (by simp)
  refine ⟨?_, ?_, ?_, ?_, ?_⟩
  · show Fans (Fan E A go') 1 (L1 ++ thd A (oth a) :: (X.map (thd A) ++ f :: M))
    refine Fans.app.2 ⟨(Fans.snoc hW).2 ⟨Fans.mono (fun x y hy hF => hkeep x y (Or.inl hy) hF) F1', ?_⟩, Fans.app.2 ⟨(Fans.snoc (W := Z.map (thd A)) (e := thd A z) (by have := congrArg (List.map (thd A)) hZ; simpa using this)).2 ⟨?_, ?_⟩, Fans.mono (fun x y hy hF => hkeep x y (Or.inr hy) hF) hfM⟩⟩
    · exact fan_left hT hea y1 y2 hy0 (by rw [hS.ta]; exact hb1) (fun x hx => (hgo x).2 (Or.inl hx)) (fun x hx => by rw [hS.ta]; exact (hgo x).1 hx)
    · refine fans_mid hT hb1 (z := b) (Ch.app.1 hc').1 ?_ ?_ ?_
      · have hn' := hn
        have : (oth a :: (X ++ [b])).Sublist (oth a :: (X ++ b :: G)) := by
          refine List.Sublist.cons_cons _ (List.Sublist.append (List.Sublist.refl _) ?_)
          exact List.Sublist.cons_cons _ (List.nil_sublist _)
        exact hn'.sublist this
      · intro d hd
        have hd' : d = oth a ∨ d ∈ X ∨ d = b := by simpa using hd
        exact (hm d).1 (by rcases hd' with k | k | k <;> simp [k])
      · intro d hd f' hf' ht' hne' hg'
        rcases (hgo _).1 hg' with k | k
        · exact h.inn f' hf' (by rw [ht']; exact (hS.ins d hd).1) (by rw [ht']; exact (hS.ins d hd).2) k
        · exact hne' (dart_uniq hT hf' (hsX d hd).1.oth ht' (by rw [oth_oth, k]; exact (hsX d hd).2.symm))
    · exact fan_right hT hbf z1 z3 hyk (z5.trans hS.tf) hb1 (fun x hx => (hgo x).2 (Or.inl hx)) (fun x hx => (hgo x).1 hx)
  · obtain ⟨T, g, hT'⟩ := snoc_ex f M
    obtain ⟨L, hL⟩ := h.last
    have hg : g = 1 := by
      have hL' : (L1 ++ a :: b :: T) ++ [g] = L ++ [1] := by rw [← hL, List.append_assoc, List.cons_append, List.cons_append, ← hT']
      have := (List.append_inj' hL' rfl).2
      simpa using this
    rw [hg] at hT'
    exact ⟨L1 ++ ((oth a :: X).map (thd A) ++ T), by rw [hT', List.append_assoc, List.append_assoc]⟩
  · rw [new_tails hT hS]
    have hXn : (X.map (fun d => tailE E (oth d))).Nodup := by
      unfold List.Nodup
      rw [List.pairwise_map]
      have hXn : X.Nodup := by
        rw [List.nodup_cons, List.nodup_append] at hn
        exact hn.2.1
      exact List.Pairwise.imp_of_mem (fun {x y} hx hy hxy k => hxy (dart_uniq hT (hsX x hx).1 (hsX y hy).1 ((hsX x hx).2.trans (hsX y hy).2.symm) k)) hXn
    have hXo : ∀ u ∈ X.map (fun d => tailE E (oth d)), ∀ d ∈ L1 ++ a :: b :: f :: M, u ≠ tailE E d := fun u hu d hd k => by
      obtain ⟨x, hx, e⟩ := List.mem_map.1 hu
      exact hX x hx _ (e.trans k) (mem_tails hd)
    have hXf : (X.map (fun d => tailE E (oth d)) ++ (f :: M).map (tailE E)).Nodup := by
      refine List.nodup_append.2 ⟨hXn, ?_, fun u hu v hv k => ?_⟩
      · rw [List.map_cons, List.nodup_cons]; exact ⟨n7, n8⟩
      · obtain ⟨y, hy, e⟩ := List.mem_map.1 hv
        exact hXo u hu y (by rcases List.mem_cons.1 hy with k | k <;> simp [k]) (k.trans e.symm)
    refine List.nodup_append.2 ⟨n1, List.nodup_cons.2 ⟨fun hk => ?_, hXf⟩, fun u hu v hv k => ?_⟩
    · rcases List.mem_append.1 hk with hk | hk
      · exact hXo _ hk a (by simp) rfl
      · rw [List.map_cons, List.mem_cons] at hk
        rcases hk with hk | hk
        · exact n3 hk
        · exact n4 hk
    · obtain ⟨x, hx, rfl⟩ := List.mem_map.1 hu
      subst k
      rcases List.mem_cons.1 hv with hv | hv
      · exact (fL x hx).1 hv
      rcases List.mem_append.1 hv with hv | hv
      · exact hXo _ hv x (by simp [hx]) rfl
      · obtain ⟨y, hy, e⟩ := List.mem_map.1 hv
        rcases List.mem_cons.1 hy with rfl | hy
        · exact (fL x hx).2.2.1 e.symm
        · exact (fL x hx).2.2.2 y hy e.symm
  · intro d hd hg
    rcases (hset _).1 (mem_tails hd) with ⟨k1, k2⟩ | ⟨x, hx, k⟩
    · rcases (hgo _).1 hg with k | k
      · obtain ⟨y, hy, e⟩ := List.mem_map.1 k1
        exact h.ng y hy (e ▸ k)
      · exact k2 k
    · rw [k] at hg
      rcases (hgo _).1 hg with k | k
      · exact (hS.ins x hx).1 k
      · exact hXb x hx k
  · intro d hd hg ht hk
    have hD : tailE E d ∉ (L1 ++ a :: b :: f :: M).map (tailE E) := fun hm' => ht ((hset _).2 (Or.inl ⟨hm', fun k => hg (k ▸ hb1)⟩))
    have hg0 : ¬ go (tailE E d) := fun k => hg ((hgo _).2 (Or.inl k))
    rcases (hgo _).1 hk with k | k
    · exact h.inn d hd hg0 hD k
    · have hmem := (hm (oth d)).2 ⟨hd.oth, k⟩
      have hmem' : oth d = oth a ∨ oth d ∈ X ∨ oth d = b ∨ oth d ∈ G := by simpa using hmem
      rcases hmem' with k | k | k | k
      · have : d = a := by rw [← oth_oth d, k, oth_oth]
        exact hD (this ▸ mem_tails (by simp))
      · exact ht ((hset _).2 (Or.inr ⟨_, k, by rw [oth_oth]⟩))
      · have := hS.tf
        rw [← k, oth_oth] at this
        exact hD (this ▸ mem_tails (by simp))
      · have := hS.out _ k
        rw [oth_oth] at this
        exact hg0 this
end
end Go.Proofs.YtdacnkjmimhcaaaDoor

/- The peeling as the program does it, plain: a step. -/
namespace Go.Proofs.YtdacnkjmimhcaaaDoor

theorem ge_mid (P Q : List Int) (x : Int) : ge (P ++ x :: Q) P.length = x := by unfold ge; simp
theorem stOut_ge : ∀ (l : List Int) (st : List Int), (∀ u ∈ l, 0 ≤ u ∧ u < (st.length : Int)) → ∀ v : Nat, ge (stOut st l) v = if (v : Int) ∈ l then 1 else ge st v
  | [], st, _, v => by simp [stOut]
  | u :: l, st, h, v => by
    have hu := h u (by simp)
    show ge (stOut (st.set u.toNat 1) l) v = _
    rw [stOut_ge l _ (fun x hx => by rw [List.length_set]; exact h x (List.mem_cons_of_mem _ hx)) v]
    by_cases h1 : (v : Int) ∈ l
    · rw [if_pos h1, if_pos (List.mem_cons_of_mem _ h1)]
    · rw [if_neg h1]
      by_cases h2 : u.toNat = v
      · subst h2
        rw [ge_set_same _ (by omega), if_pos (by rw [List.mem_cons]; left; omega)]
      · rw [ge_set_other _ h2, if_neg]
        rw [List.mem_cons]
        rintro (k | k)
        · omega
        · exact h1 k
/-- The states: 2 for what is gone, 1 for the contour, 0 for what is inside. -/
structure Sta (A : List (List Int)) (st C ord : List Int) : Prop where
  len : st.length = A.length
  val : ∀ v : Nat, v < A.length → ge st v = if (v : Int) ∈ ord then 2 else if (v : Int) ∈ C then 1 else 0
theorem Sta.at {A : List (List Int)} {st C ord : List Int} (h : Sta A st C ord) {u : Int} (h0 : 0 ≤ u) (h1 : u < A.length) : ge st u.toNat = if u ∈ ord then 2 else if u ∈ C then 1 else 0 := by
  have := h.val u.toNat (by omega)
  rwa [show ((u.toNat : Nat) : Int) = u by omega] at this
theorem pick_free {E : List (Int × Int)} {A : List (List Int)} {st C : List Int} : ∀ (f i : Nat), C.length ≤ f + i + 1 → (∃ t, i ≤ t ∧ t + 1 < C.length ∧ freeB E A st C t = true) → freeB E A st C (pickN E A st C f i) = true
  | 0, i, h, ⟨t, h1, h2, h3⟩ => by
    have : t = i := by omega
    subst this
    exact h3
  | f + 1, i, h, ⟨t, h1, h2, h3⟩ => by
    by_cases hc : i + 2 < C.length ∧ freeB E A st C i = false
    · rw [pickN_go hc]
      refine pick_free f (i + 1) (by omega) ⟨t, ?_, h2, h3⟩
      rcases Nat.lt_or_ge i t with k | k
      · exact k
      · have : t = i := by omega
        subst this
        rw [h3] at hc
        cases hc.2
    · rw [pickN_stop hc]
      by_cases hf : freeB E A st C i = true
      · exact hf
      · have : ¬ i + 2 < C.length := fun k => hc ⟨k, by simpa using hf⟩
        have : t = i := by omega
        subst this
        exact h3
theorem split3 {D : List Int} {t : Nat} (h0 : 0 < t) (h1 : t + 1 < D.length) : ∃ L1 a b f M, D = L1 ++ a :: b :: f :: M ∧ t = L1.length + 1 := by
  obtain ⟨s, rfl⟩ : ∃ s, t = s + 1 := ⟨t - 1, by omega⟩
  have hl : (D.drop s).length = D.length - s := List.length_drop
  match hd : D.drop s with
  | [] => rw [hd] at hl; simp at hl; omega
  | [a] => rw [hd] at hl; simp at hl; omega
  | [a, b] => rw [hd] at hl; simp at hl; omega
  | a :: b :: f :: M =>
    refine ⟨D.take s, a, b, f, M, ?_, ?_⟩
    · rw [← hd, List.take_append_drop]
    · rw [List.length_take]; omega

section
variable {N : Int} {E : List (Int × Int)} {A : List (List Int)}
theorem head_in (hV : vRot N E A) {d : Int} (hd : isD E d) : 0 ≤ tailE E d ∧ tailE E d < (A.length : Int) := by
  have := tail_in hV hd.1 hd.2
  have := hV.al
  omega
/-- The neighbours of a vertex of the contour, in the order from the left one on. -/
theorem near_rot {a b f : Int} {go : Int → Prop} {L1 M X G p q : List Int} (hS : Spot E A go L1 a b f M X G p q) :
    nearL E (rowOf A (tailE E b).toNat) = nearL E p ++ nearL E q ∧ nearL E q ++ nearL E p = tailE E a :: (nearL E X ++ tailE E f :: nearL E G) := by
  constructor
  · rw [hS.row]; unfold nearL; rw [List.map_append]
  · unfold nearL
    rw [← List.map_append, hS.rot, List.map_cons, List.map_append, List.map_cons, oth_oth, hS.tf]
/-- A vertex is free for the program: no other vertex of the contour is beside it. -/
theorem free_of (hT : trgB N E A = true) {st ord L1 M : List Int} {a b f : Int} (hP : Pee E A (· ∈ ord) (L1 ++ a :: b :: f :: M)) (hs : Sta A st ((L1 ++ a :: b :: f :: M).map (tailE E)) ord)
    (hfr : ∀ d, isD E d → tailE E d = tailE E b → ∀ x, x ∈ L1 ∨ x ∈ M → tailE E (oth d) ≠ tailE E x) : restN st (nearL E (rowOf A (tailE E b).toNat)) = 2 := by
  have hV := trg_valid hT
  obtain ⟨X, G, p, q, hS⟩ := spot_ex hT hP hfr
  obtain ⟨hc, hn, hm⟩ := rot_row hV hS.db hS.row hS.rot (by simp)
  obtain ⟨e1, e2⟩ := near_rot hS
  unfold restN
  rw [e1, List.countP_append, Nat.add_comm, ← List.countP_append, e2, List.countP_cons, List.countP_append, List.countP_cons]
  have hdf : isD E f := Fans.dart hP.fans f (by simp)
  have va := hs.at (head_in hV hS.da).1 (head_in hV hS.da).2
  have vf := hs.at (head_in hV hdf).1 (head_in hV hdf).2
  rw [if_neg (hP.ng a (by simp)), if_pos (mem_tails (by simp))] at va
  rw [if_neg (hP.ng f (by simp)), if_pos (mem_tails (by simp))] at vf
  have k1 : (nearL E X).countP (fun u => (ge st u.toNat == 1)) = 0 := by
    rw [List.countP_eq_zero]
    intro u hu
    obtain ⟨d, hd, rfl⟩ := List.mem_map.1 hu
    have hdd := ((hm d).1 (by simp [hd])).1.oth
    have v := hs.at (head_in hV hdd).1 (head_in hV hdd).2
    rw [if_neg (hS.ins d hd).1, if_neg (hS.ins d hd).2] at v
    rw [v]
    simp
  have k2 : (nearL E G).countP (fun u => (ge st u.toNat == 1)) = 0 := by
    rw [List.countP_eq_zero]
    intro u hu
    obtain ⟨d, hd, rfl⟩ := List.mem_map.1 hu
    have hdd := ((hm d).1 (by simp [hd])).1.oth
    have v := hs.at (head_in hV hdd).1 (head_in hV hdd).2
    rw [if_pos (hS.out d hd)] at v
    rw [v]
    simp
  rw [k1, k2, va, vf]
  rfl
theorem of_free (hT : trgB N E A = true) {st ord L1 M : List Int} {a b f : Int} (hP : Pee E A (· ∈ ord) (L1 ++ a :: b :: f :: M)) (hs : Sta A st ((L1 ++ a :: b :: f :: M).map (tailE E)) ord)
    (h : restN st (nearL E (rowOf A (tailE E b).toNat)) = 2) : ∀ d, isD E d → tailE E d = tailE E b → ∀ x, x ∈ L1 ∨ x ∈ M → tailE E (oth d) ≠ tailE E x := by
  intro d hd ht x hx he
  have hV := trg_valid hT
  have hnd := hP.nd
  have hda : isD E a := Fans.dart hP.fans a (by simp)
  have hdb : isD E b := Fans.dart hP.fans b (by simp)
  have hdf : isD E f := Fans.dart hP.fans f (by simp)
  have hxD : x ∈ L1 ++ a :: b :: f :: M := by rcases hx with k | k <;> simp [k]
  have F2 := (Fans.app.1 hP.fans).2
  have hta := F2.1.2.2.1
  have htf := F2.2.1.2.2.1
  obtain ⟨v, hv, _, hvt⟩ := row_of hV hdb.1 hdb.2
  have hvn : (tailE E b).toNat = v := by omega
  have hin : ∀ g, isD E g → tailE E g = tailE E b → tailE E (oth g) ∈ nearL E (rowOf A v) := fun g hg hgt => by
    obtain ⟨v', hv', hm', ht'⟩ := row_of hV hg.1 hg.2
    have : v' = v := by omega
    subst this
    exact List.mem_map.2 ⟨g, hm', rfl⟩
  have m1 : tailE E a ∈ nearL E (rowOf A v) := by have := hin (oth a) hda.oth hta; rwa [oth_oth] at this
  have m2 : tailE E f ∈ nearL E (rowOf A v) := by have := hin b hdb rfl; rwa [htf] at this
  have m3 : tailE E x ∈ nearL E (rowOf A v) := by have := hin d hd ht; rwa [he] at this
  have hv1 : ∀ g, g ∈ L1 ++ a :: b :: f :: M → (ge st (tailE E g).toNat == 1) = true := fun g hg => by
    have hgd := Fans.dart hP.fans g hg
    have w := hs.at (head_in hV hgd).1 (head_in hV hgd).2
    rw [if_neg (hP.ng g hg), if_pos (mem_tails hg)] at w
    rw [w]; rfl
  have h3 : [tailE E a, tailE E f, tailE E x].Nodup := by
    simp only [List.map_append, List.map_cons, List.nodup_append, List.nodup_cons, List.mem_cons, not_or] at hnd
    obtain ⟨n1, ⟨⟨n2, n3, n4⟩, ⟨n5, n6⟩, n7, n8⟩, n9⟩ := hnd
    rcases hx with k | k
    · have p1 := n9 _ (mem_tails k) _ (Or.inl rfl)
      have p2 := n9 _ (mem_tails k) _ (Or.inr (Or.inr (Or.inl rfl)))
      simp [n3, p1.symm, p2.symm]
    · have p1 : tailE E a ≠ tailE E x := fun e => n4 (e ▸ mem_tails k)
      have p2 : tailE E f ≠ tailE E x := fun e => n7 (e ▸ mem_tails k)
      simp [n3, p1, p2]
  have := List.Nodup.length_le_of_subset h3 (l₂ := (nearL E (rowOf A v)).filter (fun u => (ge st u.toNat == 1))) (fun u hu => by
    rw [List.mem_filter]
    simp only [List.mem_cons, List.not_mem_nil, or_false] at hu
    rcases hu with rfl | rfl | rfl
    · exact ⟨m1, hv1 a (by simp)⟩
    · exact ⟨m2, hv1 f (by simp)⟩
    · exact ⟨m3, hv1 x hxD⟩)
  unfold restN at h
  rw [hvn, List.countP_eq_length_filter] at h
  rw [h] at this
  simp at this
/-- The list that the program puts in the vertex's place. -/
theorem turn_at (hT : trgB N E A = true) {st ord L1 M : List Int} {a b f : Int} (hP : Pee E A (· ∈ ord) (L1 ++ a :: b :: f :: M)) (hs : Sta A st ((L1 ++ a :: b :: f :: M).map (tailE E)) ord)
    {X G p q : List Int} (hS : Spot E A (· ∈ ord) L1 a b f M X G p q) :
    turnL (restL st (nearL E (rowOf A (tailE E b).toNat))) (tailE E a) (tailE E f) = tailE E a :: (nearL E X ++ [tailE E f]) ∧ (restL st (nearL E (rowOf A (tailE E b).toNat))).length = X.length + 2 ∧ tailE E a ∈ restL st (nearL E (rowOf A (tailE E b).toNat)) := by
  have hV := trg_valid hT
  obtain ⟨hc, hn, hm⟩ := rot_row hV hS.db hS.row hS.rot (by simp)
  obtain ⟨e1, e2⟩ := near_rot hS
  have hdf : isD E f := Fans.dart hP.fans f (by simp)
  have hfil : ∀ d, isD E d → ((ge st (tailE E d).toNat == 0) || (ge st (tailE E d).toNat == 1)) = !decide (tailE E d ∈ ord) := fun d hd => by
    rw [hs.at (head_in hV hd).1 (head_in hV hd).2]
    by_cases h1 : tailE E d ∈ ord
    · rw [if_pos h1, decide_eq_true h1]; rfl
    · rw [if_neg h1, decide_eq_false h1]
      split <;> rfl
  have hq : (nearL E q ++ nearL E p).filter (fun u => (ge st u.toNat == 0) || (ge st u.toNat == 1)) = tailE E a :: (nearL E X ++ [tailE E f]) := by
    rw [e2, List.filter_cons, hfil a hS.da, if_pos (by simp [hP.ng a (by simp)]), List.filter_append, List.filter_cons, hfil f hdf, if_pos (by simp [hP.ng f (by simp)])]
    have k1 : (nearL E X).filter (fun u => (ge st u.toNat == 0) || (ge st u.toNat == 1)) = nearL E X := by
      rw [List.filter_eq_self]
      intro u hu
      obtain ⟨d, hd, rfl⟩ := List.mem_map.1 hu
      rw [hfil _ ((hm d).1 (by simp [hd])).1.oth]
      simp [(hS.ins d hd).1]
    have k2 : (nearL E G).filter (fun u => (ge st u.toNat == 0) || (ge st u.toNat == 1)) = [] := by
      rw [List.filter_eq_nil_iff]
      intro u hu
      obtain ⟨d, hd, rfl⟩ := List.mem_map.1 hu
      rw [hfil _ ((hm d).1 (by simp [hd])).1.oth]
      simp [hS.out d hd]
    rw [k1, k2]
  have hl : restL st (nearL E (rowOf A (tailE E b).toNat)) = (nearL E p).filter (fun u => (ge st u.toNat == 0) || (ge st u.toNat == 1)) ++ (nearL E q).filter (fun u => (ge st u.toNat == 0) || (ge st u.toNat == 1)) := by
    unfold restL
    rw [e1, List.filter_append]
  rw [List.filter_append] at hq
  have hlen : (restL st (nearL E (rowOf A (tailE E b).toNat))).length = X.length + 2 := by
    have := congrArg List.length hq
    have e : (nearL E X).length = X.length := List.length_map ..
    simp only [List.length_append, List.length_cons, List.length_nil, e] at this
    rw [hl, List.length_append]
    omega
  refine ⟨turn_ok hl hq ?_, hlen, ?_⟩
  · obtain ⟨v, hv, _, hvt⟩ := row_of hV hS.db.1 hS.db.2
    have hvn : (tailE E b).toNat = v := by omega
    rw [hvn]
    exact (near_nodup hV (trg_simple hT) hv).sublist List.filter_sublist
  · have : tailE E a ∈ (nearL E q).filter (fun u => (ge st u.toNat == 0) || (ge st u.toNat == 1)) ++ (nearL E p).filter (fun u => (ge st u.toNat == 0) || (ge st u.toNat == 1)) := by rw [hq]; simp
    rw [hl]
    rw [List.mem_append] at this ⊢
    exact this.symm
end
end Go.Proofs.YtdacnkjmimhcaaaDoor

/- The peeling as the program does it, plain: a step forth and a step back. -/
namespace Go.Proofs.YtdacnkjmimhcaaaDoor

theorem nodup_len {l : List Int} {n : Nat} (h : l.Nodup) (hr : ∀ u ∈ l, 0 ≤ u ∧ u < (n : Int)) : l.length ≤ n := by
  have := List.Nodup.length_le_of_subset h (l₂ := idL n) (fun u hu => mem_idL.2 (hr u hu))
  rwa [idL_len] at this
theorem RotP_set {st : List Int} {u v : Nat} {x : Int} (h : u < st.length) : ge (st.set u x) v = if u = v then x else ge st v := by
  by_cases e : u = v
  · subst e; rw [ge_set_same _ h, if_pos rfl]
  · rw [ge_set_other _ e, if_neg e]
theorem geA_l {P : List Int} (Q : List Int) {s : Nat} (h : s < P.length) : ge (P ++ Q) s = ge P s := by
  rw [ge_eq _ (by rw [List.length_append]; omega), ge_eq _ h, List.getElem_append_left h]
theorem geA_r (P Q : List Int) (s : Nat) : ge (P ++ Q) (P.length + s) = ge Q s := by
  unfold ge
  rw [List.getD_eq_getElem?_getD, List.getD_eq_getElem?_getD, List.getElem?_append_right (by omega), Nat.add_sub_cancel_left]
theorem oth_1 : oth 1 = 0 := by decide
section
variable {N : Int} {E : List (Int × Int)} {A : List (List Int)}
theorem ends_in {go : Int → Prop} {L1 M : List Int} {a b f : Int} (h : Pee E A go (L1 ++ a :: b :: f :: M)) :
    tailE E 0 ∈ (L1 ++ a :: b :: f :: M).map (tailE E) ∧ tailE E 1 ∈ (L1 ++ a :: b :: f :: M).map (tailE E) ∧ tailE E 0 ≠ tailE E b ∧ tailE E 1 ≠ tailE E b ∧ (L1 = [] → tailE E a = tailE E 0) ∧ (M = [] → f = 1) := by
  have hnd := h.nd
  simp only [List.map_append, List.map_cons, List.nodup_append, List.nodup_cons, List.mem_cons, not_or] at hnd
  obtain ⟨n1, ⟨⟨n2, n3, n4⟩, ⟨n5, n6⟩, n7, n8⟩, n9⟩ := hnd
  have h1 : (1 : Int) ∈ f :: M := by
    cases L1 with
    | nil => exact (pee_closed (x := a) (P := [b]) h).2.2.1
    | cons l L1 => exact (pee_closed (x := l) (P := L1 ++ [a, b]) (by simpa using h)).2.2.1
  have h1b : tailE E 1 ≠ tailE E b := fun k => by
    rcases List.mem_cons.1 h1 with e | e
    · exact n5 (by rw [← e, k])
    · exact n6 (k ▸ mem_tails e)
  have hf : M = [] → f = 1 := fun e => by
    subst e
    exact (List.mem_singleton.1 h1).symm
  have h1m : tailE E 1 ∈ (L1 ++ a :: b :: f :: M).map (tailE E) := mem_tails (by
    rw [List.mem_append]
    right
    exact List.mem_cons_of_mem _ (List.mem_cons_of_mem _ h1))
  cases L1 with
  | nil =>
    have : tailE E 0 = tailE E a := by
      have := h.fans
      have := this.1.2.2.1
      rwa [oth_1] at this
    exact ⟨by rw [this]; simp, h1m, by rw [this]; exact n2, h1b, fun _ => this.symm, hf⟩
  | cons l L1 =>
    have : tailE E 0 = tailE E l := by
      have := h.fans
      have := this.1.2.2.1
      rwa [oth_1] at this
    exact ⟨by rw [this]; simp, h1m, by rw [this]; exact n9 _ (by simp) _ (Or.inr (Or.inl rfl)), h1b, fun e => (by cases e), hf⟩
theorem fans_range (hV : vRot N E A) {go : Int → Prop} {D : List Int} (h : Pee E A go D) : ∀ u ∈ D.map (tailE E), 0 ≤ u ∧ u < (A.length : Int) := fun u hu => by
  obtain ⟨d, hd, rfl⟩ := List.mem_map.1 hu
  exact head_in hV (Fans.dart h.fans d hd)
/-- The vertex that the program takes, and what it makes of contour and states. -/
theorem peel_step (hT : trgB N E A = true) (hN : A.length ≤ 40) {D st ord : List Int} (hP : Pee E A (· ∈ ord) D) (hs : Sta A st (D.map (tailE E)) ord) (hm : 3 ≤ D.length) :
    ∃ L1 a b f M X G p q, D = L1 ++ a :: b :: f :: M ∧ pickN E A st (D.map (tailE E)) (D.map (tailE E)).length 1 = L1.length + 1 ∧ ge (D.map (tailE E)) (L1.length + 1) = tailE E b ∧ Spot E A (· ∈ ord) L1 a b f M X G p q ∧
      (∀ d, isD E d → tailE E d = tailE E b → ∀ x, x ∈ L1 ∨ x ∈ M → tailE E (oth d) ≠ tailE E x) ∧
      goodB E A st (D.map (tailE E)) (L1.length + 1) = true ∧
      takeC (D.map (tailE E)) (leftL E A st (D.map (tailE E)) (L1.length + 1)) (L1.length + 1) = (L1 ++ ((oth a :: X).map (thd A) ++ f :: M)).map (tailE E) ∧
      Sta A (takeS st (D.map (tailE E)) (leftL E A st (D.map (tailE E)) (L1.length + 1)) (L1.length + 1)) ((L1 ++ ((oth a :: X).map (thd A) ++ f :: M)).map (tailE E)) (ord ++ [tailE E b]) := by
  have hV := trg_valid hT
  have hal := hV.al
  have hlen : (D.map (tailE E)).length = D.length := List.length_map ..
  -- a free vertex
  have hR := ring_of (go := (· ∈ ord)) hV (D := D) (by
    obtain ⟨L, hL⟩ := hP.last
    have : ge D (D.length - 1) = 1 := by rw [hL]; unfold ge; simp
    rw [this]; exact hP.fans) hP.nd hP.ng
  obtain ⟨t, t0, t1, ht⟩ := free_ex hV (chk_all (trg_chk hT)).1 hR hm
  have hfre : freeB E A st (D.map (tailE E)) t = true := by
    obtain ⟨L1, a, b, f, M, hD, hti⟩ := split3 t0 t1
    have hgb : ge D t = b := by rw [hD, hti, show L1 ++ a :: b :: f :: M = (L1 ++ [a]) ++ b :: f :: M by simp, show L1.length + 1 = (L1 ++ [a]).length by simp]; exact ge_mid _ _ _
    have hgt : ge (D.map (tailE E)) t = tailE E b := by rw [ge_eq _ (by rw [hlen]; omega), List.getElem_map, ← ge_eq D (by omega), hgb]
    unfold freeB
    rw [hgt]
    subst hD
    rw [free_of hT hP hs]
    · rfl
    · intro d hd hdt x hx he
      have hc : ∀ s, s < (L1 ++ a :: b :: f :: M).length → ge (L1 ++ a :: b :: f :: M) s = x → Cho E (fun t => tailE E (ge (L1 ++ a :: b :: f :: M) t)) t s := fun s hs hg => ⟨d, hd, by show tailE E d = tailE E (ge _ t); rw [hgb]; exact hdt, by show tailE E (oth d) = tailE E (ge _ s); rw [hg]; exact he⟩
      rcases hx with hx | hx
      · obtain ⟨s, hs', hg⟩ := mem_ge.1 hx
        have hg' : ge (L1 ++ a :: b :: f :: M) s = x := by rw [← hg]; exact geA_l _ hs'
        exact ht s (by simp; omega) (by omega) (by omega) (hc s (by simp; omega) hg')
      · obtain ⟨s, hs', hg⟩ := mem_ge.1 hx
        have hg' : ge (L1 ++ a :: b :: f :: M) (L1.length + (s + 3)) = x := by rw [← hg]; exact geA_r _ _ _
        exact ht (L1.length + (s + 3)) (by simp; omega) (by omega) (by omega) (hc _ (by simp; omega) hg')
  have hpf := pick_free (E := E) (A := A) (st := st) (C := D.map (tailE E)) (D.map (tailE E)).length 1 (by omega) ⟨t, t0, by omega, hfre⟩
  obtain ⟨hp1, hp2⟩ := pickN_in (E := E) (A := A) (st := st) (C := D.map (tailE E)) (D.map (tailE E)).length (i := 1) (by omega)
  obtain ⟨i, hi⟩ : ∃ i, pickN E A st (D.map (tailE E)) (D.map (tailE E)).length 1 = i := ⟨_, rfl⟩
  rw [hi] at hpf hp1 hp2 ⊢
  rw [hlen] at hp2
  clear hR hfre ht t0 t1
  obtain ⟨L1, a, b, f, M, hD, hti⟩ := split3 (D := D) (t := i) (by omega) hp2
  subst hti
  subst hD
  have hg1 : ge ((L1 ++ a :: b :: f :: M).map (tailE E)) (L1.length + 1) = tailE E b := by
    rw [show (L1 ++ a :: b :: f :: M).map (tailE E) = (L1 ++ [a]).map (tailE E) ++ tailE E b :: (f :: M).map (tailE E) by simp, show L1.length + 1 = ((L1 ++ [a]).map (tailE E)).length by simp]
    exact ge_mid _ _ _
  have hg0 : ge ((L1 ++ a :: b :: f :: M).map (tailE E)) (L1.length + 1 - 1) = tailE E a := by
    rw [show (L1 ++ a :: b :: f :: M).map (tailE E) = L1.map (tailE E) ++ tailE E a :: (b :: f :: M).map (tailE E) by simp, show L1.length + 1 - 1 = (L1.map (tailE E)).length by simp]
    exact ge_mid _ _ _
  have hg2 : ge ((L1 ++ a :: b :: f :: M).map (tailE E)) (L1.length + 1 + 1) = tailE E f := by
    rw [show (L1 ++ a :: b :: f :: M).map (tailE E) = (L1 ++ [a, b]).map (tailE E) ++ tailE E f :: M.map (tailE E) by simp, show L1.length + 1 + 1 = ((L1 ++ [a, b]).map (tailE E)).length by simp]
    exact ge_mid _ _ _
  have hfr := of_free hT hP hs (by unfold freeB at hpf; rw [hg1] at hpf; simpa using hpf)
  obtain ⟨X, G, p, q, hS⟩ := spot_ex hT hP hfr
  obtain ⟨hc, hn, hm'⟩ := rot_row hV hS.db hS.row hS.rot (by simp)
  obtain ⟨r1, r2, r3⟩ := turn_at hT hP hs hS
  have hnt := new_tails hT hS
  have hrng := fans_range hV hP
  have htk : takeC ((L1 ++ a :: b :: f :: M).map (tailE E)) (leftL E A st ((L1 ++ a :: b :: f :: M).map (tailE E)) (L1.length + 1)) (L1.length + 1) = (L1 ++ ((oth a :: X).map (thd A) ++ f :: M)).map (tailE E) := by
    unfold takeC leftL
    rw [hg0, hg1, hg2, r1, hnt]
    have e1 : ((L1 ++ a :: b :: f :: M).map (tailE E)).take (L1.length + 1 - 1) = L1.map (tailE E) := by rw [List.map_append]; exact List.take_left' (by simp)
    have e2 : ((L1 ++ a :: b :: f :: M).map (tailE E)).drop (L1.length + 1 + 2) = M.map (tailE E) := by
      rw [show (L1 ++ a :: b :: f :: M).map (tailE E) = (L1 ++ [a, b, f]).map (tailE E) ++ M.map (tailE E) by simp]
      exact List.drop_left' (by simp)
    rw [e1, e2]
    simp [nearL]
  have hXr : ∀ u ∈ nearL E X, (0 ≤ u ∧ u < (A.length : Int)) ∧ u ∉ ord ∧ u ∉ (L1 ++ a :: b :: f :: M).map (tailE E) := fun u hu => by
    obtain ⟨d, hd, rfl⟩ := List.mem_map.1 hu
    exact ⟨head_in hV ((hm' d).1 (by simp [hd])).1.oth, hS.ins d hd⟩
  have hdf : isD E f := Fans.dart hP.fans f (by simp)
  refine ⟨L1, a, b, f, M, X, G, p, q, rfl, rfl, hg1, hS, hfr, ?_, htk, ?_⟩
  · unfold goodB
    rw [htk]
    unfold leftL
    rw [hg0, hg1, decide_eq_true r3, decide_eq_true (by omega), decide_eq_true]
    · rfl
    · have h1 := nodup_len hP.nd hrng
      have h2 : X.length + 2 ≤ A.length := by
        obtain ⟨v, hv, _, hvt⟩ := row_of hV hS.db.1 hS.db.2
        have hvn : (tailE E b).toNat = v := by omega
        rw [hvn] at r2
        have h3 := nodup_len ((near_nodup hV (trg_simple hT) hv).sublist (l₁ := restL st (nearL E (rowOf A v))) List.filter_sublist) (n := A.length) (fun u hu => by rw [hal]; exact nearL_bound hV hv u (List.mem_filter.1 hu).1)
        omega
      simp at h1 ⊢
      omega
  · have hw := head_in hV hS.db
    refine ⟨by rw [takeS_len]; exact hs.len, fun v hv => ?_⟩
    unfold takeS leftL
    rw [hg0, hg1, hg2, r1]
    have hTr : ∀ u ∈ tailE E a :: (nearL E X ++ [tailE E f]), (0 ≤ u ∧ u < (A.length : Int)) ∧ u ∉ ord ∧ u ≠ tailE E b := fun u hu => by
      have hb := (ends_in hP)
      rcases List.mem_cons.1 hu with rfl | hu
      · refine ⟨head_in hV hS.da, hP.ng a (by simp), fun k => ?_⟩
        have := hP.nd
        simp [List.nodup_append] at this
        exact this.2.1.1.1 k
      rcases List.mem_append.1 hu with hu | hu
      · exact ⟨(hXr u hu).1, (hXr u hu).2.1, fun k => (hXr u hu).2.2 (by rw [k]; simp)⟩
      · rw [List.mem_singleton.1 hu]
        refine ⟨head_in hV hdf, hP.ng f (by simp), fun k => ?_⟩
        have := hP.nd
        simp [List.nodup_append] at this
        exact this.2.1.2.1.1 k.symm
    have hwl : (tailE E b).toNat < (stOut st (tailE E a :: (nearL E X ++ [tailE E f]))).length := by rw [stOut_len, hs.len]; omega
    have hmem : ∀ u : Int, u ≠ tailE E b → (u ∈ (L1 ++ ((oth a :: X).map (thd A) ++ f :: M)).map (tailE E) ↔ u ∈ (L1 ++ a :: b :: f :: M).map (tailE E) ∨ u ∈ tailE E a :: (nearL E X ++ [tailE E f])) := fun u hu => by
      rw [hnt]
      show u ∈ L1.map (tailE E) ++ (tailE E a :: (nearL E X ++ (f :: M).map (tailE E))) ↔ _
      simp only [List.map_append, List.map_cons, List.mem_append, List.mem_cons, List.not_mem_nil, or_false]
      constructor
      · rintro (k | k | k | k | k) <;> simp [k]
      · rintro ((k | k | k | k | k) | k | k | k)
        · simp [k]
        · simp [k]
        · exact absurd k hu
        · simp [k]
        · simp [k]
        · simp [k]
        · simp [k]
        · simp [k]
    rw [RotP_set hwl]
    by_cases hvb : (tailE E b).toNat = v
    · have hvb' : (v : Int) = tailE E b := by omega
      rw [if_pos hvb, if_pos (by rw [hvb']; simp)]
    · have hvb' : (v : Int) ≠ tailE E b := by omega
      rw [if_neg hvb, stOut_ge _ _ (fun u hu => by rw [hs.len]; exact (hTr u hu).1), hs.val v hv]
      have ho : (v : Int) ∈ ord ++ [tailE E b] ↔ (v : Int) ∈ ord := by simp [hvb']
      by_cases h1 : (v : Int) ∈ tailE E a :: (nearL E X ++ [tailE E f])
      · rw [if_pos h1, if_neg (fun k => (hTr _ h1).2.1 (ho.1 k)), if_pos ((hmem _ hvb').2 (Or.inr h1))]
      · rw [if_neg h1]
        by_cases h2 : (v : Int) ∈ ord
        · rw [if_pos h2, if_pos (ho.2 h2)]
        · rw [if_neg h2, if_neg (fun k => h2 (ho.1 k))]
          by_cases h3 : (v : Int) ∈ (L1 ++ a :: b :: f :: M).map (tailE E)
          · rw [if_pos h3, if_pos ((hmem _ hvb').2 (Or.inl h3))]
          · rw [if_neg h3, if_neg (fun k => ((hmem _ hvb').1 k).elim h3 h1)]
end
end Go.Proofs.YtdacnkjmimhcaaaDoor

/- The peeling as the program does it, plain: a step back, and the end. -/
namespace Go.Proofs.YtdacnkjmimhcaaaDoor

section
variable {N : Int} {E : List (Int × Int)} {A : List (List Int)}
/-- A step over a stretch of the contour whose vertices, and no others, are joined with the new one. -/
theorem span_mid {P Z Q : List Int} {a z w : Int} (hm : ∀ u ∈ a :: (Z ++ [z]), joinB E u w = true) (hn : ∀ u, u ∈ P ∨ u ∈ Q → ¬ joinB E u w = true) :
    (stepI E (P ++ (a :: (Z ++ z :: Q))) w).length = Z.length + 2 ∧ spanF (P ++ (a :: (Z ++ z :: Q))) w (stepI E (P ++ (a :: (Z ++ z :: Q))) w) = some (P ++ a :: w :: z :: Q) := by
  have hJn : ((List.range' P.length (Z.length + 2)).map (fun i : Nat => (i : Int))).Nodup := by
    unfold List.Nodup
    rw [List.pairwise_map]
    exact (List.nodup_range' (s := P.length) (n := Z.length + 2)).imp (fun h e => h (by omega))
  have hmem : ∀ i, i ∈ stepI E (P ++ (a :: (Z ++ z :: Q))) w ↔ i ∈ (List.range' P.length (Z.length + 2)).map (fun i : Nat => (i : Int)) := fun i => by
    rw [stepI_mem, List.mem_map]
    constructor
    · rintro ⟨k, hk, hj, rfl⟩
      refine ⟨k, ?_, rfl⟩
      rw [List.mem_range'_1]
      refine ⟨Nat.le_of_not_lt fun h => ?_, Nat.lt_of_not_le fun h => ?_⟩
      · rw [geA_l _ h] at hj
        exact hn _ (Or.inl (ge_mem h)) hj
      · obtain ⟨s, rfl⟩ : ∃ s, k = (P ++ (a :: (Z ++ [z]))).length + s := ⟨k - (P ++ (a :: (Z ++ [z]))).length, by simp; omega⟩
        rw [show P ++ (a :: (Z ++ z :: Q)) = (P ++ (a :: (Z ++ [z]))) ++ Q by simp, geA_r] at hj
        exact hn _ (Or.inr (ge_mem (by simp at hk; omega))) hj
    · rintro ⟨k, hk, rfl⟩
      rw [List.mem_range'_1] at hk
      obtain ⟨s, rfl⟩ : ∃ s, k = P.length + s := ⟨k - P.length, by omega⟩
      refine ⟨P.length + s, by simp; omega, ?_, rfl⟩
      rw [geA_r, show a :: (Z ++ z :: Q) = (a :: (Z ++ [z])) ++ Q by simp, geA_l _ (by simp; omega)]
      exact hm _ (ge_mem (by simp; omega))
  obtain ⟨e1, e2⟩ := spanF_congr (C := P ++ (a :: (Z ++ z :: Q))) (w := w) (fun i hi => (stepI_pos hi).1) (stepI_nodup _ w) hJn hmem
  rw [e2, e1]
  have hJl : ((List.range' P.length (Z.length + 2)).map (fun i : Nat => (i : Int))).length = Z.length + 2 := by simp
  refine ⟨hJl, ?_⟩
  have hJ0 : ∀ i ∈ (List.range' P.length (Z.length + 2)).map (fun i : Nat => (i : Int)), (P.length : Int) ≤ i ∧ i ≤ P.length + Z.length + 1 := fun i hi => by
    obtain ⟨k, hk, rfl⟩ := List.mem_map.1 hi
    rw [List.mem_range'_1] at hk
    omega
  have hJe : (List.range' P.length (Z.length + 2)).map (fun i : Nat => (i : Int)) ≠ [] := fun e => by rw [e] at hJl; simp at hJl
  obtain ⟨l1, l2⟩ := lo_mem (fun i hi => by have := hJ0 i hi; omega) hJe
  obtain ⟨g1, g2⟩ := hi_mem (fun i hi => by have := hJ0 i hi; omega) hJe
  have l3 := l2 (P.length : Int) (List.mem_map.2 ⟨P.length, List.mem_range'_1.2 ⟨by omega, by omega⟩, rfl⟩)
  have g3 := g2 ((P.length + Z.length + 1 : Nat) : Int) (List.mem_map.2 ⟨P.length + Z.length + 1, List.mem_range'_1.2 ⟨by omega, by omega⟩, rfl⟩)
  have l4 := hJ0 _ l1
  have g4 := hJ0 _ g1
  have hlo : lo ((List.range' P.length (Z.length + 2)).map (fun i : Nat => (i : Int))) = P.length := by omega
  have hhi : hi ((List.range' P.length (Z.length + 2)).map (fun i : Nat => (i : Int))) = P.length + Z.length + 1 := by omega
  unfold spanF
  rw [hJl, hlo, hhi, if_neg (by omega)]
  have t1 : (P ++ (a :: (Z ++ z :: Q))).take ((P.length : Int) + 1).toNat = P ++ [a] := by
    rw [show ((P.length : Int) + 1).toNat = (P ++ [a]).length by simp, show P ++ (a :: (Z ++ z :: Q)) = (P ++ [a]) ++ (Z ++ z :: Q) by simp]
    exact List.take_left' rfl
  have t2 : (P ++ (a :: (Z ++ z :: Q))).drop ((P.length : Int) + Z.length + 1).toNat = z :: Q := by
    rw [show ((P.length : Int) + Z.length + 1).toNat = (P ++ a :: Z).length by simp; omega, show P ++ (a :: (Z ++ z :: Q)) = (P ++ a :: Z) ++ (z :: Q) by simp]
    exact List.drop_left' rfl
  rw [t1, t2]
  simp
/-- The canonical step gives the old contour again. -/
theorem step_back (hT : trgB N E A = true) {ord L1 M : List Int} {a b f : Int} (hP : Pee E A (· ∈ ord) (L1 ++ a :: b :: f :: M)) (hfr : ∀ d, isD E d → tailE E d = tailE E b → ∀ x, x ∈ L1 ∨ x ∈ M → tailE E (oth d) ≠ tailE E x)
    {X G p q : List Int} (hS : Spot E A (· ∈ ord) L1 a b f M X G p q) {S : List Int} (hSn : S.Nodup) (hSm : ∀ u, u ∈ S ↔ (0 ≤ u ∧ u < (A.length : Int)) ∧ u ∉ ord ∧ u ≠ tailE E b) :
    stepF E S ((L1 ++ ((oth a :: X).map (thd A) ++ f :: M)).map (tailE E)) (tailE E b) = some ((L1 ++ a :: b :: f :: M).map (tailE E)) := by
  have hV := trg_valid hT
  obtain ⟨hc, hn, hm⟩ := rot_row hV hS.db hS.row hS.rot (by simp)
  obtain ⟨e1, e2⟩ := near_rot hS
  obtain ⟨v, hv, _, hvt⟩ := row_of hV hS.db.1 hS.db.2
  have hvn : (tailE E b).toNat = v := by omega
  rw [hvn] at e1
  have hdf : isD E f := Fans.dart hP.fans f (by simp)
  have hnr : ∀ u, joinB E u (tailE E b) = true ↔ u ∈ tailE E a :: (nearL E X ++ tailE E f :: nearL E G) := fun u => by
    rw [← e2, hvt, ← near_mem hV hv, e1, List.mem_append, List.mem_append, or_comm]
  have hnn : (tailE E a :: (nearL E X ++ tailE E f :: nearL E G)).Nodup := by
    have := near_nodup hV (trg_simple hT) hv
    rw [e1] at this
    rw [← e2]
    exact (List.perm_append_comm.nodup_iff).1 this
  have hmn : (tailE E a :: (nearL E X ++ [tailE E f])).Nodup := hnn.sublist (List.Sublist.cons_cons _ (List.Sublist.append (List.Sublist.refl _) (List.Sublist.cons_cons _ (List.nil_sublist _))))
  have hmS : ∀ u ∈ tailE E a :: (nearL E X ++ [tailE E f]), (0 ≤ u ∧ u < (A.length : Int)) ∧ u ∉ ord ∧ u ≠ tailE E b := fun u hu => by
    have hnd := hP.nd
    simp [List.nodup_append] at hnd
    rcases List.mem_cons.1 hu with rfl | hu
    · exact ⟨head_in hV hS.da, hP.ng a (by simp), hnd.2.1.1.1⟩
    rcases List.mem_append.1 hu with hu | hu
    · obtain ⟨d, hd, rfl⟩ := List.mem_map.1 hu
      exact ⟨head_in hV ((hm d).1 (by simp [hd])).1.oth, (hS.ins d hd).1, fun k => (hS.ins d hd).2 (by rw [k]; simp)⟩
    · rw [List.mem_singleton.1 hu]
      exact ⟨head_in hV hdf, hP.ng f (by simp), fun k => hnd.2.1.2.1.1 k.symm⟩
  have hC : (L1 ++ ((oth a :: X).map (thd A) ++ f :: M)).map (tailE E) = L1.map (tailE E) ++ (tailE E a :: (nearL E X ++ tailE E f :: M.map (tailE E))) := new_tails hT hS
  rw [hC]
  obtain ⟨s1, s2⟩ := span_mid (E := E) (P := L1.map (tailE E)) (Z := nearL E X) (Q := M.map (tailE E)) (a := tailE E a) (z := tailE E f) (w := tailE E b) (fun u hu => (hnr u).2 (by
    rcases List.mem_cons.1 hu with k | k
    · simp [k]
    rcases List.mem_append.1 k with k | k
    · simp [k]
    · rw [List.mem_singleton.1 k]; simp)) (fun u hu hj => by
      rw [hvt] at hj
      obtain ⟨d, hd, rfl⟩ := List.mem_map.1 ((near_mem hV hv).2 hj)
      have hdr := mem_row hV hv hd
      have hx : ∃ x, (x ∈ L1 ∨ x ∈ M) ∧ tailE E x = tailE E (oth d) := by
        rcases hu with k | k
        · obtain ⟨x, hx, e⟩ := List.mem_map.1 k; exact ⟨x, Or.inl hx, e⟩
        · obtain ⟨x, hx, e⟩ := List.mem_map.1 k; exact ⟨x, Or.inr hx, e⟩
      obtain ⟨x, hx, e⟩ := hx
      exact hfr d ⟨hdr.1, hdr.2.1⟩ (hdr.2.2.trans hvt.symm) x hx e.symm)
  unfold stepF
  rw [s1, s2, if_neg]
  · simp
  · have hcount : S.countP (fun u => joinB E u (tailE E b)) = (tailE E a :: (nearL E X ++ [tailE E f])).length := by
      rw [List.countP_eq_length_filter]
      refine Nat.le_antisymm (List.Nodup.length_le_of_subset (hSn.sublist List.filter_sublist) fun u hu => ?_) (List.Nodup.length_le_of_subset hmn fun u hu => ?_)
      · rw [List.mem_filter] at hu
        have h1 := (hSm u).1 hu.1
        have h2 := (hnr u).1 hu.2
        simp only [List.mem_cons, List.mem_append, List.not_mem_nil, or_false] at h2 ⊢
        rcases h2 with k | k | k | k
        · exact Or.inl k
        · exact Or.inr (Or.inl k)
        · exact Or.inr (Or.inr k)
        · obtain ⟨d, hd, rfl⟩ := List.mem_map.1 k
          exact absurd (hS.out d hd) h1.2.1
      · rw [List.mem_filter]
        refine ⟨(hSm u).2 (hmS u hu), (hnr u).2 ?_⟩
        simp only [List.mem_cons, List.mem_append, List.not_mem_nil, or_false] at hu ⊢
        rcases hu with k | k | k
        · exact Or.inl k
        · exact Or.inr (Or.inl k)
        · exact Or.inr (Or.inr (Or.inl k))
    rw [hcount]
    simp [nearL]
/-- Three vertices are left, none inside the triangle: there are no others. -/
theorem fin_all (hT : trgB N E A = true) {ord : List Int} {a b : Int} (hP : Pee E A (· ∈ ord) [a, b, 1]) {G p q : List Int} (hS : Spot E A (· ∈ ord) [] a b 1 [] [] G p q) : ∀ u, 0 ≤ u → u < (A.length : Int) → u ∈ ord ∨ u = tailE E a ∨ u = tailE E b ∨ u = tailE E 1 := by
  have hV := trg_valid hT
  obtain ⟨h1a, hab, hb1, _⟩ := hP.fans
  have hd1 := hb1.2.1
  have hoa : tailE E (oth 1) = tailE E a := h1a.2.2.1
  obtain ⟨y1, y2, y3, y4, y5⟩ := thd_ok hT hS.da.oth
  rw [oth_oth] at y2 y4
  obtain ⟨hc, hn, hm⟩ := rot_row hV hS.db hS.row hS.rot (by simp)
  have hcs : sucF A (oth a) = b := by
    have hc' : Ch (sucF A) (oth a) ([] ++ b :: G) (oth a) := hc
    exact hc'.1
  rw [hcs] at y3 y5
  have hy : thd A (oth a) = oth 1 := dart_uniq hT y1 hd1.oth (y4.trans hoa.symm) (by rw [y5, oth_oth]; exact hS.tf)
  rw [hy] at y2 y3
  rw [oth_oth] at y3
  have hcl : ∀ d, isD E d → (tailE E d ∈ ord ∨ tailE E d = tailE E a ∨ tailE E d = tailE E b ∨ tailE E d = tailE E 1) → (tailE E (oth d) ∈ ord ∨ tailE E (oth d) = tailE E a ∨ tailE E (oth d) = tailE E b ∨ tailE E (oth d) = tailE E 1) := by
    intro d hd hk
    rcases hk with hk | hk | hk | hk
    · apply Classical.byContradiction
      intro hno
      simp only [not_or] at hno
      have := hP.inn (oth d) hd.oth hno.1 (by simp [hno.2])
      rw [oth_oth] at this
      exact this hk
    · obtain ⟨_, _, _, X, G', p', q', hr, hl, hX, hG⟩ := h1a
      obtain ⟨hc1, hn1, hm1⟩ := rot_row hV hS.da hr hl (by simp)
      have hX0 : X = [] := by
        cases X with
        | nil => rfl
        | cons x X =>
          exfalso
          have hc2 : Ch (sucF A) (oth 1) (x :: (X ++ a :: G')) (oth 1) := hc1
          have : x = a := hc2.1.symm.trans y2
          subst this
          rw [List.nodup_cons] at hn1
          have := hn1.2
          simp at this
      subst hX0
      have hd' : d = oth 1 ∨ d = a ∨ d ∈ G' := by simpa using (hm1 d).2 ⟨hd, hk⟩
      rcases hd' with k | k | k
      · rw [k, oth_oth]; simp
      · rw [k, hS.ta]; simp
      · exact Or.inl (hG d k)
    · have hd' : d = oth a ∨ d = b ∨ d ∈ G := by simpa using (hm d).2 ⟨hd, hk⟩
      rcases hd' with k | k | k
      · rw [k, oth_oth]; simp
      · rw [k, hS.tf]; simp
      · exact Or.inl (hS.out d k)
    · obtain ⟨_, _, _, X, G', p', q', hr, hl, hX, hG⟩ := hb1
      obtain ⟨hc1, hn1, hm1⟩ := rot_row hV hd1 hr hl (by simp)
      have hX0 : X = [] := by
        cases X with
        | nil => rfl
        | cons x X =>
          exfalso
          have hc2 : Ch (sucF A) (oth b) (x :: (X ++ 1 :: G')) (oth b) := hc1
          have : x = 1 := hc2.1.symm.trans y3
          subst this
          rw [List.nodup_cons] at hn1
          have := hn1.2
          simp at this
      subst hX0
      have hd' : d = oth b ∨ d = 1 ∨ d ∈ G' := by simpa using (hm1 d).2 ⟨hd, hk⟩
      rcases hd' with k | k | k
      · rw [k, oth_oth]; simp
      · rw [k, hoa]; simp
      · exact Or.inl (hG d k)
  have hcn : ∀ u v, Cn E E.length u v → (u ∈ ord ∨ u = tailE E a ∨ u = tailE E b ∨ u = tailE E 1) → (v ∈ ord ∨ v = tailE E a ∨ v = tailE E b ∨ v = tailE E 1) := by
    intro u v h
    induction h with
    | refl => exact fun h => h
    | step _ hj ih =>
      intro hu
      obtain ⟨d, d0, d1, d2, d3⟩ := dart_nbr hj
      have := hcl d ⟨d0, d1⟩ (by rw [d2]; exact ih hu)
      rwa [d3] at this
  intro u u0 u1
  have hcon := (chk_all (trg_chk hT)).2.1
  unfold connB at hcon
  have hall := (one_comp (E := E) (N := A.length) (by omega)).1 (of_decide_eq_true hcon)
  have ha := head_in hV hS.da
  have k1 := hall (tailE E a).toNat (by omega)
  have k2 := hall u.toNat (by omega)
  rw [show (((tailE E a).toNat : Nat) : Int) = tailE E a by omega] at k1
  rw [show ((u.toNat : Nat) : Int) = u by omega] at k2
  exact hcn _ _ (k1.symm.trans k2) (Or.inr (Or.inl rfl))
end
end Go.Proofs.YtdacnkjmimhcaaaDoor

/- The peeling answers, and what it answers is canonical: plain. -/
namespace Go.Proofs.YtdacnkjmimhcaaaDoor

theorem contR_app {E : List (Int × Int)} {O T : List Int} : ∀ {j : Nat}, j + 2 ≤ O.length → contR E (O ++ T) j = contR E O j
  | 0, h => by
    unfold contR
    rw [geA_l _ (by omega), geA_l _ (by omega)]
  | j + 1, h => by
    unfold contR
    rw [contR_app (j := j) (by omega), geA_l _ (by omega), List.take_append_of_le_length (by omega)]
section
variable {N : Int} {E : List (Int × Int)} {A : List (List Int)}
/-- What the peeling yields from a contour on: R behind ord. -/
structure Rest (E : List (Int × Int)) (A : List (List Int)) (ord R C : List Int) : Prop where
  nd : (ord ++ R).Nodup
  rng : ∀ u ∈ ord ++ R, 0 ≤ u ∧ u < (A.length : Int)
  v1 : tailE E 0 ∉ ord ++ R
  v2 : tailE E 1 ∉ ord ++ R
  all : ∀ u, 0 ≤ u → u < (A.length : Int) → u = tailE E 0 ∨ u = tailE E 1 ∨ u ∈ ord ++ R
  can : contR E (tailE E 0 :: tailE E 1 :: R.reverse) R.length = some C
theorem dart01 (hT : trgB N E A = true) : isD E 0 ∧ isD E 1 := by
  have := trg_pos hT
  unfold isD
  omega
theorem ends_01 (hT : trgB N E A = true) : tailE E 0 ≠ tailE E 1 := fun e => by
  have hV := trg_valid hT
  exact cho_ne hV (c := fun _ => tailE E 0) (s := 0) (t := 0) ⟨0, (dart01 hT).1, rfl, by show tailE E (oth 0) = tailE E 0; rw [show oth 0 = 1 by decide]; exact e.symm⟩ rfl
theorem Rest.back (hT : trgB N E A = true) {ord R L1 M : List Int} {a b f : Int} (hP : Pee E A (· ∈ ord) (L1 ++ a :: b :: f :: M)) (hfr : ∀ d, isD E d → tailE E d = tailE E b → ∀ x, x ∈ L1 ∨ x ∈ M → tailE E (oth d) ≠ tailE E x)
    {X G p q : List Int} (hS : Spot E A (· ∈ ord) L1 a b f M X G p q) (hR : Rest E A (ord ++ [tailE E b]) R ((L1 ++ ((oth a :: X).map (thd A) ++ f :: M)).map (tailE E))) :
    Rest E A ord (tailE E b :: R) ((L1 ++ a :: b :: f :: M).map (tailE E)) := by
  have hV := trg_valid hT
  have e : ord ++ tailE E b :: R = ord ++ [tailE E b] ++ R := by simp
  obtain ⟨r1, r2, r3, r4, r5, r6⟩ := hR
  refine ⟨by rw [e]; exact r1, by rw [e]; exact r2, by rw [e]; exact r3, by rw [e]; exact r4, by rw [e]; exact r5, ?_⟩
  have hOl : (tailE E 0 :: tailE E 1 :: R.reverse).length = R.length + 2 := by simp
  rw [List.reverse_cons, List.length_cons, ← List.cons_append, ← List.cons_append]
  unfold contR
  rw [contR_app (by omega), r6, Option.bind_some, List.take_left' hOl]
  have hg : ge (tailE E 0 :: tailE E 1 :: R.reverse ++ [tailE E b]) (R.length + 2) = tailE E b := by rw [← hOl]; exact ge_mid _ [] _
  rw [hg]
  have h01 := ends_01 hT
  have n1 := r1
  rw [List.nodup_append] at n1
  refine step_back hT hP hfr hS ?_ fun u => ?_
  · refine List.nodup_cons.2 ⟨fun k => ?_, List.nodup_cons.2 ⟨fun k => ?_, ?_⟩⟩
    · rcases List.mem_cons.1 k with k | k
      · exact h01 k
      · exact r3 (List.mem_append_right _ (List.mem_reverse.1 k))
    · exact r4 (List.mem_append_right _ (List.mem_reverse.1 k))
    · exact ((List.reverse_perm R).nodup_iff).2 n1.2.1
  · rw [List.mem_cons, List.mem_cons, List.mem_reverse]
    constructor
    · rintro (k | k | k)
      · rw [k]
        exact ⟨head_in hV (dart01 hT).1, fun h => r3 (by simp [h]), fun h => r3 (by simp [h])⟩
      · rw [k]
        exact ⟨head_in hV (dart01 hT).2, fun h => r4 (by simp [h]), fun h => r4 (by simp [h])⟩
      · exact ⟨r2 u (List.mem_append_right _ k), fun h => n1.2.2 u (List.mem_append_left _ h) u k rfl, fun h => n1.2.2 (tailE E b) (by simp) u k h.symm⟩
    · rintro ⟨h1, h2, h3⟩
      rcases r5 u h1.1 h1.2 with k | k | k
      · exact Or.inl k
      · exact Or.inr (Or.inl k)
      · simp only [List.mem_append, List.mem_singleton] at k
        rcases k with (k | k) | k
        · exact absurd k h2
        · exact absurd k h3
        · exact Or.inr (Or.inr k)
theorem peel_done {st C ord : List Int} (h : C.length ≤ 2) (f : Nat) : peelF E A f st C ord = some ord := by
  unfold peelF
  rw [if_pos h]
theorem peel_more {st C ord : List Int} {f : Nat} (h : ¬ C.length ≤ 2) (hg : goodB E A st C (pickN E A st C C.length 1) = true) :
    peelF E A (f + 1) st C ord = peelF E A f (takeS st C (leftL E A st C (pickN E A st C C.length 1)) (pickN E A st C C.length 1)) (takeC C (leftL E A st C (pickN E A st C C.length 1)) (pickN E A st C C.length 1)) (ord ++ [ge C (pickN E A st C C.length 1)]) := by
  rw [peelF, if_neg h]
  rw [if_pos hg]
/-- The peeling ends. -/
theorem peel_loop (hT : trgB N E A = true) (hN : A.length ≤ 40) : ∀ (n : Nat) {D st ord : List Int}, Pee E A (· ∈ ord) D → Sta A st (D.map (tailE E)) ord → 3 ≤ D.length → ord.Nodup → (∀ u ∈ ord, 0 ≤ u ∧ u < (A.length : Int)) → A.length ≤ ord.length + n →
    ∀ f, n ≤ f → ∃ w R, w ∈ D.map (tailE E) ∧ peelF E A f st (D.map (tailE E)) ord = some (ord ++ w :: R) ∧ Rest E A ord (w :: R) (D.map (tailE E)) := by
  intro n
  induction n with
  | zero =>
    intro D st ord hP hs hm hn hr hl
    exfalso
    have hV := trg_valid hT
    obtain ⟨L, hL⟩ := hP.last
    have h1 : (1 : Int) ∈ D := by rw [hL]; simp
    have := nodup_len (l := ord ++ [tailE E 1]) (n := A.length) (List.nodup_append.2 ⟨hn, by simp, fun a ha b hb e => by rw [List.mem_singleton.1 hb] at e; exact hP.ng 1 h1 (e ▸ ha)⟩) (fun u hu => by
      rcases List.mem_append.1 hu with k | k
      · exact hr u k
      · rw [List.mem_singleton.1 k]; exact head_in hV (dart01 hT).2)
    simp at this
    omega
  | succ n ih =>
    intro D st ord hP hs hm hn hr hl f hf
    obtain ⟨f, rfl⟩ : ∃ g, f = g + 1 := ⟨f - 1, by omega⟩
    have hV := trg_valid hT
    obtain ⟨L1, a, b, e, M, X, G, p, q, rfl, hpk, hgb, hS, hfr, hgood, htk, hs'⟩ := peel_step hT hN hP hs hm
    have hlen : ((L1 ++ a :: b :: e :: M).map (tailE E)).length = (L1 ++ a :: b :: e :: M).length := List.length_map ..
    rw [peel_more (by omega) (by rw [hpk]; exact hgood), hpk, htk, hgb]
    have hbm : tailE E b ∈ (L1 ++ a :: b :: e :: M).map (tailE E) := mem_tails (by simp)
    have hbo : tailE E b ∉ ord := hP.ng b (by simp)
    have hn' : (ord ++ [tailE E b]).Nodup := List.nodup_append.2 ⟨hn, by simp, fun x hx y hy k => by rw [List.mem_singleton.1 hy] at k; exact hbo (k ▸ hx)⟩
    have hr' : ∀ u ∈ ord ++ [tailE E b], 0 ≤ u ∧ u < (A.length : Int) := fun u hu => by
      rcases List.mem_append.1 hu with k | k
      · exact hr u k
      · rw [List.mem_singleton.1 k]; exact head_in hV hS.db
    by_cases hne : L1 ≠ [] ∨ M ≠ [] ∨ X ≠ []
    · have hP' := pee_take (go' := fun x => x ∈ ord ++ [tailE E b]) hT hP hfr hS (fun x => by simp) hne
      have hm' : 3 ≤ (L1 ++ ((oth a :: X).map (thd A) ++ e :: M)).length := by
        simp only [List.length_append, List.length_cons, List.length_map]
        rcases hne with k | k | k <;> have := List.length_pos_iff.2 k <;> omega
      obtain ⟨w, R, hw, hp, hR⟩ := ih hP' hs' hm' hn' hr' (by rw [List.length_append, List.length_singleton]; omega) f (by omega)
      exact ⟨tailE E b, w :: R, hbm, by rw [hp]; simp, hR.back hT hP hfr hS⟩
    · simp only [not_or, Classical.not_not] at hne
      obtain ⟨rfl, rfl, rfl⟩ := hne
      have hends := ends_in hP
      have he1 : e = 1 := hends.2.2.2.2.2 rfl
      subst he1
      have hta := hends.2.2.2.2.1 rfl
      have hC : ([] ++ ((oth a :: []).map (thd A) ++ (1 : Int) :: [])).map (tailE E) = [tailE E 0, tailE E 1] := by
        rw [new_tails hT hS]
        simp [hta]
      rw [hC]
      refine ⟨tailE E b, [], hbm, peel_done (by simp) f, ?_⟩
      refine Rest.back hT hP hfr hS ?_
      rw [hC]
      have hall := fin_all hT hP hS
      refine ⟨by rw [List.append_nil]; exact hn', by rw [List.append_nil]; exact hr', ?_, ?_, ?_, rfl⟩
      · rw [List.append_nil, List.mem_append, List.mem_singleton]
        rintro (k | k)
        · rw [← hta] at k; exact hP.ng a (by simp) k
        · exact hends.2.2.1 k
      · rw [List.append_nil, List.mem_append, List.mem_singleton]
        rintro (k | k)
        · exact hP.ng 1 (by simp) k
        · exact hends.2.2.2.1 k
      · intro u u0 u1
        rw [List.append_nil, List.mem_append, List.mem_singleton]
        rcases hall u u0 u1 with k | k | k | k
        · exact Or.inr (Or.inr (Or.inl k))
        · exact Or.inl (k.trans hta)
        · exact Or.inr (Or.inr (Or.inr k))
        · exact Or.inr (Or.inl k)
theorem fan_start (hT : trgB N E A = true) {a b : Int} (ha : isD E a) (hb : isD E b) (ht : tailE E (oth a) = tailE E b) (hs : sucF A b = oth a) (hne : tailE E (oth b) ≠ tailE E a) : Fan E A (· ∈ ([] : List Int)) a b := by
  have hV := trg_valid hT
  obtain ⟨v, hv, hm, hvt⟩ := row_of hV hb.1 hb.2
  have hvn : (tailE E b).toNat = v := by omega
  obtain ⟨v', hv', hm', hvt'⟩ := row_of hV ha.oth.1 ha.oth.2
  have : v' = v := by omega
  subst this
  obtain ⟨p, q, hpq⟩ := List.append_of_mem hm'
  obtain ⟨hc, hn, hmm⟩ := rot_row hV hb (p := p) (q := oth a :: q) (by rw [hvn]; exact hpq) rfl (by simp)
  rw [List.cons_append] at hc hn hmm
  have hbm := (hmm b).2 ⟨hb, rfl⟩
  have hbne : b ≠ oth a := fun k => hne (by rw [k, oth_oth])
  have hc' : Ch (sucF A) (oth a) ((q ++ p) ++ oth a :: []) (oth a) → True := fun _ => trivial
  rcases List.mem_cons.1 hbm with k | k
  · exact absurd k hbne
  obtain ⟨X, G, hXG⟩ := List.append_of_mem k
  have hG : G = [] := by
    cases G with
    | nil => rfl
    | cons g G =>
      exfalso
      rw [hXG] at hc hn
      have hc2 : Ch (sucF A) (oth a) (X ++ b :: (g :: G)) (oth a) := hc
      have hg : sucF A b = g := (Ch.app.1 hc2).2.1
      rw [hs] at hg
      rw [List.nodup_cons] at hn
      exact hn.1 (by rw [hg]; simp)
  subst hG
  refine ⟨ha, hb, ht, X, [], p, oth a :: q, by rw [hvn]; exact hpq, by rw [List.cons_append, hXG], fun d _ h => (by cases h), fun d hd => (by cases hd)⟩
/-- The start of the peeling. -/
theorem pee_start (hT : trgB N E A = true) : Pee E A (· ∈ ([] : List Int)) [oth (nxF A (nxF A 0)), oth (nxF A 0), 1] ∧ [oth (nxF A (nxF A 0)), oth (nxF A 0), 1].map (tailE E) = peel0 N E A := by
  have hV := trg_valid hT
  have hE := trg_pos hT
  obtain ⟨i0, i1⟩ := dart01 hT
  obtain ⟨d0, d1⟩ := nxF_in hV (e := 0) (by omega) (by omega)
  obtain ⟨f0, f1⟩ := nxF_in hV d0 d1
  have hx : isD E (nxF A 0) := ⟨d0, d1⟩
  have hy : isD E (nxF A (nxF A 0)) := ⟨f0, f1⟩
  have tx : tailE E (nxF A 0) = tailE E 1 := by unfold nxF; rw [show oth 0 = 1 by decide, suc_tail hV i1.1 i1.2]
  have ty : tailE E (nxF A (nxF A 0)) = tailE E (oth (nxF A 0)) := by
    show tailE E (sucF A (oth (nxF A 0))) = _
    rw [suc_tail hV hx.oth.1 hx.oth.2]
  have tz : tailE E (oth (nxF A (nxF A 0))) = tailE E 0 := by
    have := tri_next hT
    have h2 : tailE E (sucF A (oth (nxF A (nxF A 0)))) = tailE E 0 := by
      show tailE E (nxF A (nxF A (nxF A 0))) = _
      rw [this]
    rw [suc_tail hV hy.oth.1 hy.oth.2] at h2
    exact h2
  have n01 := ends_01 hT
  have nx : tailE E (nxF A 0) ≠ tailE E (oth (nxF A 0)) := fun e => cho_ne hV (c := fun _ => tailE E (nxF A 0)) (s := 0) (t := 0) ⟨_, hx, rfl, e.symm⟩ rfl
  have ny : tailE E (nxF A (nxF A 0)) ≠ tailE E (oth (nxF A (nxF A 0))) := fun e => cho_ne hV (c := fun _ => tailE E (nxF A (nxF A 0))) (s := 0) (t := 0) ⟨_, hy, rfl, e.symm⟩ rfl
  have hC : [oth (nxF A (nxF A 0)), oth (nxF A 0), 1].map (tailE E) = [tailE E 0, tailE E (nxF A (nxF A 0)), tailE E 1] := by
    show [tailE E _, tailE E _, tailE E _] = _
    rw [tz, ty]
  have hC0 : [tailE E 0, tailE E (nxF A (nxF A 0)), tailE E 1] = peel0 N E A := by
    unfold peel0 thirdF
    have e0 : tailF N E A 0 = tailE E 0 := by unfold tailF; rw [if_pos ⟨vRotB_iff.2 hV, by omega, by omega⟩]
    have e1 : tailF N E A 1 = tailE E 1 := by unfold tailF; rw [if_pos ⟨vRotB_iff.2 hV, by omega, by omega⟩]
    have h0 : nextF N E A 0 = nxF A 0 := by unfold nextF; rw [if_pos ⟨vRotB_iff.2 hV, by omega, by omega⟩]; rfl
    have h1 : nextF N E A (nxF A 0) = nxF A (nxF A 0) := by unfold nextF; rw [if_pos ⟨vRotB_iff.2 hV, d0, d1⟩]; rfl
    rw [e0, e1, h0, h1]
    unfold tailF
    rw [if_pos ⟨vRotB_iff.2 hV, f0, f1⟩]
  refine ⟨⟨⟨?_, ?_, ?_, trivial⟩, ⟨[oth (nxF A (nxF A 0)), oth (nxF A 0)], rfl⟩, ?_, fun d _ h => (by cases h), fun d _ _ _ h => (by cases h)⟩, hC.trans hC0⟩
  · refine fan_start hT i1 hy.oth (by rw [oth_1, tz]) ?_ ?_
    · rw [oth_1]; exact tri_next hT
    · rw [oth_oth, ty, ← tx]; exact nx.symm
  · refine fan_start hT hy.oth hx.oth (by rw [oth_oth]; exact ty) (by rw [oth_oth]; rfl) ?_
    rw [oth_oth, tx, tz]; exact n01.symm
  · refine fan_start hT hx.oth i1 (by rw [oth_oth]; exact tx) (by rw [oth_oth]; rfl) ?_
    rw [oth_1, ← tz, ← ty]; exact ny.symm
  · rw [hC]
    have a1 : tailE E 0 ≠ tailE E (nxF A (nxF A 0)) := by rw [← tz]; exact ny.symm
    have a2 : tailE E (nxF A (nxF A 0)) ≠ tailE E 1 := by rw [ty, ← tx]; exact nx.symm
    simp [a1, a2, n01]
theorem sta_start (hT : trgB N E A = true) : Sta A (stOut (List.replicate A.length 0) (peel0 N E A)) (peel0 N E A) [] := by
  have hV := trg_valid hT
  have hal := hV.al
  obtain ⟨t1, t2, t3⟩ := trg_tails hT
  refine ⟨by rw [stOut_len]; simp, fun v hv => ?_⟩
  rw [stOut_ge _ _ (fun u hu => by
    unfold peel0 at hu
    simp only [List.mem_cons, List.not_mem_nil, or_false] at hu
    rw [List.length_replicate]
    rcases hu with rfl | rfl | rfl <;> omega)]
  rw [if_neg (show ¬ ((v : Int) ∈ ([] : List Int)) by simp)]
  split
  · rfl
  · unfold ge; simp [hv]
/-- The order that the program returns is canonical. -/
theorem peel_can (hT : trgB N E A = true) (hN : A.length ≤ 40) : ∃ R, peelF E A 90 (stOut (List.replicate A.length 0) (peel0 N E A)) (peel0 N E A) [] = some R ∧ chkR N E A ((R ++ [tailF N E A 1, tailF N E A 0]).reverse) = true := by
  have hV := trg_valid hT
  have hal := hV.al
  have hE := trg_pos hT
  have h3 := trg_three hT
  obtain ⟨hP, hC⟩ := pee_start hT
  have hs := sta_start hT
  rw [← hC] at hs
  obtain ⟨w, R, hw, hp, hR⟩ := peel_loop hT hN A.length hP hs (by simp) (by simp) (fun u hu => by cases hu) (by simp) 90 (by omega)
  rw [hC] at hp hw hR
  refine ⟨w :: R, hp, ?_⟩
  have e0 : tailF N E A 0 = tailE E 0 := by unfold tailF; rw [if_pos ⟨vRotB_iff.2 hV, by omega, by omega⟩]
  have e1 : tailF N E A 1 = tailE E 1 := by unfold tailF; rw [if_pos ⟨vRotB_iff.2 hV, by omega, by omega⟩]
  obtain ⟨r1, r2, r3, r4, r5, r6⟩ := hR
  rw [List.nil_append] at r1 r2 r3 r4
  simp only [List.nil_append] at r5
  have hw2 : w = thirdF N E A := by
    unfold peel0 at hw
    simp only [List.mem_cons, List.not_mem_nil, or_false] at hw
    rcases hw with k | k | k
    · exact absurd (by rw [← e0, ← k]; simp) r3
    · exact k
    · exact absurd (by rw [← e1, ← k]; simp) r4
  obtain ⟨O, hO⟩ : ∃ O, (w :: R ++ [tailF N E A 1, tailF N E A 0]).reverse = O := ⟨_, rfl⟩
  have hO' : O = tailE E 0 :: tailE E 1 :: (w :: R).reverse := by rw [← hO, e0, e1]; simp
  have h01 := ends_01 hT
  have hnd : O.Nodup := by
    rw [hO']
    refine List.nodup_cons.2 ⟨fun k => ?_, List.nodup_cons.2 ⟨fun k => ?_, ((List.reverse_perm (w :: R)).nodup_iff).2 r1⟩⟩
    · rcases List.mem_cons.1 k with k | k
      · exact h01 k
      · exact r3 (List.mem_reverse.1 k)
    · exact r4 (List.mem_reverse.1 k)
  have hmem : ∀ u, u ∈ O ↔ 0 ≤ u ∧ u < (A.length : Int) := fun u => by
    rw [hO', List.mem_cons, List.mem_cons, List.mem_reverse]
    constructor
    · rintro (k | k | k)
      · rw [k]; exact head_in hV (dart01 hT).1
      · rw [k]; exact head_in hV (dart01 hT).2
      · exact r2 u k
    · rintro ⟨k1, k2⟩
      exact r5 u k1 k2
  have hOl : O.length = A.length := Nat.le_antisymm (nodup_len hnd (fun u hu => (hmem u).1 hu)) (by
    have := List.Nodup.length_le_of_subset (idL_nodup A.length) (l₂ := O) (fun u hu => (hmem u).2 (mem_idL.1 hu))
    rwa [idL_len] at this)
  rw [hO, chkR_iff]
  have hRl : R.length + 3 = A.length := by rw [← hOl, hO']; simp
  refine ⟨hT, by omega, ⟨by rw [List.take_length]; exact hnd, fun u hu => by rw [List.take_length] at hu; have := (hmem u).1 hu; omega⟩, ⟨by rw [hO', e0]; rfl, by rw [hO', e1]; rfl, ?_⟩, ?_⟩
  · rw [third_same hT, ← hw2, hO', show (N - 1).toNat = (tailE E 0 :: tailE E 1 :: R.reverse).length by simp; omega, List.reverse_cons, ← List.cons_append, ← List.cons_append]
    exact ge_mid _ [] _
  · rw [hO', show (N - 2).toNat = (w :: R).length by simp; omega, r6]
    rfl
end
end Go.Proofs.YtdacnkjmimhcaaaDoor
