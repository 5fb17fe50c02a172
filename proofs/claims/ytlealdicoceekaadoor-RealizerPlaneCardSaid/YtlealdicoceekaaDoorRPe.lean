/- Joined by a program from the texts JorAll SchA ReaA ReaB ReaC ReaD OwnR. -/
import Derived.Test.YtlealdicoceekaaDoorRPd
import Derived.Laws.MakeOwn
/- The peeling of a planar triangulation always finds a free vertex, and the order that it leaves is canonical: plain mathematics. -/
/- Edges taken out of a rotation system, its darts keeping their numbers: the count of components, faces and lone vertices. -/
set_option linter.unusedSimpArgs false
set_option linter.unusedVariables false
namespace Go.Proofs.YtlealdicoceekaaDoor

/-! ### Connected without some edges -/
inductive Cs (E : List (Int × Int)) (L : List Nat) (u : Int) : Int → Prop
  | refl : Cs E L u u
  | step {v w : Int} (i : Nat) : Cs E L u v → i < E.length → i ∉ L → (((pr E i).1 = v ∧ (pr E i).2 = w) ∨ ((pr E i).2 = v ∧ (pr E i).1 = w)) → Cs E L u w
section
variable {E : List (Int × Int)} {L : List Nat}
theorem Cs.trans {u v w : Int} (h : Cs E L u v) (k : Cs E L v w) : Cs E L u w := by
  induction k with
  | refl => exact h
  | step i _ hi hL hn ih => exact ih.step i hi hL hn
theorem Cs.one {v w : Int} (i : Nat) (hi : i < E.length) (hL : i ∉ L) (hn : ((pr E i).1 = v ∧ (pr E i).2 = w) ∨ ((pr E i).2 = v ∧ (pr E i).1 = w)) : Cs E L v w := Cs.refl.step i hi hL hn
theorem Cs.symm {u v : Int} (h : Cs E L u v) : Cs E L v u := by
  induction h with
  | refl => exact Cs.refl
  | step i _ hi hL hn ih =>
    refine (Cs.one i hi hL ?_).trans ih
    rcases hn with h | h
    · exact Or.inr ⟨h.2, h.1⟩
    · exact Or.inl ⟨h.2, h.1⟩
theorem Cs.nil {u v : Int} : Cs E [] u v ↔ Cn E E.length u v := by
  constructor
  · intro h
    induction h with
    | refl => exact Cn.refl _
    | step i _ hi _ hn ih => exact ih.step ⟨i, hi, hn⟩
  · intro h
    induction h with
    | refl => exact Cs.refl
    | step _ hn ih => obtain ⟨i, hi, hn⟩ := hn; exact ih.step i hi (by simp) hn
theorem Cs.del {e : Nat} {u v : Int} (h : Cs E L u v) :
    Cs E (e :: L) u v ∨ (Cs E (e :: L) u (pr E e).1 ∧ Cs E (e :: L) (pr E e).2 v) ∨ (Cs E (e :: L) u (pr E e).2 ∧ Cs E (e :: L) (pr E e).1 v) := by
  induction h with
  | refl => exact Or.inl Cs.refl
  | step i _ hi hL hn ih =>
    by_cases hie : i = e
    · subst hie
      rcases hn with ⟨rfl, rfl⟩ | ⟨rfl, rfl⟩
      · rcases ih with h | ⟨h, _⟩ | ⟨h, _⟩
        · exact Or.inr (Or.inl ⟨h, Cs.refl⟩)
        · exact Or.inr (Or.inl ⟨h, Cs.refl⟩)
        · exact Or.inl h
      · rcases ih with h | ⟨h, _⟩ | ⟨h, _⟩
        · exact Or.inr (Or.inr ⟨h, Cs.refl⟩)
        · exact Or.inl h
        · exact Or.inr (Or.inr ⟨h, Cs.refl⟩)
    · have hL' : i ∉ e :: L := fun hm => by
        rcases List.mem_cons.1 hm with h | h
        · exact hie h
        · exact hL h
      rcases ih with h | ⟨h, h2⟩ | ⟨h, h2⟩
      · exact Or.inl (h.step i hi hL' hn)
      · exact Or.inr (Or.inl ⟨h, h2.step i hi hL' hn⟩)
      · exact Or.inr (Or.inr ⟨h, h2.step i hi hL' hn⟩)
def isS (E : List (Int × Int)) (L : List Nat) (v : Nat) : Prop := ∀ u : Int, 0 ≤ u → u < v → ¬ Cs E L u v
noncomputable def cntS (E : List (Int × Int)) (L : List Nat) (n : Nat) : Nat := cntP (isS E L) n
theorem cntS_nil (n : Nat) : cntS E [] n = cntL E n := by
  unfold cntS cntL
  exact cntP_congr fun v _ => ⟨fun h u h0 h1 hc => h u h0 h1 (Cs.nil.2 hc), fun h u h0 h1 hc => h u h0 h1 (Cs.nil.1 hc)⟩
theorem leadS_eq {v w : Nat} (hv : isS E L v) (hw : isS E L w) (h : Cs E L v w) : v = w := by
  rcases Nat.lt_trichotomy v w with hl | hl | hl
  · exact absurd h (hw v (by omega) (by omega))
  · exact hl
  · exact absurd h.symm (hv w (by omega) (by omega))
theorem not_leadS {v : Nat} (h : ¬ isS E L v) : ∃ u : Int, 0 ≤ u ∧ u < v ∧ Cs E L u v := by
  apply Classical.byContradiction
  intro hn
  exact h fun u h0 h1 hc => hn ⟨u, h0, h1, hc⟩
theorem compS_del (e : Nat) (N : Nat) : cntS E (e :: L) N ≤ cntS E L N + 1 := by
  unfold cntS
  refine cntP_one fun v w _ _ pv qv pw qw => ?_
  obtain ⟨u, u0, u1, hu⟩ := not_leadS qv
  obtain ⟨u', u0', u1', hu'⟩ := not_leadS qw
  rcases Cs.del (e := e) hu with h | ⟨h1, h2⟩ | ⟨h1, h2⟩
  · exact absurd h (pv u u0 u1)
  · rcases Cs.del (e := e) hu' with h | ⟨h3, h4⟩ | ⟨h3, h4⟩
    · exact absurd h (pw u' u0' u1')
    · exact leadS_eq pv pw (h2.symm.trans h4)
    · exfalso
      have k1 : ¬ u < w := fun hl => pw u u0 hl (h1.trans h4)
      have k2 : ¬ u' < v := fun hl => pv u' u0' hl (h3.trans h2)
      omega
  · rcases Cs.del (e := e) hu' with h | ⟨h3, h4⟩ | ⟨h3, h4⟩
    · exact absurd h (pw u' u0' u1')
    · exfalso
      have k1 : ¬ u < w := fun hl => pw u u0 hl (h1.trans h4)
      have k2 : ¬ u' < v := fun hl => pv u' u0' hl (h3.trans h2)
      omega
    · exact leadS_eq pv pw (h2.symm.trans h4)
theorem compS_keep {e : Nat} (N : Nat) (h : Cs E (e :: L) (pr E e).2 (pr E e).1) : cntS E (e :: L) N ≤ cntS E L N := by
  unfold cntS
  refine cntP_mono fun v _ pv u u0 u1 hu => ?_
  rcases Cs.del (e := e) hu with h0 | ⟨h1, h2⟩ | ⟨h1, h2⟩
  · exact pv u u0 u1 h0
  · exact pv u u0 u1 ((h1.trans h.symm).trans h2)
  · exact pv u u0 u1 ((h1.trans h).trans h2)
end

/-! ### The darts that are left -/
def skS (σ : Int → Int) (e : Nat) (y : Int) : Int := if y = 2 * (e : Int) then σ (2 * e) else if y = 2 * (e : Int) + 1 then σ (2 * e + 1) else y
/-- The dart behind a dart, some edges taken out. -/
def sucL (A : List (List Int)) : List Nat → Int → Int
  | [], d => sucF A d
  | e :: L, d => skS (sucL A L) e (sucL A L d)
def facL (A : List (List Int)) (L : List Nat) (y : Int) : Int := sucL A L (oth y)
def offB (L : List Nat) (d : Int) : Bool := L.all fun e => decide (d / 2 ≠ (e : Int))
theorem off_iff {L : List Nat} {d : Int} : offB L d = true ↔ ∀ e ∈ L, d / 2 ≠ (e : Int) := by
  unfold offB
  simp only [List.all_eq_true, decide_eq_true_iff]
theorem off_oth {L : List Nat} {d : Int} : offB L (oth d) = offB L d := by unfold offB; rw [oth_half]
theorem off_cons {L : List Nat} {e : Nat} {d : Int} : offB (e :: L) d = (decide (d / 2 ≠ (e : Int)) && offB L d) := rfl
def rowL (A : List (List Int)) (L : List Nat) (v : Nat) : List Int := (rowOf A v).filter (offB L)
theorem rowL_cons (A : List (List Int)) (L : List Nat) (e v : Nat) : rowL A (e :: L) v = (rowL A L v).filter (fun d => decide (d / 2 ≠ (e : Int))) := by
  unfold rowL
  rw [List.filter_filter]
  rfl
theorem mem_rowL {A : List (List Int)} {L : List Nat} {v : Nat} {d : Int} : d ∈ rowL A L v ↔ d ∈ rowOf A v ∧ offB L d = true := List.mem_filter
theorem skS_id {σ : Int → Int} {e : Nat} {y : Int} (h : y / 2 ≠ (e : Int)) : skS σ e y = y := by unfold skS; rw [if_neg (by omega), if_neg (by omega)]
theorem skS_at {σ : Int → Int} {e : Nat} {y : Int} (h : y / 2 = (e : Int)) : skS σ e y = σ y := by
  unfold skS
  by_cases h1 : y = 2 * (e : Int)
  · rw [if_pos h1, h1]
  · rw [if_neg h1, if_pos (by omega), show 2 * (e : Int) + 1 = y by omega]

/-- A cycle, one element taken out. -/
theorem cyc_skip {σ : Int → Int} {e : Nat} {l : List Int} (hc : Cyc σ l) (hn : l.Nodup) (h1 : ∀ c ∈ l, ∀ c' ∈ l, c / 2 = (e : Int) → c' / 2 = (e : Int) → c = c') (h0 : l.filter (fun d => decide (d / 2 ≠ (e : Int))) ≠ []) :
    Cyc (fun d => skS σ e (σ d)) (l.filter (fun d => decide (d / 2 ≠ (e : Int)))) := by
  by_cases hx : ∃ c ∈ l, c / 2 = (e : Int)
  · obtain ⟨c, hcl, hce⟩ := hx
    obtain ⟨u, v, rfl, hcy⟩ := hc.start hcl
    rw [List.nodup_append, List.nodup_cons] at hn
    have hu : ∀ d ∈ u, d / 2 ≠ (e : Int) := fun d hd he => hn.2.2 d hd c (by simp) (h1 d (by simp [hd]) c (by simp) he hce)
    have hv : ∀ d ∈ v, d / 2 ≠ (e : Int) := fun d hd he => by
      have := h1 d (by simp [hd]) c (by simp) he hce
      exact hn.2.1.1 (this ▸ hd)
    have hf : (u ++ c :: v).filter (fun d => decide (d / 2 ≠ (e : Int))) = u ++ v := by
      rw [List.filter_append, List.filter_cons, if_neg (by simp [hce]), List.filter_eq_self.2 (fun d hd => by simpa using hu d hd), List.filter_eq_self.2 (fun d hd => by simpa using hv d hd)]
    rw [hf] at h0 ⊢
    refine Cyc.rot (u := v) (v := u) ?_
    have hvu : ∀ d ∈ v ++ u, d / 2 ≠ (e : Int) := fun d hd => by
      rcases List.mem_append.1 hd with h | h
      · exact hv d h
      · exact hu d h
    cases hl : v ++ u with
    | nil =>
      exfalso
      rw [List.append_eq_nil_iff] at hl
      exact h0 (by rw [hl.1, hl.2]; rfl)
    | cons y t =>
      rw [hl] at hcy hvu
      obtain ⟨e1, e2⟩ : σ c = y ∧ Ch σ y t c := hcy
      have := Ch.sk (g := fun d => skS σ e (σ d)) (sk := skS σ e) (fun _ _ => rfl) (fun z hz => skS_id (hvu z (List.mem_cons_of_mem _ hz))) e2
      rw [skS_at hce, e1] at this
      exact this
  · have hno : ∀ d ∈ l, d / 2 ≠ (e : Int) := fun d hd he => hx ⟨d, hd, he⟩
    rw [List.filter_eq_self.2 (fun d hd => by simpa using hno d hd)]
    cases l with
    | nil => exact hc.elim
    | cons y t =>
      have := Ch.sk (g := fun d => skS σ e (σ d)) (sk := skS σ e) (fun _ _ => rfl) (fun z hz => skS_id (hno z (List.mem_cons_of_mem _ hz))) hc
      rw [skS_id (hno y (by simp))] at this
      exact this

section
variable {N : Int} {E : List (Int × Int)} {A : List (List Int)}
theorem row_one (hV : vRot N E A) {v : Nat} (hv : v < A.length) {c c' : Int} (h : c ∈ rowOf A v) (h' : c' ∈ rowOf A v) {e : Nat} (k : c / 2 = (e : Int)) (k' : c' / 2 = (e : Int)) : c = c' := by
  apply Classical.byContradiction
  intro hne
  have t1 := mem_row hV hv h
  have t2 := mem_row hV hv h'
  have he : e < E.length := by omega
  have hends := ends_ne hV he
  rcases (by omega : (c = 2 * (e : Int) ∧ c' = 2 * (e : Int) + 1) ∨ (c = 2 * (e : Int) + 1 ∧ c' = 2 * (e : Int))) with ⟨a, b⟩ | ⟨a, b⟩
  · rw [a] at t1; rw [b] at t2; exact hends (by rw [t1.2.2, t2.2.2])
  · rw [a] at t1; rw [b] at t2; exact hends (by rw [t1.2.2, t2.2.2])
theorem rowL_cyc (hV : vRot N E A) {v : Nat} (hv : v < A.length) : ∀ {L : List Nat}, rowL A L v ≠ [] → Cyc (sucL A L) (rowL A L v)
  | [], h0 => by
    have e : rowL A [] v = rowOf A v := List.filter_eq_self.2 (fun _ _ => rfl)
    rw [e] at h0 ⊢
    exact row_cyc hV hv h0
  | e :: L, h0 => by
    rw [rowL_cons] at h0 ⊢
    have h1 : rowL A L v ≠ [] := fun h => by rw [h] at h0; exact h0 rfl
    exact cyc_skip (rowL_cyc hV hv h1) ((row_nodup hV hv).filter _) (fun c hc c' hc' k k' => row_one hV hv (mem_rowL.1 hc).1 (mem_rowL.1 hc').1 k k') h0
/-- The darts of the edges that are left. -/
def DL (E : List (Int × Int)) (L : List Nat) (y : Int) : Prop := (0 ≤ y ∧ y < 2 * (E.length : Int)) ∧ offB L y = true
theorem DL.oth {L : List Nat} {y : Int} (h : DL E L y) : DL E L (oth y) := ⟨oth_in h.1.1 h.1.2, by rw [off_oth]; exact h.2⟩
theorem DL.row (hV : vRot N E A) {L : List Nat} {y : Int} (h : DL E L y) : ∃ v, v < A.length ∧ y ∈ rowL A L v ∧ tailE E y = v := by
  obtain ⟨v, hv, hm, ht⟩ := row_of hV h.1.1 h.1.2
  exact ⟨v, hv, mem_rowL.2 ⟨hm, h.2⟩, ht⟩
theorem rowL_DL (hV : vRot N E A) {L : List Nat} {v : Nat} (hv : v < A.length) {y : Int} (h : y ∈ rowL A L v) : DL E L y ∧ tailE E y = v := by
  obtain ⟨h1, h2⟩ := mem_rowL.1 h
  have := mem_row hV hv h1
  exact ⟨⟨⟨this.1, this.2.1⟩, h2⟩, this.2.2⟩
theorem sucL_in (hV : vRot N E A) {L : List Nat} {y : Int} (h : DL E L y) : DL E L (sucL A L y) ∧ tailE E (sucL A L y) = tailE E y := by
  obtain ⟨v, hv, hm, ht⟩ := h.row hV
  have := rowL_DL hV hv ((rowL_cyc hV hv (List.ne_nil_of_mem hm)).img hm)
  rw [ht]
  exact this
theorem facL_tail (hV : vRot N E A) {L : List Nat} {y : Int} (h : DL E L y) : DL E L (facL A L y) ∧ tailE E (facL A L y) = tailE E (oth y) := sucL_in hV h.oth
end
end Go.Proofs.YtlealdicoceekaaDoor

/- Edges taken out of a planar rotation system: components, faces and lone vertices. -/
namespace Go.Proofs.YtlealdicoceekaaDoor

section
variable {N : Int} {E : List (Int × Int)} {A : List (List Int)}
theorem off_not {L : List Nat} {e : Nat} (hL : e ∉ L) {d : Int} (hd : d / 2 = e) : offB L d = true := off_iff.2 fun e' he' h => by
  have h2 : e' = e := by omega
  exact hL (h2 ▸ he')
noncomputable def isoS (A : List (List Int)) (L : List Nat) : Nat := cntP (fun u => rowL A L u = []) A.length
theorem row_alone (hV : vRot N E A) {L : List Nat} {v : Nat} (hv : v < A.length) {c : Int} (hc : c ∈ rowL A L v) (hs : sucL A L c = c) : rowL A L v = [c] := by
  have hn : (rowL A L v).Nodup := (row_nodup hV hv).filter _
  obtain ⟨p, q, hl, hcy⟩ := (rowL_cyc hV hv (List.ne_nil_of_mem hc)).start hc
  cases hqp : q ++ p with
  | nil =>
    rw [List.append_eq_nil_iff] at hqp
    rw [hl, hqp.1, hqp.2]
    rfl
  | cons y t =>
    exfalso
    rw [hqp] at hcy
    obtain ⟨e1, _⟩ : sucL A L c = y ∧ Ch (sucL A L) y t c := hcy
    rw [hl, List.nodup_append, List.nodup_cons] at hn
    have hy : y ∈ q ++ p := by rw [hqp]; simp
    rw [← e1, hs] at hy
    rcases List.mem_append.1 hy with h | h
    · exact hn.2.1.1 h
    · exact hn.2.2 c h c (by simp) rfl
theorem iso_step (hV : vRot N E A) {L : List Nat} {e : Nat} (he : e < E.length) (hL : e ∉ L) : isoS A L + ((if facL A L (2 * e) = 2 * e + 1 then 1 else 0) + (if facL A L (2 * e + 1) = 2 * e then 1 else 0)) ≤ isoS A (e :: L) := by
  have oa : oth (2 * (e : Int)) = 2 * e + 1 := oth_a e
  have ob : oth (2 * (e : Int) + 1) = 2 * e := oth_b e
  have off : ∀ d : Int, d / 2 = e → offB L d = true := fun d hd => off_not hL hd
  obtain ⟨va, hva, ha, ta⟩ := DL.row hV (L := L) (y := 2 * (e : Int)) ⟨by omega, off _ (by omega)⟩
  obtain ⟨vb, hvb, hb, tb⟩ := DL.row hV (L := L) (y := 2 * (e : Int) + 1) ⟨by omega, off _ (by omega)⟩
  have hne : va ≠ vb := fun h => ends_ne hV he (by rw [ta, tb, h])
  have hpa : ¬ rowL A L va = [] := List.ne_nil_of_mem ha
  have hpb : ¬ rowL A L vb = [] := List.ne_nil_of_mem hb
  unfold isoS
  rw [← Nat.add_assoc, Nat.add_right_comm, Nat.add_assoc, Nat.add_comm (if facL A L (2 * (e : Int) + 1) = 2 * e then 1 else 0), ← Nat.add_assoc,
    ← cntP_add (p := fun u => rowL A L u = []) (x := vb) (P := facL A L (2 * e) = 2 * e + 1) hpb hvb,
    ← cntP_add (p := fun u => rowL A L u = [] ∨ (u = vb ∧ facL A L (2 * e) = 2 * e + 1)) (x := va) (P := facL A L (2 * e + 1) = 2 * e) (fun h => h.elim hpa (fun h => hne h.1)) hva]
  refine cntP_mono fun u _ h => ?_
  rw [rowL_cons]
  rcases h with (h | ⟨rfl, h⟩) | ⟨rfl, h⟩
  · rw [h]; rfl
  · unfold facL at h
    rw [oa] at h
    rw [row_alone hV hvb hb h]
    simp
    omega
  · unfold facL at h
    rw [ob] at h
    rw [row_alone hV hva ha h]
    simp

theorem face_cs (hV : vRot N E A) {L : List Nat} {e : Nat} : ∀ {t : List Int} {x z : Int}, (∀ y ∈ x :: t, DL E L y ∧ y / 2 ≠ (e : Int)) → Ch (facL A L) x t z → Cs E (e :: L) (tailE E x) (tailE E z) := by
  have one : ∀ y : Int, DL E L y → y / 2 ≠ (e : Int) → Cs E (e :: L) (tailE E y) (tailE E (facL A L y)) := fun y hy he => by
    rw [(facL_tail hV hy).2]
    refine Cs.one (y / 2).toNat (by have := hy.1; omega) (fun hm => ?_) ?_
    · rcases List.mem_cons.1 hm with h | h
      · have := hy.1; omega
      · exact off_iff.1 hy.2 _ h (by have := hy.1; omega)
    · unfold tailE oth
      by_cases h2 : y % 2 = 0
      · rw [if_pos h2, if_pos h2, if_neg (by omega), show ((y + 1) / 2) = y / 2 by omega]
        exact Or.inl ⟨rfl, rfl⟩
      · rw [if_neg h2, if_neg h2, if_pos (by omega), show ((y - 1) / 2) = y / 2 by omega]
        exact Or.inr ⟨rfl, rfl⟩
  intro t
  induction t with
  | nil =>
    intro x z hx hc
    have h := hx x (by simp)
    have hc' : facL A L x = z := hc
    rw [← hc']
    exact one x h.1 h.2
  | cons y t ih =>
    intro x z hx hc
    obtain ⟨h1, h2⟩ := hc
    have h := hx x (by simp)
    have := one x h.1 h.2
    rw [h1] at this
    exact this.trans (ih (fun y hy => hx y (List.mem_cons_of_mem _ hy)) h2)

/-- What stays of Euler's equation. -/
def Sub (N : Int) (E : List (Int × Int)) (A : List (List Int)) (L : List Nat) : Prop :=
  ∃ M, Dec (DL E L) (facL A L) M ∧ 2 * (cntS E L A.length : Int) + E.length ≤ N + L.length + M.length + isoS A L
theorem DL_cons {L : List Nat} {e : Nat} {y : Int} : (DL E L y ∧ y ≠ 2 * (e : Int) ∧ y ≠ 2 * (e : Int) + 1) ↔ DL E (e :: L) y := by
  unfold DL
  rw [off_cons, Bool.and_eq_true, decide_eq_true_iff]
  constructor
  · rintro ⟨⟨h1, h2⟩, h3, h4⟩
    exact ⟨h1, by omega, h2⟩
  · rintro ⟨h1, h2, h3⟩
    exact ⟨⟨h1, h3⟩, by omega, by omega⟩
theorem sub_step (hV : vRot N E A) {L : List Nat} {e : Nat} (he : e < E.length) (hL : e ∉ L) (h : Sub N E A L) : Sub N E A (e :: L) := by
  obtain ⟨M0, hD, hle⟩ := h
  have hiso := iso_step hV he hL
  have oa : oth (2 * (e : Int)) = 2 * e + 1 := oth_a e
  have ob : oth (2 * (e : Int) + 1) = 2 * e := oth_b e
  have off : ∀ d : Int, d / 2 = e → offB L d = true := fun d hd => off_not hL hd
  have da : DL E L (2 * (e : Int)) := ⟨by omega, off _ (by omega)⟩
  have db : DL E L (2 * (e : Int) + 1) := ⟨by omega, off _ (by omega)⟩
  have hsk : ∀ y : Int, y ≠ 2 * (e : Int) → y ≠ 2 * (e : Int) + 1 → skS (sucL A L) e y = y := fun y h1 h2 => by unfold skS; rw [if_neg h1, if_neg h2]
  have hka : skS (sucL A L) e (2 * e) = facL A L (2 * e + 1) := by unfold skS facL; rw [if_pos rfl, ob]
  have hkb : skS (sucL A L) e (2 * e + 1) = facL A L (2 * e) := by unfold skS facL; rw [if_neg (by omega), if_pos rfl, oa]
  obtain ⟨t, M, h1, hM⟩ := hD.at (x := 2 * (e : Int)) da
  by_cases hb : (2 * (e : Int) + 1) ∈ t
  · obtain ⟨L', h2, h3⟩ := h1.del_one (g := facL A (e :: L)) hb hsk hka hkb (fun _ _ _ _ => rfl)
    refine ⟨L', h2.congr fun y => DL_cons, ?_⟩
    have := compS_del (E := E) (L := L) e A.length
    rw [List.length_cons]
    omega
  · have hbt : (2 * (e : Int) + 1) ∉ (2 * (e : Int)) :: t := fun h => by
      rcases List.mem_cons.1 h with h | h
      · omega
      · exact hb h
    obtain ⟨u, M2, h2, hM2⟩ := h1.tail.at (x := 2 * (e : Int) + 1) ⟨db, hbt⟩
    have hn := h1.nd
    rw [List.flatten_cons, List.nodup_append] at hn
    have h3 : Dec (DL E L) (facL A L) (((2 * (e : Int)) :: t) :: ((2 * (e : Int) + 1) :: u) :: M2) := by
      refine (h2.cons (l := (2 * (e : Int)) :: t) (h1.cyc _ (by simp)) hn.1 (fun x hx h => h.2 hx)).congr fun x => ⟨fun h => ?_, fun h => ?_⟩
      · rcases h with h | h
        · exact h.1
        · exact (h1.mem x).1 (by rw [List.flatten_cons]; exact List.mem_append_left _ h)
      · by_cases hx : x ∈ (2 * (e : Int)) :: t
        · exact Or.inr hx
        · exact Or.inl ⟨h, hx⟩
    have hfa : facL A L (2 * e) ≠ 2 * e := fun h => by
      have := (facL_tail hV da).2
      rw [h, oa] at this
      exact ends_ne hV he this
    have hfb : facL A L (2 * e + 1) ≠ 2 * e + 1 := fun h => by
      have := (facL_tail hV db).2
      rw [h, ob] at this
      exact ends_ne hV he this.symm
    obtain ⟨L', h4, h5⟩ := h3.del_two (g := facL A (e :: L)) hsk hka hkb hfa hfb (fun _ _ _ _ => rfl)
    have hcy : Cyc (facL A L) ((2 * (e : Int)) :: t) := h1.cyc _ (by simp)
    have hk : cntS E (e :: L) A.length ≤ cntS E L A.length := by
      refine compS_keep _ ?_
      cases t with
      | nil => exact absurd hcy hfa
      | cons x t =>
        obtain ⟨c1, c2⟩ : facL A L (2 * e) = x ∧ Ch (facL A L) x t (2 * e) := hcy
        have hin : ∀ y ∈ x :: t, DL E L y ∧ y / 2 ≠ (e : Int) := fun y hy => by
          have hyD := (h1.mem y).1 (by rw [List.flatten_cons]; exact List.mem_append_left _ (List.mem_cons_of_mem _ hy))
          have hy1 : y ≠ 2 * e + 1 := fun h => hb (h ▸ hy)
          have hy2 : y ≠ 2 * e := fun h => by
            rw [List.nodup_cons] at hn
            exact hn.1.1 (h ▸ hy)
          exact ⟨hyD, by omega⟩
        have := face_cs hV hin c2
        rw [tail_a] at this
        have ht : tailE E x = (pr E e).2 := by
          rw [← c1, (facL_tail hV da).2, oa, tail_b]
        rw [ht] at this
        exact this
    refine ⟨L', h4.congr fun y => DL_cons, ?_⟩
    rw [List.length_cons]
    omega
theorem sub_nil (hV : vRot N E A) (hg : genusF N E A = 0) : Sub N E A [] := by
  have hx := (gen_main _ rfl hV).1
  rw [genus_eq hV] at hg
  have hh : (genX N E A).tdiv 2 * 2 = genX N E A := by
    obtain ⟨k, hk⟩ : ∃ k, genX N E A = 2 * k := ⟨genX N E A / 2, by omega⟩
    rw [hk, Int.mul_tdiv_cancel_left _ (by decide)]
    omega
  have hr : ∀ v, rowL A [] v = rowOf A v := fun v => List.filter_eq_self.2 (fun _ _ => rfl)
  refine ⟨facesF A (2 * E.length), (fac_dec hV).congr fun x => ⟨fun h => ⟨h, rfl⟩, fun h => h.1⟩, ?_⟩
  have hI : isoS A [] = isoN A := by
    unfold isoS isoN
    exact cntP_congr fun v _ => by rw [hr, List.length_eq_zero_iff]
  rw [cntS_nil, hI, List.length_nil]
  unfold genX at hh hg
  omega
theorem sub_all (hV : vRot N E A) (hg : genusF N E A = 0) : ∀ {L : List Nat}, L.Nodup → (∀ e ∈ L, e < E.length) → Sub N E A L
  | [], _, _ => sub_nil hV hg
  | e :: L, hn, hL => by
    rw [List.nodup_cons] at hn
    exact sub_step hV (hL e (by simp)) hn.1 (sub_all hV hg hn.2 fun e' he' => hL e' (List.mem_cons_of_mem _ he'))
end
end Go.Proofs.YtlealdicoceekaaDoor

/- Two chords inside a ring do not cross in a planar rotation system. -/
namespace Go.Proofs.YtlealdicoceekaaDoor

/-! ### Counting -/
open Classical in
theorem cntP_list (p : Nat → Prop) : ∀ n, cntP p n = ((List.range n).filter (fun v => decide (p v))).length
  | 0 => rfl
  | n + 1 => by
    rw [List.range_succ, List.filter_append, List.length_append, ← cntP_list p n]
    simp only [cntP]
    by_cases h : p n
    · simp [h]
    · simp [h]
theorem cntP_most {p : Nat → Prop} {n : Nat} {S : List Nat} (hn : S.Nodup) (h : ∀ v ∈ S, v < n ∧ ¬ p v) : cntP p n + S.length ≤ n := by
  classical
  rw [cntP_list]
  have : ((List.range n).filter (fun v => decide (p v)) ++ S).Nodup := by
    rw [List.nodup_append]
    refine ⟨List.nodup_range.filter _, hn, fun a ha b hb e => ?_⟩
    subst e
    exact (h a hb).2 (of_decide_eq_true (List.mem_filter.1 ha).2)
  have h2 := List.Nodup.length_le_of_subset this (l₂ := List.range n) (fun x hx => by
    rcases List.mem_append.1 hx with hx | hx
    · exact (List.mem_filter.1 hx).1
    · exact List.mem_range.2 (h x hx).1)
  rw [List.length_append, List.length_range] at h2
  exact h2
theorem cntP_least {p : Nat → Prop} {n : Nat} {S : List Nat} (h : ∀ v, v < n → ¬ p v → v ∈ S) : n ≤ cntP p n + S.length := by
  classical
  rw [cntP_list, ← List.length_append]
  have := List.Nodup.length_le_of_subset (List.nodup_range (n := n)) (l₂ := (List.range n).filter (fun v => decide (p v)) ++ S) (fun x hx => by
    by_cases e : p x
    · exact List.mem_append_left _ (List.mem_filter.2 ⟨hx, decide_eq_true e⟩)
    · exact List.mem_append_right _ (h x (List.mem_range.1 hx) e))
  rwa [List.length_range] at this

/-! ### Two cycles -/
theorem dec_none {D : Int → Prop} {f : Int → Int} {M : List (List Int)} (h : Dec D f M) (h0 : ∀ x, ¬ D x) : M = [] := by
  cases M with
  | nil => rfl
  | cons l M =>
    exfalso
    have hc := h.cyc l (by simp)
    cases l with
    | nil => exact hc
    | cons x t => exact h0 x ((h.mem x).1 (by simp))
theorem dec_two {D : Int → Prop} {f : Int → Int} {M : List (List Int)} (h : Dec D f M) {a b : Int} (ha : D a) (hab : ∀ S : Int → Prop, (∀ x, D x → S x → S (f x)) → ∀ x, D x → (S a → S b → S x)) : M.length ≤ 2 := by
  have hcl : ∀ (t : List Int) (K : List (List Int)), Dec D f (t :: K) → ∀ x, D x → x ∈ t → f x ∈ t := fun t K hd x _ hx => (hd.cyc t (by simp)).img hx
  obtain ⟨t, K, h1, hK⟩ := h.at ha
  by_cases hb : D b ∧ b ∉ a :: t
  · obtain ⟨u, K2, h2, hK2⟩ := h1.tail.at hb
    have : K2 = [] := dec_none h2.tail fun x hx => by
      have hS := hab (fun y => y ∈ a :: t ∨ y ∈ b :: u) (fun y _ hy => by
        rcases hy with hy | hy
        · exact Or.inl (hcl _ _ h1 y ((h1.mem y).1 (by rw [List.flatten_cons]; exact List.mem_append_left _ hy)) hy)
        · exact Or.inr ((h2.cyc _ (by simp)).img hy)) x hx.1.1 (Or.inl (by simp)) (Or.inr (by simp))
      rcases hS with h | h
      · exact hx.1.2 h
      · exact hx.2 h
    subst this
    simp at hK2
    omega
  · have : K = [] := dec_none h1.tail fun x hx => by
      have hbt : b ∈ a :: t ∨ ¬ D b := by
        by_cases e : D b
        · exact Or.inl (Classical.byContradiction fun h => hb ⟨e, h⟩)
        · exact Or.inr e
      have hS := hab (fun y => y ∈ a :: t ∨ ¬ D y) (fun y hy h => by
        rcases h with h | h
        · exact Or.inl (hcl _ _ h1 y hy h)
        · exact absurd hy h) x hx.1 (Or.inl (by simp)) hbt
      rcases hS with h | h
      · exact hx.2 h
      · exact h hx.1
    subst this
    simp at hK
    omega

/-! ### The ring -/
def up (m t : Nat) : Nat := if t + 1 = m then 0 else t + 1
def dn (m t : Nat) : Nat := if t = 0 then m - 1 else t - 1
theorem up_lt {m t : Nat} (h : t < m) : up m t < m := by unfold up; split <;> omega
theorem dn_lt {m t : Nat} (h : t < m) : dn m t < m := by unfold dn; split <;> omega
theorem dn_up {m t : Nat} (h : t < m) : dn m (up m t) = t := by unfold up dn; split <;> split <;> omega

/-- A ring of vertices; at each, the darts behind the one to the next and ahead of the one to the vertex before lead outside. -/
structure Ring (E : List (Int × Int)) (A : List (List Int)) (m : Nat) (c R : Nat → Int) : Prop where
  inj : ∀ s t, s < m → t < m → c s = c t → s = t
  inA : ∀ t, t < m → 0 ≤ c t ∧ c t < A.length
  rd : ∀ t, t < m → 0 ≤ R t ∧ R t < 2 * (E.length : Int)
  tl : ∀ t, t < m → tailE E (R t) = c t
  hd : ∀ t, t < m → tailE E (oth (R t)) = c (up m t)
  gap : ∀ t, t < m → ∃ X G p q, rowOf A (c t).toNat = p ++ q ∧ q ++ p = oth (R (dn m t)) :: (X ++ R t :: G) ∧ ∀ d ∈ G, ∀ s, s < m → tailE E (oth d) ≠ c s

section
variable {N : Int} {E : List (Int × Int)} {A : List (List Int)} {m : Nat} {c R : Nat → Int}
theorem half_cases {d d' : Int} (h : d / 2 = d' / 2) : d = d' ∨ d = oth d' := by unfold oth; split <;> omega
/-- The edges of the ring and two more. -/
def keepL (m : Nat) (R : Nat → Int) (x y : Int) : List Nat := (x / 2).toNat :: (y / 2).toNat :: (List.range m).map fun t => (R t / 2).toNat
def offL (E : List (Int × Int)) (m : Nat) (R : Nat → Int) (x y : Int) : List Nat := (List.range E.length).filter fun e => decide (e ∉ keepL m R x y)
theorem off_keep {x y d : Int} (hx : 0 ≤ x) (hy : 0 ≤ y) (hR : ∀ t, t < m → 0 ≤ R t) (h0 : 0 ≤ d) (h1 : d < 2 * (E.length : Int)) : offB (offL E m R x y) d = true ↔ d / 2 = x / 2 ∨ d / 2 = y / 2 ∨ ∃ t, t < m ∧ d / 2 = R t / 2 := by
  rw [off_iff]
  constructor
  · intro h
    apply Classical.byContradiction
    intro hn
    refine h (d / 2).toNat (List.mem_filter.2 ⟨List.mem_range.2 (by omega), decide_eq_true ?_⟩) (by omega)
    intro hm
    unfold keepL at hm
    rcases List.mem_cons.1 hm with e | hm
    · exact hn (Or.inl (by omega))
    · rcases List.mem_cons.1 hm with e | hm
      · exact hn (Or.inr (Or.inl (by omega)))
      · obtain ⟨t, ht, e⟩ := List.mem_map.1 hm
        have := hR t (List.mem_range.1 ht)
        have e' : (R t / 2).toNat = (d / 2).toNat := e
        exact hn (Or.inr (Or.inr ⟨t, List.mem_range.1 ht, by omega⟩))
  · intro h e he hde
    have hm := of_decide_eq_true (List.mem_filter.1 he).2
    refine hm ?_
    unfold keepL
    rcases h with h | h | ⟨t, ht, h⟩
    · exact List.mem_cons.2 (Or.inl (by omega))
    · exact List.mem_cons.2 (Or.inr (List.mem_cons.2 (Or.inl (by omega))))
    · exact List.mem_cons_of_mem _ (List.mem_cons_of_mem _ (List.mem_map.2 ⟨t, List.mem_range.2 ht, by omega⟩))
end
end Go.Proofs.YtlealdicoceekaaDoor

/- Two chords inside a ring do not cross: the faces of the ring with two crossing chords. -/
namespace Go.Proofs.YtlealdicoceekaaDoor

theorem single_of {l : List Int} {a : Int} (hn : l.Nodup) (ha : a ∈ l) (h : ∀ d ∈ l, d = a) : l = [a] := by
  cases l with
  | nil => cases ha
  | cons b t =>
    have hb := h b (by simp)
    subst hb
    cases t with
    | nil => rfl
    | cons d t =>
      have := h d (by simp)
      subst this
      rw [List.nodup_cons] at hn
      exact absurd (List.mem_cons_self ..) hn.1

/-- A ring and two crossing chords. -/
structure Crs (E : List (Int × Int)) (A : List (List Int)) (m : Nat) (c R : Nat → Int) (x y : Int) (p0 p1 p2 p3 : Nat) : Prop extends Ring E A m c R where
  l1 : p0 < p1
  l2 : p1 < p2
  l3 : p2 < p3
  l4 : p3 < m
  xd : 0 ≤ x ∧ x < 2 * (E.length : Int)
  yd : 0 ≤ y ∧ y < 2 * (E.length : Int)
  xt : tailE E x = c p0
  xh : tailE E (oth x) = c p2
  yt : tailE E y = c p1
  yh : tailE E (oth y) = c p3

section
variable {N : Int} {E : List (Int × Int)} {A : List (List Int)} {m : Nat} {c R : Nat → Int} {x y : Int} {p0 p1 p2 p3 : Nat}
theorem Crs.kept (h : Crs E A m c R x y p0 p1 p2 p3) {d : Int} (h0 : 0 ≤ d) (h1 : d < 2 * (E.length : Int)) (ho : offB (offL E m R x y) d = true) :
    (∃ t, t < m ∧ (d = R t ∨ d = oth (R t))) ∨ d = x ∨ d = oth x ∨ d = y ∨ d = oth y := by
  rcases (off_keep h.xd.1 h.yd.1 (fun t ht => (h.rd t ht).1) h0 h1).1 ho with k | k | ⟨t, ht, k⟩
  · rcases half_cases k with e | e
    · exact Or.inr (Or.inl e)
    · exact Or.inr (Or.inr (Or.inl e))
  · rcases half_cases k with e | e
    · exact Or.inr (Or.inr (Or.inr (Or.inl e)))
    · exact Or.inr (Or.inr (Or.inr (Or.inr e)))
  · exact Or.inl ⟨t, ht, half_cases k⟩
theorem Crs.keep_R (h : Crs E A m c R x y p0 p1 p2 p3) {t : Nat} (ht : t < m) : DL E (offL E m R x y) (R t) :=
  ⟨h.rd t ht, (off_keep h.xd.1 h.yd.1 (fun t ht => (h.rd t ht).1) (h.rd t ht).1 (h.rd t ht).2).2 (Or.inr (Or.inr ⟨t, ht, rfl⟩))⟩
theorem Crs.keep_x (h : Crs E A m c R x y p0 p1 p2 p3) : DL E (offL E m R x y) x :=
  ⟨h.xd, (off_keep h.xd.1 h.yd.1 (fun t ht => (h.rd t ht).1) h.xd.1 h.xd.2).2 (Or.inl rfl)⟩
theorem Crs.keep_y (h : Crs E A m c R x y p0 p1 p2 p3) : DL E (offL E m R x y) y :=
  ⟨h.yd, (off_keep h.xd.1 h.yd.1 (fun t ht => (h.rd t ht).1) h.yd.1 h.yd.2).2 (Or.inr (Or.inl rfl))⟩
/-- Both ends of a kept edge lie on the ring. -/
theorem Crs.on (h : Crs E A m c R x y p0 p1 p2 p3) {d : Int} (h0 : 0 ≤ d) (h1 : d < 2 * (E.length : Int)) (ho : offB (offL E m R x y) d = true) : (∃ s, s < m ∧ tailE E d = c s) ∧ ∃ s, s < m ∧ tailE E (oth d) = c s := by
  have := h.l1; have := h.l2; have := h.l3; have := h.l4
  rcases h.kept h0 h1 ho with ⟨t, ht, e | e⟩ | e | e | e | e <;> subst e
  · exact ⟨⟨t, ht, h.tl t ht⟩, _, up_lt ht, h.hd t ht⟩
  · rw [oth_oth]; exact ⟨⟨_, up_lt ht, h.hd t ht⟩, t, ht, h.tl t ht⟩
  · exact ⟨⟨p0, by omega, h.xt⟩, p2, by omega, h.xh⟩
  · rw [oth_oth]; exact ⟨⟨p2, by omega, h.xh⟩, p0, by omega, h.xt⟩
  · exact ⟨⟨p1, by omega, h.yt⟩, p3, by omega, h.yh⟩
  · rw [oth_oth]; exact ⟨⟨p3, by omega, h.yh⟩, p1, by omega, h.yt⟩

/-- The darts at a vertex of the ring. -/
theorem Crs.at (hV : vRot N E A) (h : Crs E A m c R x y p0 p1 p2 p3) {t : Nat} (ht : t < m) : ∃ X : List Int, Cyc (sucL A (offL E m R x y)) (oth (R (dn m t)) :: (X ++ [R t])) ∧ X.Nodup ∧
    (∀ d ∈ X, (d = x ∧ t = p0) ∨ (d = oth x ∧ t = p2) ∨ (d = y ∧ t = p1) ∨ (d = oth y ∧ t = p3)) ∧
    ∀ d o, DL E (offL E m R x y) d → tailE E d = c t → o < m → tailE E (oth d) = c o → o ≠ up m t → o ≠ dn m t → d ∈ X := by
  obtain ⟨X, G, p, q, hrow, hqp, hG⟩ := h.gap t ht
  have hin := h.inA t ht
  obtain ⟨v, hv⟩ : ∃ v : Nat, (c t).toNat = v := ⟨_, rfl⟩
  have hcv : c t = (v : Int) := by omega
  rw [hv] at hrow
  have hvA : v < A.length := by omega
  have hdn := dn_lt ht
  have hnd : (q ++ p).Nodup := by
    have := row_nodup hV hvA
    rw [hrow] at this
    exact (List.perm_append_comm.nodup_iff).1 this
  have hmem : ∀ d, d ∈ q ++ p ↔ d ∈ rowOf A v := fun d => by rw [hrow, List.mem_append, List.mem_append]; exact or_comm
  rw [hqp] at hnd
  simp only [List.nodup_cons, List.nodup_append, List.mem_append, List.mem_cons, not_or] at hnd
  obtain ⟨⟨n1, n2, n3⟩, n4, ⟨n5, n6⟩, n7⟩ := hnd
  have kl : offB (offL E m R x y) (oth (R (dn m t))) = true := (h.keep_R hdn).oth.2
  have kr := (h.keep_R ht).2
  have hGf : G.filter (offB (offL E m R x y)) = [] := List.filter_eq_nil_iff.2 fun d hd ho => by
    have hdr := (hmem d).1 (by rw [hqp]; simp [hd])
    have := mem_row hV hvA hdr
    obtain ⟨_, s, hs, e⟩ := h.on this.1 this.2.1 ho
    exact hG d hd s hs e
  have hf : (q ++ p).filter (offB (offL E m R x y)) = oth (R (dn m t)) :: (X.filter (offB (offL E m R x y)) ++ [R t]) := by
    rw [hqp, List.filter_cons, if_pos kl, List.filter_append, List.filter_cons, if_pos kr, hGf]
  have hrL : rowL A (offL E m R x y) v = p.filter (offB (offL E m R x y)) ++ q.filter (offB (offL E m R x y)) := by unfold rowL; rw [hrow, List.filter_append]
  have hne : rowL A (offL E m R x y) v ≠ [] := List.ne_nil_of_mem (mem_rowL.2 ⟨(hmem (R t)).1 (by rw [hqp]; simp), kr⟩)
  have hcy := rowL_cyc hV hvA hne
  rw [hrL] at hcy
  have hcy := hcy.rot
  rw [← List.filter_append, hf] at hcy
  refine ⟨X.filter (offB (offL E m R x y)), hcy, n4.filter _, fun d hd => ?_, fun d o hd htl ho hho hu hd' => ?_⟩
  · obtain ⟨hdX, ho⟩ := List.mem_filter.1 hd
    have hdr := (hmem d).1 (by rw [hqp]; simp [hdX])
    have hm := mem_row hV hvA hdr
    have htd : tailE E d = c t := by rw [hm.2.2, hcv]
    have := h.l1; have := h.l2; have := h.l3; have := h.l4
    rcases h.kept hm.1 hm.2.1 ho with ⟨s, hs, e | e⟩ | e | e | e | e
    · exfalso
      rw [e, h.tl s hs] at htd
      have := h.inj s t hs ht htd
      subst this
      exact n7 d hdX (R s) (Or.inl rfl) e
    · exfalso
      rw [e, h.hd s hs] at htd
      have hst := h.inj _ t (up_lt hs) ht htd
      have : s = dn m t := by rw [← hst, dn_up hs]
      subst this
      exact n1 (e ▸ hdX)
    · rw [e, h.xt] at htd
      exact Or.inl ⟨e, (h.inj _ _ (by omega) ht htd).symm⟩
    · rw [e, h.xh] at htd
      exact Or.inr (Or.inl ⟨e, (h.inj _ _ (by omega) ht htd).symm⟩)
    · rw [e, h.yt] at htd
      exact Or.inr (Or.inr (Or.inl ⟨e, (h.inj _ _ (by omega) ht htd).symm⟩))
    · rw [e, h.yh] at htd
      exact Or.inr (Or.inr (Or.inr ⟨e, (h.inj _ _ (by omega) ht htd).symm⟩))
  · obtain ⟨v', hv', hm', ht'⟩ := hd.row hV
    have : v' = v := by rw [htl, hcv] at ht'; omega
    subst this
    have hq := (hmem d).2 (mem_rowL.1 hm').1
    rw [hqp] at hq
    refine List.mem_filter.2 ⟨?_, hd.2⟩
    rcases List.mem_cons.1 hq with e | hq
    · exfalso
      rw [e, oth_oth, h.tl _ hdn] at hho
      exact hd' (h.inj _ _ hdn ho hho).symm
    · rcases List.mem_append.1 hq with hq | hq
      · exact hq
      · exfalso
        rcases List.mem_cons.1 hq with e | hq
        · rw [e, h.hd t ht] at hho
          exact hu (h.inj _ _ (up_lt ht) ho hho).symm
        · exact hG d hq o ho hho
/-- A vertex of the ring without a chord. -/
theorem Crs.plain (hV : vRot N E A) (h : Crs E A m c R x y p0 p1 p2 p3) {t : Nat} (ht : t < m) (h0 : t ≠ p0) (h1 : t ≠ p1) (h2 : t ≠ p2) (h3 : t ≠ p3) :
    sucL A (offL E m R x y) (oth (R (dn m t))) = R t ∧ sucL A (offL E m R x y) (R t) = oth (R (dn m t)) := by
  obtain ⟨X, hc, _, hX, _⟩ := h.at hV ht
  cases X with
  | nil => exact hc
  | cons d X =>
    exfalso
    rcases hX d (by simp) with e | e | e | e
    · exact h0 e.2
    · exact h2 e.2
    · exact h1 e.2
    · exact h3 e.2
/-- A vertex of the ring with a chord. -/
theorem Crs.chord (hV : vRot N E A) (h : Crs E A m c R x y p0 p1 p2 p3) {t o : Nat} (ht : t < m) (ho : o < m) {d : Int} (hd : DL E (offL E m R x y) d) (htl : tailE E d = c t) (hho : tailE E (oth d) = c o) (hu : o ≠ up m t) (hdn : o ≠ dn m t)
    (hX : ∀ d', (d' = x ∧ t = p0) ∨ (d' = oth x ∧ t = p2) ∨ (d' = y ∧ t = p1) ∨ (d' = oth y ∧ t = p3) → d' = d) :
    sucL A (offL E m R x y) (oth (R (dn m t))) = d ∧ sucL A (offL E m R x y) d = R t ∧ sucL A (offL E m R x y) (R t) = oth (R (dn m t)) := by
  obtain ⟨X, hc, hn, hX', hall⟩ := h.at hV ht
  have := single_of hn (hall d o hd htl ho hho hu hdn) (fun d' hd' => hX d' (hX' d' hd'))
  subst this
  exact hc
end
end Go.Proofs.YtlealdicoceekaaDoor

/- Two chords inside a ring do not cross: the count. -/
namespace Go.Proofs.YtlealdicoceekaaDoor

section
variable {N : Int} {E : List (Int × Int)} {A : List (List Int)} {m : Nat} {c R : Nat → Int} {x y : Int} {p0 p1 p2 p3 : Nat}
theorem Crs.c0 (hV : vRot N E A) (h : Crs E A m c R x y p0 p1 p2 p3) : sucL A (offL E m R x y) (oth (R (dn m p0))) = x ∧ sucL A (offL E m R x y) x = R p0 ∧ sucL A (offL E m R x y) (R p0) = oth (R (dn m p0)) := by
  have := h.l1; have := h.l2; have := h.l3; have := h.l4
  refine h.chord hV (t := p0) (o := p2) (by omega) (by omega) h.keep_x h.xt h.xh (by unfold up; split <;> omega) (by unfold dn; split <;> omega) fun d' hd => ?_
  rcases hd with e | e | e | e <;> first | exact e.1 | (exfalso; omega)
theorem Crs.c2 (hV : vRot N E A) (h : Crs E A m c R x y p0 p1 p2 p3) : sucL A (offL E m R x y) (oth (R (dn m p2))) = oth x ∧ sucL A (offL E m R x y) (oth x) = R p2 ∧ sucL A (offL E m R x y) (R p2) = oth (R (dn m p2)) := by
  have := h.l1; have := h.l2; have := h.l3; have := h.l4
  refine h.chord hV (t := p2) (o := p0) (by omega) (by omega) h.keep_x.oth h.xh (by rw [oth_oth]; exact h.xt) (by unfold up; split <;> omega) (by unfold dn; split <;> omega) fun d' hd => ?_
  rcases hd with e | e | e | e <;> first | exact e.1 | (exfalso; omega)
theorem Crs.c1 (hV : vRot N E A) (h : Crs E A m c R x y p0 p1 p2 p3) : sucL A (offL E m R x y) (oth (R (dn m p1))) = y ∧ sucL A (offL E m R x y) y = R p1 ∧ sucL A (offL E m R x y) (R p1) = oth (R (dn m p1)) := by
  have := h.l1; have := h.l2; have := h.l3; have := h.l4
  refine h.chord hV (t := p1) (o := p3) (by omega) (by omega) h.keep_y h.yt h.yh (by unfold up; split <;> omega) (by unfold dn; split <;> omega) fun d' hd => ?_
  rcases hd with e | e | e | e <;> first | exact e.1 | (exfalso; omega)
theorem Crs.c3 (hV : vRot N E A) (h : Crs E A m c R x y p0 p1 p2 p3) : sucL A (offL E m R x y) (oth (R (dn m p3))) = oth y ∧ sucL A (offL E m R x y) (oth y) = R p3 ∧ sucL A (offL E m R x y) (R p3) = oth (R (dn m p3)) := by
  have := h.l1; have := h.l2; have := h.l3; have := h.l4
  refine h.chord hV (t := p3) (o := p1) (by omega) (by omega) h.keep_y.oth h.yh (by rw [oth_oth]; exact h.yt) (by unfold up; split <;> omega) (by unfold dn; split <;> omega) fun d' hd => ?_
  rcases hd with e | e | e | e <;> first | exact e.1 | (exfalso; omega)
theorem Crs.right (hV : vRot N E A) (h : Crs E A m c R x y p0 p1 p2 p3) {t : Nat} (ht : t < m) : sucL A (offL E m R x y) (R t) = oth (R (dn m t)) := by
  by_cases h0 : t = p0
  · rw [h0]; exact (h.c0 hV).2.2
  by_cases h1 : t = p1
  · rw [h1]; exact (h.c1 hV).2.2
  by_cases h2 : t = p2
  · rw [h2]; exact (h.c2 hV).2.2
  by_cases h3 : t = p3
  · rw [h3]; exact (h.c3 hV).2.2
  exact (h.plain hV ht h0 h1 h2 h3).2

/-- From one dart of the inside one comes to all, from one of the outside too. -/
theorem Crs.reach (hV : vRot N E A) (h : Crs E A m c R x y p0 p1 p2 p3) (S : Int → Prop) (hS : ∀ d, DL E (offL E m R x y) d → S d → S (facL A (offL E m R x y) d)) (s0 : S (oth (R 0))) (s1 : S x) :
    ∀ d, DL E (offL E m R x y) d → S d := by
  have hl1 := h.l1; have hl2 := h.l2; have hl3 := h.l3; have hl4 := h.l4
  have outer : ∀ t, t < m → S (oth (R t)) := by
    have down : ∀ t, t < m → S (oth (R t)) → S (oth (R (dn m t))) := fun t ht k => by
      have := hS _ (h.keep_R ht).oth k
      unfold facL at this
      rwa [oth_oth, h.right hV ht] at this
    have hl : ∀ k, k < m → S (oth (R (m - 1 - k))) := by
      intro k
      induction k with
      | zero =>
        intro _
        have := down 0 (by omega) s0
        unfold dn at this
        rw [if_pos rfl] at this
        exact this
      | succ k ih =>
        intro hk
        have := down _ (by omega) (ih (by omega))
        unfold dn at this
        rw [if_neg (by omega), show m - 1 - k - 1 = m - 1 - (k + 1) by omega] at this
        exact this
    intro t ht
    have := hl (m - 1 - t) (by omega)
    rwa [show m - 1 - (m - 1 - t) = t by omega] at this
  -- one step along the ring
  have go : ∀ t, t < m → S (R t) → S (sucL A (offL E m R x y) (oth (R (dn m (up m t))))) := fun t ht k => by
    have := hS _ (h.keep_R ht) k
    unfold facL at this
    rwa [dn_up ht]
  have seg : ∀ a k, a + k < m → S (R a) → (∀ t, a < t → t ≤ a + k → t ≠ p0 ∧ t ≠ p1 ∧ t ≠ p2 ∧ t ≠ p3) → S (R (a + k)) := by
    intro a k
    induction k with
    | zero => intro _ hs _; exact hs
    | succ k ih =>
      intro hk hs hp
      have h1 := ih (by omega) hs (fun t h1 h2 => hp t h1 (by omega))
      have h2 := go _ (by omega) h1
      have hu : up m (a + k) = a + (k + 1) := by unfold up; rw [if_neg (by omega)]; omega
      rw [hu] at h2
      have := hp (a + (k + 1)) (by omega) (by omega)
      rwa [(h.plain hV hk this.1 this.2.1 this.2.2.1 this.2.2.2).1] at h2
  have fx : S x → S (R p2) := fun k => by
    have := hS _ h.keep_x k
    unfold facL at this
    rwa [(h.c2 hV).2.1] at this
  have fx' : S (oth x) → S (R p0) := fun k => by
    have := hS _ h.keep_x.oth k
    unfold facL at this
    rwa [oth_oth, (h.c0 hV).2.1] at this
  have fy : S y → S (R p3) := fun k => by
    have := hS _ h.keep_y k
    unfold facL at this
    rwa [(h.c3 hV).2.1] at this
  have fy' : S (oth y) → S (R p1) := fun k => by
    have := hS _ h.keep_y.oth k
    unfold facL at this
    rwa [oth_oth, (h.c1 hV).2.1] at this
  have upp : ∀ p, 0 < p → p < m → up m (p - 1) = p := fun p h0 h1 => by unfold up; rw [if_neg (by omega)]; omega
  have r2 := fx s1
  have s23 : ∀ t, p2 ≤ t → t < p3 → S (R t) := fun t h1 h2 => by
    have := seg p2 (t - p2) (by omega) r2 (fun t' _ _ => ⟨by omega, by omega, by omega, by omega⟩)
    rwa [show p2 + (t - p2) = t by omega] at this
  have sy' : S (oth y) := by
    have := go (p3 - 1) (by omega) (s23 _ (by omega) (by omega))
    rwa [upp p3 (by omega) hl4, (h.c3 hV).1] at this
  have r1 := fy' sy'
  have s12 : ∀ t, p1 ≤ t → t < p2 → S (R t) := fun t h1 h2 => by
    have := seg p1 (t - p1) (by omega) r1 (fun t' _ _ => ⟨by omega, by omega, by omega, by omega⟩)
    rwa [show p1 + (t - p1) = t by omega] at this
  have sx' : S (oth x) := by
    have := go (p2 - 1) (by omega) (s12 _ (by omega) (by omega))
    rwa [upp p2 (by omega) (by omega), (h.c2 hV).1] at this
  have r0 := fx' sx'
  have s01 : ∀ t, p0 ≤ t → t < p1 → S (R t) := fun t h1 h2 => by
    have := seg p0 (t - p0) (by omega) r0 (fun t' _ _ => ⟨by omega, by omega, by omega, by omega⟩)
    rwa [show p0 + (t - p0) = t by omega] at this
  have sy : S y := by
    have := go (p1 - 1) (by omega) (s01 _ (by omega) (by omega))
    rwa [upp p1 (by omega) (by omega), (h.c1 hV).1] at this
  have r3 := fy sy
  have s3m : ∀ t, p3 ≤ t → t < m → S (R t) := fun t h1 h2 => by
    have := seg p3 (t - p3) (by omega) r3 (fun t' _ _ => ⟨by omega, by omega, by omega, by omega⟩)
    rwa [show p3 + (t - p3) = t by omega] at this
  have s00 : ∀ t, t < p0 → S (R t) := fun t ht => by
    have h1 := go (m - 1) (by omega) (s3m _ (by omega) (by omega))
    have hu : up m (m - 1) = 0 := by unfold up; rw [if_pos (by omega)]
    rw [hu, (h.plain hV (t := 0) (by omega) (by omega) (by omega) (by omega) (by omega)).1] at h1
    have := seg 0 t (by omega) h1 (fun t' _ _ => ⟨by omega, by omega, by omega, by omega⟩)
    rwa [Nat.zero_add] at this
  intro d hd
  rcases h.kept hd.1.1 hd.1.2 hd.2 with ⟨t, ht, e | e⟩ | e | e | e | e <;> subst e
  · by_cases k0 : t < p0
    · exact s00 t k0
    by_cases k1 : t < p1
    · exact s01 t (by omega) k1
    by_cases k2 : t < p2
    · exact s12 t (by omega) k2
    by_cases k3 : t < p3
    · exact s23 t (by omega) k3
    exact s3m t (by omega) ht
  · exact outer t ht
  · exact s1
  · exact sx'
  · exact sy
  · exact sy'
end
end Go.Proofs.YtlealdicoceekaaDoor

/- Two chords inside a ring do not cross in a planar rotation system. -/
namespace Go.Proofs.YtlealdicoceekaaDoor

theorem least_of (c : Nat → Int) : ∀ m, 0 < m → ∃ μ, μ < m ∧ ∀ t, t < m → c μ ≤ c t
  | 0, h => absurd h (by omega)
  | m + 1, _ => by
    by_cases h : 0 < m
    · obtain ⟨μ, h1, h2⟩ := least_of c m h
      by_cases h3 : c μ ≤ c m
      · exact ⟨μ, by omega, fun t ht => by
          by_cases e : t = m
          · rw [e]; exact h3
          · exact h2 t (by omega)⟩
      · exact ⟨m, by omega, fun t ht => by
          by_cases e : t = m
          · rw [e]; exact Int.le_refl _
          · have := h2 t (by omega); omega⟩
    · exact ⟨0, by omega, fun t ht => by have : t = 0 := by omega
                                         rw [this]; exact Int.le_refl _⟩

section
variable {N : Int} {E : List (Int × Int)} {A : List (List Int)} {m : Nat} {c R : Nat → Int} {x y : Int} {p0 p1 p2 p3 : Nat}
theorem Crs.faces (hV : vRot N E A) (h : Crs E A m c R x y p0 p1 p2 p3) {M : List (List Int)} (hM : Dec (DL E (offL E m R x y)) (facL A (offL E m R x y)) M) : M.length ≤ 2 := by
  have := h.l1; have := h.l2; have := h.l3; have := h.l4
  exact dec_two hM (a := oth (R 0)) (b := x) (h.keep_R (by omega)).oth fun S hS d hd sa sb => h.reach hV S hS sa sb d hd
theorem Crs.lone (hV : vRot N E A) (h : Crs E A m c R x y p0 p1 p2 p3) : isoS A (offL E m R x y) + m ≤ A.length := by
  have hn : ((List.range m).map fun t => (c t).toNat).Nodup := by
    unfold List.Nodup
    rw [List.pairwise_map]
    refine List.Pairwise.imp_of_mem ?_ List.nodup_range
    intro a b ha hb hne e
    have ha := List.mem_range.1 ha
    have hb := List.mem_range.1 hb
    have h1 := h.inA a ha
    have h2 := h.inA b hb
    exact hne (h.inj a b ha hb (by omega))
  have := cntP_most (p := fun u => rowL A (offL E m R x y) u = []) (n := A.length) hn (fun v hv => by
    obtain ⟨t, ht, rfl⟩ := List.mem_map.1 hv
    have ht := List.mem_range.1 ht
    have hin := h.inA t ht
    refine ⟨by omega, ?_⟩
    obtain ⟨v, hv, hm, htl⟩ := (h.keep_R ht).row hV
    rw [h.tl t ht] at htl
    rw [show (c t).toNat = v by omega]
    exact List.ne_nil_of_mem hm)
  rw [List.length_map, List.length_range] at this
  exact this
theorem Crs.path (h : Crs E A m c R x y p0 p1 p2 p3) {u v : Int} (hc : Cs E (offL E m R x y) u v) : u = v ∨ (∃ s, s < m ∧ u = c s) ∧ ∃ s, s < m ∧ v = c s := by
  induction hc with
  | refl => exact Or.inl rfl
  | step i _ hi hL hn ih =>
    have ho := h.on (d := 2 * (i : Int)) (by omega) (by omega) (off_not hL (by omega))
    rw [oth_a, tail_a, tail_b] at ho
    right
    rcases hn with ⟨rfl, rfl⟩ | ⟨rfl, rfl⟩
    · rcases ih with rfl | ih
      · exact ho
      · exact ⟨ih.1, ho.2⟩
    · rcases ih with rfl | ih
      · exact ⟨ho.2, ho.1⟩
      · exact ⟨ih.1, ho.1⟩
theorem Crs.comps (h : Crs E A m c R x y p0 p1 p2 p3) : A.length + 1 ≤ cntS E (offL E m R x y) A.length + m := by
  have := h.l4
  obtain ⟨μ, hμ, hmin⟩ := least_of c m (by omega)
  have := cntP_least (p := isS E (offL E m R x y)) (n := A.length) (S := ((List.range m).erase μ).map fun t => (c t).toNat) (fun v hv hp => by
    obtain ⟨u, u0, u1, hu⟩ := not_leadS hp
    rcases h.path hu with e | ⟨⟨s, hs, es⟩, t, ht, et⟩
    · omega
    · refine List.mem_map.2 ⟨t, ?_, by omega⟩
      refine (List.mem_erase_of_ne (fun e => ?_)).2 (List.mem_range.2 ht)
      subst e
      have := hmin s hs
      omega)
  rw [List.length_map, List.length_erase_of_mem (List.mem_range.2 hμ), List.length_range] at this
  unfold cntS
  omega
theorem Crs.edges (h : Crs E A m c R x y p0 p1 p2 p3) : (offL E m R x y).length + (m + 2) ≤ E.length := by
  have hl1 := h.l1; have hl2 := h.l2; have hl3 := h.l3; have hl4 := h.l4
  have hx := h.xd; have hy := h.yd
  have tails : ∀ {d d' : Int}, d / 2 = d' / 2 → (tailE E d = tailE E d' ∧ tailE E (oth d) = tailE E (oth d')) ∨ (tailE E d = tailE E (oth d') ∧ tailE E (oth d) = tailE E d') := fun {d d'} e => by
    rcases half_cases e with e | e
    · rw [e]; exact Or.inl ⟨rfl, rfl⟩
    · rw [e, oth_oth]; exact Or.inr ⟨rfl, rfl⟩
  have xR : ∀ t, t < m → x / 2 ≠ R t / 2 := fun t ht e => by
    have hu : up m t < m := up_lt ht
    rcases tails e with ⟨e1, e2⟩ | ⟨e1, e2⟩ <;> rw [h.xt] at e1 <;> rw [h.xh] at e2
    · rw [h.tl t ht] at e1; rw [h.hd t ht] at e2
      have a := h.inj _ _ (by omega) ht e1
      have b := h.inj _ _ (by omega) hu e2
      unfold up at b; split at b <;> omega
    · rw [h.hd t ht] at e1; rw [h.tl t ht] at e2
      have a := h.inj _ _ (by omega) hu e1
      have b := h.inj _ _ (by omega) ht e2
      unfold up at a; split at a <;> omega
  have yR : ∀ t, t < m → y / 2 ≠ R t / 2 := fun t ht e => by
    have hu : up m t < m := up_lt ht
    rcases tails e with ⟨e1, e2⟩ | ⟨e1, e2⟩ <;> rw [h.yt] at e1 <;> rw [h.yh] at e2
    · rw [h.tl t ht] at e1; rw [h.hd t ht] at e2
      have a := h.inj _ _ (by omega) ht e1
      have b := h.inj _ _ (by omega) hu e2
      unfold up at b; split at b <;> omega
    · rw [h.hd t ht] at e1; rw [h.tl t ht] at e2
      have a := h.inj _ _ (by omega) hu e1
      have b := h.inj _ _ (by omega) ht e2
      unfold up at a; split at a <;> omega
  have xy : x / 2 ≠ y / 2 := fun e => by
    rcases tails e with ⟨e1, _⟩ | ⟨e1, _⟩ <;> rw [h.xt] at e1
    · rw [h.yt] at e1
      have := h.inj _ _ (by omega) (by omega) e1
      omega
    · rw [h.yh] at e1
      have := h.inj _ _ (by omega) (by omega) e1
      omega
  have RR : ∀ s t, s < m → t < m → R s / 2 = R t / 2 → s = t := fun s t hs ht e => by
    rcases tails e with ⟨e1, _⟩ | ⟨e1, e2⟩ <;> rw [h.tl s hs] at e1
    · rw [h.tl t ht] at e1
      exact h.inj _ _ hs ht e1
    · rw [h.hd t ht] at e1
      rw [h.hd s hs, h.tl t ht] at e2
      have a := h.inj _ _ hs (up_lt ht) e1
      have b := h.inj _ _ (up_lt hs) ht e2
      exfalso
      unfold up at a b
      split at a <;> split at b <;> omega
  have hk : (keepL m R x y).Nodup := by
    unfold keepL
    rw [List.nodup_cons, List.nodup_cons]
    refine ⟨fun hm => ?_, fun hm => ?_, ?_⟩
    · rcases List.mem_cons.1 hm with e | hm
      · exact xy (by omega)
      · obtain ⟨t, ht, e⟩ := List.mem_map.1 hm
        have ht := List.mem_range.1 ht
        have := h.rd t ht
        have e' : (R t / 2).toNat = (x / 2).toNat := e
        exact xR t ht (by omega)
    · obtain ⟨t, ht, e⟩ := List.mem_map.1 hm
      have ht := List.mem_range.1 ht
      have := h.rd t ht
      have e' : (R t / 2).toNat = (y / 2).toNat := e
      exact yR t ht (by omega)
    · unfold List.Nodup
      rw [List.pairwise_map]
      refine List.Pairwise.imp_of_mem ?_ List.nodup_range
      intro a b ha hb hne e
      have ha := List.mem_range.1 ha
      have hb := List.mem_range.1 hb
      have h1 := h.rd a ha
      have h2 := h.rd b hb
      exact hne (RR a b ha hb (by omega))
  have hlen : (keepL m R x y).length = m + 2 := by simp [keepL]
  have hall : (offL E m R x y ++ keepL m R x y).Nodup := by
    rw [List.nodup_append]
    refine ⟨List.nodup_range.filter _, hk, fun a ha b hb e => ?_⟩
    subst e
    exact of_decide_eq_true (List.mem_filter.1 ha).2 hb
  have := List.Nodup.length_le_of_subset hall (l₂ := List.range E.length) (fun e he => by
    rcases List.mem_append.1 he with he | he
    · exact (List.mem_filter.1 he).1
    · refine List.mem_range.2 ?_
      unfold keepL at he
      rcases List.mem_cons.1 he with e1 | he
      · omega
      · rcases List.mem_cons.1 he with e1 | he
        · omega
        · obtain ⟨t, ht, e1⟩ := List.mem_map.1 he
          have := h.rd t (List.mem_range.1 ht)
          have e' : (R t / 2).toNat = e := e1
          omega)
  rw [List.length_append, hlen, List.length_range] at this
  exact this
/-- They do not cross. -/
theorem Crs.false (hV : vRot N E A) (hg : genusF N E A = 0) (h : Crs E A m c R x y p0 p1 p2 p3) : False := by
  have hal := hV.al
  obtain ⟨M, hM, hle⟩ := sub_all hV hg (L := offL E m R x y) (List.nodup_range.filter _) (fun e he => List.mem_range.1 (List.mem_filter.1 he).1)
  have h1 := h.faces hV hM
  have h2 := h.lone hV
  have h3 := h.comps
  have h4 := h.edges
  omega
end
end Go.Proofs.YtlealdicoceekaaDoor

/- Fans of a contour: what taking a vertex away does to them. -/
namespace Go.Proofs.YtlealdicoceekaaDoor

section
variable {N : Int} {E : List (Int × Int)} {A : List (List Int)}
def isD (E : List (Int × Int)) (d : Int) : Prop := 0 ≤ d ∧ d < 2 * (E.length : Int)
theorem isD.oth {d : Int} (h : isD E d) : isD E (oth d) := oth_in h.1 h.2
theorem isD.suc (hV : vRot N E A) {d : Int} (h : isD E d) : isD E (sucF A d) := sucF_in hV h.1 h.2
theorem tri_at (hT : trgB N E A = true) {d : Int} (hd : isD E d) : nxF A (nxF A (nxF A d)) = d := by
  have hV := trg_valid hT
  have hD := fac_dec hV
  have hm := (hD.mem d).2 hd
  obtain ⟨l, hl, h0⟩ := List.mem_flatten.1 hm
  have hc := hD.cyc l hl
  have hlen : l.length = 3 := by
    unfold trgB at hT
    rw [Bool.and_eq_true, List.all_eq_true] at hT
    have := hT.2 l (by unfold facesO; rw [if_pos (vRotB_iff.2 hV)]; exact hl)
    exact of_decide_eq_true this
  obtain ⟨i, hi, e⟩ := mem_ge.1 h0
  have a0 := hc.idx hi
  have a1 := hc.idx (k := (i + 1) % l.length) (Nat.mod_lt _ (by omega))
  have a2 := hc.idx (k := ((i + 1) % l.length + 1) % l.length) (Nat.mod_lt _ (by omega))
  rw [hlen] at a0 a1 a2
  rw [e] at a0
  rw [a0, a1, a2]
  rw [← e]
  congr 1
  omega
/-- The dart that closes the triangle of two neighbouring darts. -/
def thd (A : List (List Int)) (d : Int) : Int := oth (sucF A (oth (sucF A d)))
theorem thd_ok (hT : trgB N E A = true) {d : Int} (hd : isD E d) : isD E (thd A d) ∧ sucF A (thd A d) = oth d ∧ sucF A (oth (sucF A d)) = oth (thd A d) ∧ tailE E (thd A d) = tailE E (oth d) ∧ tailE E (oth (thd A d)) = tailE E (oth (sucF A d)) := by
  have hV := trg_valid hT
  have h1 := hd.suc hV
  have h2 := h1.oth.suc hV
  have h3 : sucF A (thd A d) = oth d := by
    have := tri_at hT hd.oth
    unfold nxF at this
    rw [oth_oth] at this
    exact this
  have h4 : oth (thd A d) = sucF A (oth (sucF A d)) := by unfold thd; rw [oth_oth]
  refine ⟨h2.oth, h3, h4.symm, ?_, ?_⟩
  · have := suc_tail hV (d := thd A d) h2.oth.1 h2.oth.2
    rw [h3] at this
    exact this.symm
  · rw [h4, suc_tail hV h1.oth.1 h1.oth.2]
/-- In a simple system a dart is known by its ends. -/
theorem dart_uniq (hT : trgB N E A = true) {d d' : Int} (hd : isD E d) (hd' : isD E d') (ht : tailE E d = tailE E d') (hh : tailE E (oth d) = tailE E (oth d')) : d = d' := by
  have hV := trg_valid hT
  obtain ⟨v, hv, hm, e⟩ := row_of hV hd.1 hd.2
  obtain ⟨v', hv', hm', e'⟩ := row_of hV hd'.1 hd'.2
  have : v = v' := by omega
  subst this
  have hn := near_nodup hV (trg_simple hT) hv
  unfold nearL List.Nodup at hn
  rw [List.pairwise_map] at hn
  obtain ⟨i, hi, ei⟩ := List.getElem_of_mem hm
  obtain ⟨j, hj, ej⟩ := List.getElem_of_mem hm'
  apply Classical.byContradiction
  intro hne
  rw [List.pairwise_iff_getElem] at hn
  rcases Nat.lt_trichotomy i j with hl | hl | hl
  · exact hn i j hi hj hl (by rw [ei, ej]; exact hh)
  · subst hl; exact hne (ei.symm.trans ej)
  · exact hn j i hj hi hl (by rw [ei, ej]; exact hh.symm)

/-- Between the dart back and the dart on lie darts to what is left, behind them darts to what is gone. -/
def Fan (E : List (Int × Int)) (A : List (List Int)) (go : Int → Prop) (a b : Int) : Prop :=
  isD E a ∧ isD E b ∧ tailE E (oth a) = tailE E b ∧ ∃ X G p q, rowOf A (tailE E b).toNat = p ++ q ∧ q ++ p = oth a :: (X ++ b :: G) ∧ (∀ d ∈ X, ¬ go (tailE E (oth d))) ∧ ∀ d ∈ G, go (tailE E (oth d))

theorem suc_inj (hV : vRot N E A) {x y : Int} (hx : isD E x) (hy : isD E y) (h : sucF A x = sucF A y) : x = y := by
  have := fac_inj hV (oth x) (oth y) hx.oth.1 (by have := hx.oth.2; push_cast; exact this) hy.oth.1 (by have := hy.oth.2; push_cast; exact this) (by unfold nxF; rw [oth_oth, oth_oth]; exact h)
  rw [← oth_oth x, this, oth_oth]
/-- A row read from another place. -/
theorem rot_row (hV : vRot N E A) {b : Int} (hb : isD E b) {p q l : List Int} (hr : rowOf A (tailE E b).toNat = p ++ q) (hl : q ++ p = l) (h0 : l ≠ []) : Cyc (sucF A) l ∧ l.Nodup ∧ ∀ d, d ∈ l ↔ isD E d ∧ tailE E d = tailE E b := by
  obtain ⟨v, hv, hm, ht⟩ := row_of hV hb.1 hb.2
  have e : (tailE E b).toNat = v := by omega
  rw [e] at hr
  have hne : rowOf A v ≠ [] := List.ne_nil_of_mem hm
  have h1 := row_cyc hV hv hne
  have h2 := row_nodup hV hv
  rw [hr] at h1 h2
  have h3 := h1.rot
  rw [hl] at h3
  have h4 := (List.perm_append_comm.nodup_iff).1 h2
  rw [hl] at h4
  refine ⟨h3, h4, fun d => ?_⟩
  rw [← hl, List.mem_append, or_comm, ← List.mem_append, ← hr]
  constructor
  · intro hd
    have := mem_row hV hv hd
    exact ⟨⟨this.1, this.2.1⟩, by rw [this.2.2, ht]⟩
  · rintro ⟨hd, htd⟩
    obtain ⟨v', hv', hm', ht'⟩ := row_of hV hd.1 hd.2
    have : v' = v := by omega
    subst this
    exact hm'
theorem Ch.snd {f : Int → Int} {x z a : Int} {t u : List Int} (h : Ch f x (t ++ a :: u) z) : ∃ w W, x :: t = W ++ [w] ∧ f w = a := by
  obtain ⟨h1, _⟩ := Ch.app.1 h
  obtain ⟨w, hw, hf⟩ : ∃ w, (∃ W, x :: t = W ++ [w]) ∧ f w = a := by
    clear h
    induction t generalizing x with
    | nil => exact ⟨x, ⟨[], rfl⟩, h1⟩
    | cons y t ih =>
      obtain ⟨_, h2⟩ := h1
      obtain ⟨w, ⟨W, hW⟩, hf⟩ := ih h2
      exact ⟨w, ⟨x :: W, by rw [hW]; rfl⟩, hf⟩
  obtain ⟨W, hW⟩ := hw
  exact ⟨w, W, hW, hf⟩
/-- The vertex before the one that is taken. -/
theorem fan_left (hT : trgB N E A = true) {go go' : Int → Prop} {e a y : Int} (h : Fan E A go e a) (hy : isD E y) (hs : sucF A y = a) (hne : y ≠ oth e) (h1 : go' (tailE E (oth a))) (h2 : ∀ x, go x → go' x) (h3 : ∀ x, go' x → go x ∨ x = tailE E (oth a)) : Fan E A go' e y := by
  have hV := trg_valid hT
  obtain ⟨he, ha, hea, X, G, p, q, hr, hl, hX, hG⟩ := h
  obtain ⟨hc, hn, hm⟩ := rot_row hV ha hr hl (by simp)
  have hty : tailE E y = tailE E a := by rw [← suc_tail hV hy.1 hy.2, hs]
  have hc' : Ch (sucF A) (oth e) (X ++ a :: G) (oth e) := hc
  obtain ⟨w, W, hW, hw⟩ := Ch.snd hc'
  have hwm : w ∈ oth e :: (X ++ a :: G) := by
    have : w ∈ oth e :: X := by rw [hW]; simp
    rcases List.mem_cons.1 this with k | k
    · exact List.mem_cons.2 (Or.inl k)
    · exact List.mem_cons_of_mem _ (List.mem_append_left _ k)
  have hwy : w = y := suc_inj hV ((hm w).1 hwm).1 hy (by rw [hw, hs])
  subst hwy
  cases W with
  | nil =>
    simp at hW
    exact absurd hW.1.symm hne
  | cons z W =>
    rw [List.cons_append] at hW
    obtain ⟨rfl, rfl⟩ := List.cons.inj hW
    refine ⟨he, hy, hea.trans hty.symm, W, a :: G, p, q, by rw [hty]; exact hr, by rw [hl]; simp, fun d hd hg => ?_, fun d hd => ?_⟩
    · rcases h3 _ hg with k | k
      · exact hX d (List.mem_append_left _ hd) k
      · have hdm := (hm d).1 (by simp [hd])
        have := dart_uniq hT hdm.1 ha hdm.2 k
        subst this
        rw [List.nodup_cons, List.nodup_append] at hn
        exact hn.2.2.2 d (List.mem_append_left _ hd) d (by simp) rfl
    · rcases List.mem_cons.1 hd with rfl | hd
      · exact h1
      · exact h2 _ (hG d hd)
/-- The vertex behind the one that is taken. -/
theorem fan_right (hT : trgB N E A = true) {go go' : Int → Prop} {b e y : Int} (h : Fan E A go b e) (hy : isD E y) (hs : sucF A (oth b) = oth y) (hne : oth y ≠ e) (hyt : tailE E (oth y) = tailE E e) (h1 : go' (tailE E b)) (h2 : ∀ x, go x → go' x) (h3 : ∀ x, go' x → go x ∨ x = tailE E b) : Fan E A go' y e := by
  have hV := trg_valid hT
  obtain ⟨hb, he, hbe, X, G, p, q, hr, hl, hX, hG⟩ := h
  obtain ⟨hc, hn, hm⟩ := rot_row hV he hr hl (by simp)
  have hob := (hm (oth b)).1 (by simp)
  cases X with
  | nil =>
    exfalso
    have hc' : Ch (sucF A) (oth b) ([] ++ e :: G) (oth b) := hc
    have := (Ch.app.1 hc').1
    exact hne (hs.symm.trans this)
  | cons z X =>
    have hc' : sucF A (oth b) = z ∧ Ch (sucF A) z (X ++ e :: G) (oth b) := hc
    have hz : z = oth y := hc'.1.symm.trans hs
    subst hz
    have hX' : ∀ d ∈ X, ¬ go' (tailE E (oth d)) := fun d hd hg => by
      rcases h3 _ hg with k | k
      · exact hX d (List.mem_cons_of_mem _ hd) k
      · have hdm := (hm d).1 (by simp [hd])
        have : d = oth b := dart_uniq hT hdm.1 hob.1 (hdm.2.trans hob.2.symm) (by rw [oth_oth]; exact k)
        subst this
        rw [List.nodup_cons] at hn
        exact hn.1 (by simp [hd])
    have hG' : ∀ d ∈ G ++ [oth b], go' (tailE E (oth d)) := fun d hd => by
      rcases List.mem_append.1 hd with hd | hd
      · exact h2 _ (hG d hd)
      · rw [List.mem_singleton.1 hd, oth_oth]; exact h1
    refine ⟨hy, he, hyt, X, G ++ [oth b], ?_⟩
    cases q with
    | nil =>
      rw [List.nil_append] at hl
      rw [List.append_nil] at hr
      exact ⟨[oth b], oth y :: (X ++ e :: G), by rw [hr, hl]; simp, by simp, hX', hG'⟩
    | cons c q =>
      rw [List.cons_append] at hl
      obtain ⟨hcb, hl2⟩ := List.cons.inj hl
      subst hcb
      exact ⟨p ++ [oth b], q, by rw [hr]; simp, by rw [← List.append_assoc, hl2]; simp, hX', hG'⟩
/-- A vertex that comes to the contour. -/
theorem fan_mid (hT : trgB N E A = true) {go' : Int → Prop} {d y z : Int} (hd : isD E d) (hy : isD E y) (hz : isD E z) (hs : sucF A y = oth d) (hs2 : sucF A (oth d) = oth z) (hne : oth z ≠ y)
    (h1 : go' (tailE E d)) (hin : ∀ f, isD E f → tailE E f = tailE E (oth d) → f ≠ oth d → ¬ go' (tailE E (oth f))) : Fan E A go' z y := by
  have hV := trg_valid hT
  have hty : tailE E y = tailE E (oth d) := by rw [← suc_tail hV hy.1 hy.2, hs]
  have htz : tailE E (oth z) = tailE E (oth d) := by rw [← hs2, suc_tail hV hd.oth.1 hd.oth.2]
  obtain ⟨v, hv, hm, ht⟩ := row_of hV hd.oth.1 hd.oth.2
  obtain ⟨p, q, hpq⟩ := List.append_of_mem hm
  have e : (tailE E (oth d)).toNat = v := by omega
  obtain ⟨hc, hn, hmm⟩ := rot_row hV hd.oth (p := p) (q := oth d :: q) (by rw [e]; exact hpq) rfl (by simp)
  rw [List.cons_append] at hc hn hmm
  cases hqp : q ++ p with
  | nil =>
    exfalso
    rw [hqp] at hc
    have hc' : sucF A (oth d) = oth d := hc
    rw [hs2] at hc'
    have : y = oth d := suc_inj hV hy hd.oth (by rw [hs, hs2, hc'])
    exact hne (hc'.trans this.symm)
  | cons w t =>
    rw [hqp] at hc hn hmm
    have hc' : sucF A (oth d) = w ∧ Ch (sucF A) w t (oth d) := hc
    have hw : w = oth z := hc'.1.symm.trans hs2
    subst hw
    obtain ⟨u, U, hU, hu⟩ : ∃ u U, oth z :: t = U ++ [u] ∧ sucF A u = oth d := by
      have h3 : Ch (sucF A) (oth z) (t ++ oth d :: []) (oth z) := Ch.app.2 ⟨hc'.2, hc'.1⟩
      obtain ⟨u, U, a, b⟩ := Ch.snd h3
      exact ⟨u, U, a, b⟩
    have hum : u ∈ oth d :: oth z :: t := List.mem_cons_of_mem _ (by rw [hU]; simp)
    have huy : u = y := suc_inj hV ((hmm u).1 hum).1 hy (by rw [hu, hs])
    subst huy
    cases U with
    | nil =>
      simp at hU
      exact absurd hU.1 hne
    | cons c U =>
      rw [List.cons_append] at hU
      obtain ⟨rfl, rfl⟩ := List.cons.inj hU
      refine ⟨hz, hy, htz.trans hty.symm, U, [oth d], p ++ [oth d], q, by rw [hty, e, hpq]; simp, by rw [← List.append_assoc, hqp]; simp, fun f hf => ?_, fun f hf => ?_⟩
      · have hfm := (hmm f).1 (by simp [hf])
        refine hin f hfm.1 hfm.2 fun ef => ?_
        subst ef
        rw [List.nodup_cons] at hn
        exact hn.1 (by simp [hf])
      · rw [List.mem_singleton.1 hf, oth_oth]; exact h1
end
end Go.Proofs.YtlealdicoceekaaDoor

/- The peeling's invariant, plain. -/
namespace Go.Proofs.YtlealdicoceekaaDoor

/-- A chain of fans. -/
def Fans (P : Int → Int → Prop) : Int → List Int → Prop
  | _, [] => True
  | a, b :: l => P a b ∧ Fans P b l
theorem Fans.app {P : Int → Int → Prop} : ∀ {l1 : List Int} {a b : Int} {l2 : List Int}, Fans P a (l1 ++ b :: l2) ↔ Fans P a (l1 ++ [b]) ∧ Fans P b l2
  | [], a, b, l2 => by
    show (P a b ∧ Fans P b l2) ↔ ((P a b ∧ True) ∧ Fans P b l2)
    simp
  | c :: l1, a, b, l2 => by
    show (P a c ∧ Fans P c (l1 ++ b :: l2)) ↔ ((P a c ∧ Fans P c (l1 ++ [b])) ∧ Fans P b l2)
    rw [Fans.app (l1 := l1), and_assoc]
theorem Fans.mono {P Q : Int → Int → Prop} : ∀ {l : List Int} {a : Int}, (∀ x y, y ∈ l → P x y → Q x y) → Fans P a l → Fans Q a l
  | [], _, _, _ => trivial
  | b :: l, a, h, ⟨h1, h2⟩ => ⟨h a b (by simp) h1, Fans.mono (fun x y hy => h x y (List.mem_cons_of_mem _ hy)) h2⟩
theorem Fans.idx {P : Int → Int → Prop} : ∀ {l : List Int} {a : Int}, Fans P a l → ∀ t, t < l.length → P (if t = 0 then a else ge l (t - 1)) (ge l t)
  | [], _, _, t, ht => by simp at ht
  | b :: l, a, ⟨h1, h2⟩, 0, _ => by rw [if_pos rfl, ge_cons_zero]; exact h1
  | b :: l, a, ⟨h1, h2⟩, t + 1, ht => by
    have := Fans.idx h2 t (by simpa using ht)
    rw [if_neg (by omega), ge_cons_succ, Nat.add_sub_cancel]
    by_cases e : t = 0
    · subst e
      rw [if_pos rfl] at this
      rw [ge_cons_zero]
      exact this
    · rw [if_neg e] at this
      obtain ⟨s, rfl⟩ : ∃ s, t = s + 1 := ⟨t - 1, by omega⟩
      rw [ge_cons_succ]
      exact this

section
variable {N : Int} {E : List (Int × Int)} {A : List (List Int)}
/-- A closed chain of fans is a ring. -/
theorem ring_of {go : Int → Prop} {D : List Int} (hV : vRot N E A) (hF : Fans (Fan E A go) (ge D (D.length - 1)) D) (hn : (D.map (tailE E)).Nodup) (hg : ∀ d ∈ D, ¬ go (tailE E d)) : Ring E A D.length (fun t => tailE E (ge D t)) (fun t => ge D t) := by
  have hf : ∀ t, t < D.length → Fan E A go (ge D (dn D.length t)) (ge D t) := fun t ht => by
    have := hF.idx t ht
    unfold dn
    by_cases e : t = 0
    · rw [if_pos e] at this ⊢; exact this
    · rw [if_neg e] at this ⊢; exact this
  refine ⟨fun s t hs ht e => ?_, fun t ht => ?_, fun t ht => (hf t ht).2.1, fun _ _ => rfl, fun t ht => ?_, fun t ht => ?_⟩
  · have e' : tailE E (ge D s) = tailE E (ge D t) := e
    unfold List.Nodup at hn
    rw [List.pairwise_map, List.pairwise_iff_getElem] at hn
    rw [ge_eq D hs, ge_eq D ht] at e'
    rcases Nat.lt_trichotomy s t with hl | hl | hl
    · exact absurd e' (hn s t hs ht hl)
    · exact hl
    · exact absurd e'.symm (hn t s ht hs hl)
  · have h1 := (hf t ht).2.1
    have h2 := tail_in hV h1.1 h1.2
    have := hV.al
    refine ⟨h2.1, ?_⟩
    show tailE E (ge D t) < (A.length : Int)
    omega
  · have h1 := hf (up D.length t) (up_lt ht)
    rw [dn_up ht] at h1
    exact h1.2.2.1
  · obtain ⟨_, _, _, X, G, p, q, h1, h2, _, h4⟩ := hf t ht
    exact ⟨X, G, p, q, h1, h2, fun d hd s hs e => hg (ge D s) (ge_mem hs) (e ▸ h4 d hd)⟩

/-- A dart between two vertices of a ring. -/
def Cho (E : List (Int × Int)) (c : Nat → Int) (s t : Nat) : Prop := ∃ d, isD E d ∧ tailE E d = c s ∧ tailE E (oth d) = c t
theorem Cho.symm {c : Nat → Int} {s t : Nat} (h : Cho E c s t) : Cho E c t s := by
  obtain ⟨d, h1, h2, h3⟩ := h
  exact ⟨oth d, h1.oth, h3, by rw [oth_oth]; exact h2⟩
theorem cho_ne (hV : vRot N E A) {c : Nat → Int} {s t : Nat} (h : Cho E c s t) : s ≠ t := by
  rintro rfl
  obtain ⟨d, h1, h2, h3⟩ := h
  have he := ends_ne hV (e := (d / 2).toNat) (by have := h1.1; have := h1.2; omega)
  rcases (by have := h1.1; omega : d = 2 * ((d / 2).toNat : Int) ∨ d = 2 * ((d / 2).toNat : Int) + 1) with e | e
  · rw [e] at h2 h3; rw [oth_a] at h3; exact he (h2.trans h3.symm)
  · rw [e] at h2 h3; rw [oth_b] at h3; exact he (h3.trans h2.symm)
theorem no_chord (hV : vRot N E A) (hg : genusF N E A = 0) {m : Nat} {c R : Nat → Int} (hR : Ring E A m c R) (hall : ∀ t, 0 < t → t + 1 < m → ∃ s, s < m ∧ s ≠ t + 1 ∧ s + 1 ≠ t ∧ Cho E c t s) :
    ∀ n i j, j - i ≤ n → i + 2 ≤ j → j < m → ¬ (i = 0 ∧ j + 1 = m) → ¬ Cho E c i j := by
  intro n
  induction n with
  | zero => intro i j h1 h2; omega
  | succ n ih =>
    intro i j h1 h2 h3 h4 hc
    obtain ⟨s, hs, s1, s2, hcs⟩ := hall (i + 1) (by omega) (by omega)
    have hne := cho_ne hV hcs
    obtain ⟨x, x1, x2, x3⟩ := hc
    by_cases hsj : j < s
    · obtain ⟨y, y1, y2, y3⟩ := hcs
      exact Crs.false hV hg (x := x) (y := y) (p0 := i) (p1 := i + 1) (p2 := j) (p3 := s) ⟨hR, by omega, by omega, hsj, hs, x1, y1, x2, x3, y2, y3⟩
    · by_cases hsi : s < i
      · obtain ⟨y, y1, y2, y3⟩ := hcs.symm
        exact Crs.false hV hg (x := y) (y := x) (p0 := s) (p1 := i) (p2 := i + 1) (p3 := j) ⟨hR, hsi, by omega, by omega, h3, y1, x1, y2, y3, x2, x3⟩
      · exact ih (i + 1) s (by omega) (by omega) hs (by omega) hcs
/-- Some vertex of a ring, other than two neighbours, has no chord. -/
theorem free_ex (hV : vRot N E A) (hg : genusF N E A = 0) {m : Nat} {c R : Nat → Int} (hR : Ring E A m c R) (hm : 3 ≤ m) : ∃ t, 0 < t ∧ t + 1 < m ∧ ∀ s, s < m → s ≠ t + 1 → s + 1 ≠ t → ¬ Cho E c t s := by
  apply Classical.byContradiction
  intro hn
  have hall : ∀ t, 0 < t → t + 1 < m → ∃ s, s < m ∧ s ≠ t + 1 ∧ s + 1 ≠ t ∧ Cho E c t s := fun t h0 h1 => by
    apply Classical.byContradiction
    intro hk
    exact hn ⟨t, h0, h1, fun s hs a b hc => hk ⟨s, hs, a, b, hc⟩⟩
  obtain ⟨s, hs, s1, s2, hc⟩ := hall 1 (by omega) (by omega)
  have hne := cho_ne hV hc
  exact no_chord hV hg hR hall _ 1 s (Nat.le_refl _) (by omega) hs (by omega) hc
end
end Go.Proofs.YtlealdicoceekaaDoor

/- One step of the peeling, plain: what taking a free vertex makes of the contour. -/
namespace Go.Proofs.YtlealdicoceekaaDoor

section
variable {N : Int} {E : List (Int × Int)} {A : List (List Int)}
/-- A vertex that does not see the one that is taken keeps its fan. -/
theorem fan_keep (hV : vRot N E A) {go go' : Int → Prop} {e f v : Int} (h : Fan E A go e f) (h2 : ∀ x, go x → go' x) (h3 : ∀ x, go' x → go x ∨ x = v) (hn : ∀ d, isD E d → tailE E d = tailE E f → tailE E (oth d) ≠ v) : Fan E A go' e f := by
  obtain ⟨he, hf, hef, X, G, p, q, hr, hl, hX, hG⟩ := h
  obtain ⟨_, _, hm⟩ := rot_row hV hf hr hl (by simp)
  refine ⟨he, hf, hef, X, G, p, q, hr, hl, fun d hd hg => ?_, fun d hd => h2 _ (hG d hd)⟩
  rcases h3 _ hg with k | k
  · exact hX d hd k
  · have hdm := (hm d).1 (by simp [hd])
    exact hn d hdm.1 hdm.2 k
/-- The vertices that come to the contour, in a chain. -/
theorem fans_mid (hT : trgB N E A = true) {go' : Int → Prop} {v : Int} (h1 : go' v) : ∀ {t : List Int} {x z : Int}, Ch (sucF A) x t z → (x :: (t ++ [z])).Nodup → (∀ d ∈ x :: (t ++ [z]), isD E d ∧ tailE E d = v) →
    (∀ d ∈ t, ∀ f, isD E f → tailE E f = tailE E (oth d) → f ≠ oth d → ¬ go' (tailE E (oth f))) → Fans (Fan E A go') (thd A x) (t.map (thd A))
  | [], _, _, _, _, _, _ => trivial
  | d :: t, x, z, hc, hn, hD, hin => by
    obtain ⟨c1, c2⟩ : sucF A x = d ∧ Ch (sucF A) d t z := hc
    have hx := hD x (by simp)
    have hd := hD d (by simp)
    obtain ⟨x1, x2, x3, x4, x5⟩ := thd_ok hT hx.1
    obtain ⟨d1, d2, d3, d4, d5⟩ := thd_ok hT hd.1
    rw [c1] at x3
    have hsd : sucF A d ∈ t ++ [z] := by
      cases t with
      | nil => have : sucF A d = z := c2
               rw [this]; simp
      | cons w t => have : sucF A d = w := c2.1
                    rw [this]; simp
    refine ⟨fan_mid hT hd.1 d1 x1 d2 x3 (fun e => ?_) (by rw [hd.2]; exact h1) (fun f => hin d (by simp) f), fans_mid hT h1 c2 ?_ (fun f hf => hD f (List.mem_cons_of_mem _ hf)) (fun f hf => hin f (List.mem_cons_of_mem _ hf))⟩
    · have hss := hD (sucF A d) (by simp at hsd ⊢; rcases hsd with h | h <;> simp [h])
      have : x = sucF A d := dart_uniq hT hx.1 hss.1 (hx.2.trans hss.2.symm) (by rw [← x4, ← d5, ← e, oth_oth])
      rw [List.nodup_cons] at hn
      rw [← this] at hsd
      exact hn.1 (by rw [List.cons_append]; exact List.mem_cons_of_mem _ hsd)
    · rw [List.nodup_cons] at hn
      exact hn.2
/-- The last fan of a chain. -/
theorem Fans.snoc {P : Int → Int → Prop} : ∀ {L W : List Int} {o e a : Int}, o :: L = W ++ [e] → (Fans P o (L ++ [a]) ↔ Fans P o L ∧ P e a)
  | [], W, o, e, a, h => by
    have : W = [] ∧ e = o := by
      cases W with
      | nil => simp at h; exact ⟨rfl, h.symm⟩
      | cons c W => simp at h
    rw [this.2]
    show (P o a ∧ True) ↔ (True ∧ P o a)
    simp
  | b :: L, W, o, e, a, h => by
    cases W with
    | nil => simp at h
    | cons c W =>
      rw [List.cons_append] at h
      obtain ⟨_, h⟩ := List.cons.inj h
      show (P o b ∧ Fans P b (L ++ [a])) ↔ ((P o b ∧ Fans P b L) ∧ P e a)
      rw [Fans.snoc h, and_assoc]
theorem snoc_ex (o : Int) (L : List Int) : ∃ W e, o :: L = W ++ [e] := by
  have := List.dropLast_concat_getLast (l := o :: L) (by simp)
  exact ⟨_, _, this.symm⟩
theorem Fans.last {P : Int → Int → Prop} {o : Int} {L W : List Int} {e a : Int} (h : o :: L = W ++ [e]) (hF : Fans P o (L ++ [a])) : P e a := ((Fans.snoc h).1 hF).2
theorem Fans.dart {go : Int → Prop} : ∀ {L : List Int} {o : Int}, Fans (Fan E A go) o L → ∀ d ∈ L, isD E d
  | [], _, _, d, hd => by cases hd
  | b :: L, o, h, d, hd => by
    rcases List.mem_cons.1 hd with rfl | hd
    · exact h.1.2.1
    · exact Fans.dart h.2 d hd

/-- The peeling's contour: a closed chain of fans, no vertex twice, none gone; what is neither gone nor on it has no gone neighbour. -/
structure Pee (E : List (Int × Int)) (A : List (List Int)) (go : Int → Prop) (D : List Int) : Prop where
  fans : Fans (Fan E A go) 1 D
  last : ∃ L, D = L ++ [1]
  nd : (D.map (tailE E)).Nodup
  ng : ∀ d ∈ D, ¬ go (tailE E d)
  inn : ∀ d, isD E d → ¬ go (tailE E d) → tailE E d ∉ D.map (tailE E) → ¬ go (tailE E (oth d))

/-- What lies at a vertex of the contour that sees no other of its vertices than those beside it. -/
structure Spot (E : List (Int × Int)) (A : List (List Int)) (go : Int → Prop) (L1 : List Int) (a b f : Int) (M X G p q : List Int) : Prop where
  row : rowOf A (tailE E b).toNat = p ++ q
  rot : q ++ p = oth a :: (X ++ b :: G)
  ins : ∀ d ∈ X, ¬ go (tailE E (oth d)) ∧ tailE E (oth d) ∉ (L1 ++ a :: b :: f :: M).map (tailE E)
  out : ∀ d ∈ G, go (tailE E (oth d))
  ta : tailE E (oth a) = tailE E b
  tf : tailE E (oth b) = tailE E f
  da : isD E a
  db : isD E b
theorem mem_tails {D : List Int} {d : Int} (h : d ∈ D) : tailE E d ∈ D.map (tailE E) := List.mem_map_of_mem h
theorem spot_ex (hT : trgB N E A = true) {go : Int → Prop} {L1 M : List Int} {a b f : Int} (h : Pee E A go (L1 ++ a :: b :: f :: M)) (hfr : ∀ d, isD E d → tailE E d = tailE E b → ∀ x, x ∈ L1 ∨ x ∈ M → tailE E (oth d) ≠ tailE E x) :
    ∃ X G p q, Spot E A go L1 a b f M X G p q := by
  have hV := trg_valid hT
  have hF := (Fans.app.1 h.fans).2
  obtain ⟨hab, hbf, _⟩ := hF
  obtain ⟨ha, hb, hta, X, G, p, q, hr, hl, hX, hG⟩ := hab
  have htf := hbf.2.2.1
  obtain ⟨hc, hn, hm⟩ := rot_row hV hb hr hl (by simp)
  refine ⟨X, G, p, q, hr, hl, fun d hd => ⟨hX d hd, fun hk => ?_⟩, hG, hta, htf, ha, hb⟩
  have hdm := (hm d).1 (by simp [hd])
  obtain ⟨x, hx, e⟩ := List.mem_map.1 hk
  have hx' : x ∈ L1 ∨ x = a ∨ x = b ∨ x = f ∨ x ∈ M := by simpa using hx
  rcases hx' with k | k | k | k | k
  · exact hfr d hdm.1 hdm.2 x (Or.inl k) e.symm
  · subst k
    have : d = oth x := dart_uniq hT hdm.1 ha.oth (hdm.2.trans hta.symm) (by rw [oth_oth]; exact e.symm)
    subst this
    rw [List.nodup_cons] at hn
    exact hn.1 (by simp [hd])
  · subst k
    exact cho_ne hV (c := fun _ => tailE E x) (s := 0) (t := 0) ⟨d, hdm.1, hdm.2, e.symm⟩ rfl
  · subst k
    have : d = b := dart_uniq hT hdm.1 hb hdm.2 (e.symm.trans htf.symm)
    subst this
    rw [List.nodup_cons, List.nodup_append] at hn
    exact hn.2.2.2 d hd d (by simp) rfl
  · exact hfr d hdm.1 hdm.2 x (Or.inr k) e.symm
end
end Go.Proofs.YtlealdicoceekaaDoor

/- One step of the peeling, plain: taking a vertex that sees no other of the contour than those beside it leaves a contour again. -/
namespace Go.Proofs.YtlealdicoceekaaDoor

theorem last_in {o e : Int} {L W : List Int} (h : o :: L = W ++ [e]) (h0 : L ≠ []) : e ∈ L := by
  cases W with
  | nil => simp at h; exact absurd h.2 h0
  | cons c W =>
    rw [List.cons_append] at h
    rw [(List.cons.inj h).2]
    simp
section
variable {N : Int} {E : List (Int × Int)} {A : List (List Int)}
theorem pee_closed {go : Int → Prop} {x f : Int} {P M : List Int} (h : Pee E A go (x :: P ++ f :: M)) : (M = [] → tailE E (oth f) = tailE E x) ∧ (∀ g M', M = g :: M' → tailE E (oth f) = tailE E g) ∧ (1 : Int) ∈ f :: M ∧ (M ≠ [] → (1 : Int) ∈ M) := by
  obtain ⟨T, g, hT⟩ := snoc_ex f M
  obtain ⟨L, hL⟩ := h.last
  have hg : g = 1 := by
    rw [hT, ← List.append_assoc] at hL
    have := (List.append_inj' hL rfl).2
    simpa using this
  subst hg
  have h1 : (1 : Int) ∈ f :: M := by rw [hT]; simp
  refine ⟨fun hM => ?_, fun g M' hM => ?_, h1, fun hM => last_in hT hM⟩
  · subst hM
    rw [List.mem_singleton] at h1
    rw [← h1]
    have := h.fans
    exact this.1.2.2.1
  · subst hM
    have := (Fans.app.1 h.fans).2
    exact this.1.2.2.1
/-- What is on the new contour. -/
theorem new_tails (hT : trgB N E A = true) {go : Int → Prop} {L1 M : List Int} {a b f : Int} {X G p q : List Int} (hS : Spot E A go L1 a b f M X G p q) :
    (L1 ++ ((oth a :: X).map (thd A) ++ f :: M)).map (tailE E) = L1.map (tailE E) ++ (tailE E a :: (X.map (fun d => tailE E (oth d)) ++ (f :: M).map (tailE E))) := by
  have hV := trg_valid hT
  obtain ⟨hc, hn, hm⟩ := rot_row hV hS.db hS.row hS.rot (by simp)
  rw [List.map_append, List.map_append, List.map_map]
  congr 1
  rw [← List.cons_append]
  congr 1
  rw [List.map_cons]
  congr 1
  · show tailE E (thd A (oth a)) = _
    rw [(thd_ok hT hS.da.oth).2.2.2.1, oth_oth]
  · apply List.map_congr_left
    intro d hd
    exact (thd_ok hT ((hm d).1 (by simp [hd])).1).2.2.2.1
theorem pee_take (hT : trgB N E A = true) {go go' : Int → Prop} {L1 M : List Int} {a b f : Int} (h : Pee E A go (L1 ++ a :: b :: f :: M)) (hfr : ∀ d, isD E d → tailE E d = tailE E b → ∀ x, x ∈ L1 ∨ x ∈ M → tailE E (oth d) ≠ tailE E x)
    {X G p q : List Int} (hS : Spot E A go L1 a b f M X G p q) (hgo : ∀ x, go' x ↔ go x ∨ x = tailE E b) (hne : L1 ≠ [] ∨ M ≠ [] ∨ X ≠ []) : Pee E A go' (L1 ++ ((oth a :: X).map (thd A) ++ f :: M)) := by
  have hV := trg_valid hT
  obtain ⟨hc, hn, hm⟩ := rot_row hV hS.db hS.row hS.rot (by simp)
  have hc' : Ch (sucF A) (oth a) (X ++ b :: G) (oth a) := hc
  obtain ⟨z, Z, hZ, hz⟩ := Ch.snd hc'
  have hnd := h.nd
  simp only [List.map_append, List.map_cons, List.nodup_append, List.nodup_cons, List.mem_cons, not_or] at hnd
  obtain ⟨n1, ⟨⟨n2, n3, n4⟩, ⟨n5, n6⟩, n7, n8⟩, n9⟩ := hnd
  have fL : ∀ x ∈ L1, tailE E x ≠ tailE E a ∧ tailE E x ≠ tailE E b ∧ tailE E x ≠ tailE E f ∧ ∀ y ∈ M, tailE E x ≠ tailE E y := fun x hx =>
    ⟨n9 _ (mem_tails hx) _ (Or.inl rfl), n9 _ (mem_tails hx) _ (Or.inr (Or.inl rfl)), n9 _ (mem_tails hx) _ (Or.inr (Or.inr (Or.inl rfl))), fun y hy => n9 _ (mem_tails hx) _ (Or.inr (Or.inr (Or.inr (mem_tails hy))))⟩
  have fM : ∀ y ∈ M, tailE E a ≠ tailE E y ∧ tailE E b ≠ tailE E y ∧ tailE E f ≠ tailE E y := fun y hy => ⟨fun e => n4 (e ▸ mem_tails hy), fun e => n6 (e ▸ mem_tails hy), fun e => n7 (e ▸ mem_tails hy)⟩
  obtain ⟨F1, F2⟩ := Fans.app.1 h.fans
  obtain ⟨hab, hbf, hfM⟩ := F2
  obtain ⟨W, e, hW⟩ := snoc_ex 1 L1
  obtain ⟨F1', hea⟩ := (Fans.snoc hW).1 F1
  have h1D : (1 : Int) ∈ f :: M ∧ (M ≠ [] → (1 : Int) ∈ M) := by
    cases L1 with
    | nil => exact (pee_closed (x := a) (P := [b]) h).2.2
    | cons l L1 => exact (pee_closed (x := l) (P := L1 ++ [a, b]) (by simpa using h)).2.2
  have hf : (tailE E (oth f) ∈ (L1 ++ a :: b :: f :: M).map (tailE E)) ∧ (tailE E (oth f) = tailE E a → L1 = [] ∧ M = []) := by
    cases L1 with
    | nil =>
      obtain ⟨c1, c2, _⟩ := pee_closed (x := a) (P := [b]) h
      cases M with
      | nil => exact ⟨by rw [c1 rfl]; simp, fun _ => ⟨rfl, rfl⟩⟩
      | cons g M => exact ⟨by rw [c2 g M rfl]; simp, fun k => absurd ((c2 g M rfl).symm.trans k).symm (fM g (by simp)).1⟩
    | cons l L1 =>
      obtain ⟨c1, c2, _⟩ := pee_closed (x := l) (P := L1 ++ [a, b]) (by simpa using h)
      cases M with
      | nil => exact ⟨by rw [c1 rfl]; simp, fun k => absurd ((c1 rfl).symm.trans k) (fL l (by simp)).1⟩
      | cons g M => exact ⟨by rw [c2 g M rfl]; simp, fun k => absurd ((c2 g M rfl).symm.trans k).symm (fM g (by simp)).1⟩
  have he : (tailE E e ∈ (L1 ++ a :: b :: f :: M).map (tailE E)) ∧ (tailE E e = tailE E f → L1 = [] ∧ M = []) := by
    by_cases hL : L1 = []
    · subst hL
      have e1 : e = 1 := by
        cases W with
        | nil => simpa using hW.symm
        | cons c W => simp at hW
      subst e1
      refine ⟨mem_tails (by have := h1D.1; simp only [List.mem_cons] at this; rcases this with k | k <;> simp [k]), fun k => ⟨rfl, ?_⟩⟩
      apply Classical.byContradiction
      intro hM
      exact (fM 1 (h1D.2 hM)).2.2 k.symm
    · have := last_in hW hL
      exact ⟨mem_tails (by simp [this]), fun k => absurd k (fL e this).2.2.1⟩
  obtain ⟨y1, y2, y3, y4, y5⟩ := thd_ok hT hS.da.oth
  rw [oth_oth] at y2 y4
  have hzm : z ∈ oth a :: X := by rw [hZ]; simp
  have hzd := (hm z).1 (by rcases List.mem_cons.1 hzm with k | k <;> simp [k])
  obtain ⟨z1, z2, z3, z4, z5⟩ := thd_ok hT hzd.1
  rw [hz] at z3 z5
  have hX : ∀ x ∈ X, ∀ u, tailE E (oth x) = u → u ∈ (L1 ++ a :: b :: f :: M).map (tailE E) → False := fun x hx u e hu => (hS.ins x hx).2 (e ▸ hu)
  have hy0 : thd A (oth a) ≠ oth e := fun k => by
    rw [k, oth_oth] at y5
    cases hXe : X with
    | nil =>
      rw [hXe] at hc'
      rw [hc'.1, hS.tf] at y5
      obtain ⟨k1, k2⟩ := he.2 y5
      rcases hne with k | k | k <;> contradiction
    | cons x X' =>
      rw [hXe] at hc'
      rw [hc'.1] at y5
      exact hX x (by rw [hXe]; simp) _ y5.symm he.1
  have hyk : oth (thd A z) ≠ f := fun k => by
    have e1 : tailE E (oth f) = tailE E (oth z) := by rw [← k, oth_oth, z4]
    have hnX : z ∉ X := fun hx => hX z hx _ e1.symm hf.1
    have hX0 : X = [] := Classical.byContradiction fun h0 => hnX (last_in hZ h0)
    rcases List.mem_cons.1 hzm with k | k
    · rw [k, oth_oth] at e1
      obtain ⟨k1, k2⟩ := hf.2 e1
      rcases hne with k | k | k <;> contradiction
    · exact hnX k
  have hb1 : go' (tailE E b) := (hgo _).2 (Or.inr rfl)
  have hkeep : ∀ x y, (y ∈ L1 ∨ y ∈ M) → Fan E A go x y → Fan E A go' x y := fun x y hy hF => fan_keep hV hF (fun x hx => (hgo x).2 (Or.inl hx)) (fun x hx => (hgo x).1 hx) fun d hd ht k => hfr (oth d) hd.oth k y hy (by rw [oth_oth]; exact ht)
  have hsX : ∀ d ∈ X, isD E d ∧ tailE E d = tailE E b := fun d hd => (hm d).1 (by simp [hd])
  have hset : ∀ u, u ∈ (L1 ++ ((oth a :: X).map (thd A) ++ f :: M)).map (tailE E) ↔ (u ∈ (L1 ++ a :: b :: f :: M).map (tailE E) ∧ u ≠ tailE E b) ∨ ∃ d ∈ X, u = tailE E (oth d) := fun u => by
    rw [new_tails hT hS]
    simp only [List.map_append, List.map_cons, List.mem_append, List.mem_cons, List.mem_map]
    constructor
    · rintro (⟨x, hx, rfl⟩ | rfl | ⟨d, hd, rfl⟩ | rfl | ⟨y, hy, rfl⟩)
      · exact Or.inl ⟨Or.inl ⟨x, hx, rfl⟩, (fL x hx).2.1⟩
      · exact Or.inl ⟨Or.inr (Or.inl rfl), n2⟩
      · exact Or.inr ⟨d, hd, rfl⟩
      · exact Or.inl ⟨Or.inr (Or.inr (Or.inr (Or.inl rfl))), fun k => n5 k.symm⟩
      · exact Or.inl ⟨Or.inr (Or.inr (Or.inr (Or.inr ⟨y, hy, rfl⟩))), fun k => (fM y hy).2.1 k.symm⟩
    · rintro (⟨(⟨x, hx, rfl⟩ | rfl | rfl | rfl | ⟨y, hy, rfl⟩), hb⟩ | ⟨d, hd, rfl⟩)
      · exact Or.inl ⟨x, hx, rfl⟩
      · exact Or.inr (Or.inl rfl)
      · exact absurd rfl hb
      · exact Or.inr (Or.inr (Or.inr (Or.inl rfl)))
      · exact Or.inr (Or.inr (Or.inr (Or.inr ⟨y, hy, rfl⟩)))
      · exact Or.inr (Or.inr (Or.inl ⟨d, hd, rfl⟩))
  have hXb : ∀ d ∈ X, tailE E (oth d) ≠ tailE E b := fun d hd k => hX d hd _ k (by simp)
  refine ⟨?_, ?_, ?_, ?_, ?_⟩
  · show Fans (Fan E A go') 1 (L1 ++ thd A (oth a) :: (X.map (thd A) ++ f :: M))
    refine Fans.app.2 ⟨(Fans.snoc hW).2 ⟨Fans.mono (fun x y hy hF => hkeep x y (Or.inl hy) hF) F1', ?_⟩, Fans.app.2 ⟨(Fans.snoc (W := Z.map (thd A)) (e := thd A z) (by have := congrArg (List.map (thd A)) hZ; simpa using this)).2 ⟨?_, ?_⟩, Fans.mono (fun x y hy hF => hkeep x y (Or.inr hy) hF) hfM⟩⟩
    · exact fan_left hT hea y1 y2 hy0 (by rw [hS.ta]; exact hb1) (fun x hx => (hgo x).2 (Or.inl hx)) (fun x hx => by rw [hS.ta]; exact (hgo x).1 hx)
    · refine fans_mid hT hb1 (z := b) (Ch.app.1 hc').1 ?_ ?_ ?_
      · have hn' := hn
        have : (oth a :: (X ++ [b])).Sublist (oth a :: (X ++ b :: G)) := by
          refine List.Sublist.cons_cons _ (List.Sublist.append (List.Sublist.refl _) ?_)
          exact List.Sublist.cons_cons _ (List.nil_sublist _)
        exact hn'.sublist this
      · intro d hd
        have hd' : d = oth a ∨ d ∈ X ∨ d = b := by simpa using hd
        exact (hm d).1 (by rcases hd' with k | k | k <;> simp [k])
      · intro d hd f' hf' ht' hne' hg'
        rcases (hgo _).1 hg' with k | k
        · exact h.inn f' hf' (by rw [ht']; exact (hS.ins d hd).1) (by rw [ht']; exact (hS.ins d hd).2) k
        · exact hne' (dart_uniq hT hf' (hsX d hd).1.oth ht' (by rw [oth_oth, k]; exact (hsX d hd).2.symm))
    · exact fan_right hT hbf z1 z3 hyk (z5.trans hS.tf) hb1 (fun x hx => (hgo x).2 (Or.inl hx)) (fun x hx => (hgo x).1 hx)
  · obtain ⟨T, g, hT'⟩ := snoc_ex f M
    obtain ⟨L, hL⟩ := h.last
    have hg : g = 1 := by
      have hL' : (L1 ++ a :: b :: T) ++ [g] = L ++ [1] := by rw [← hL, List.append_assoc, List.cons_append, List.cons_append, ← hT']
      have := (List.append_inj' hL' rfl).2
      simpa using this
    rw [hg] at hT'
    exact ⟨L1 ++ ((oth a :: X).map (thd A) ++ T), by rw [hT', List.append_assoc, List.append_assoc]⟩
  · rw [new_tails hT hS]
    have hXn : (X.map (fun d => tailE E (oth d))).Nodup := by
      unfold List.Nodup
      rw [List.pairwise_map]
      have hXn : X.Nodup := by
        rw [List.nodup_cons, List.nodup_append] at hn
        exact hn.2.1
      exact List.Pairwise.imp_of_mem (fun {x y} hx hy hxy k => hxy (dart_uniq hT (hsX x hx).1 (hsX y hy).1 ((hsX x hx).2.trans (hsX y hy).2.symm) k)) hXn
    have hXo : ∀ u ∈ X.map (fun d => tailE E (oth d)), ∀ d ∈ L1 ++ a :: b :: f :: M, u ≠ tailE E d := fun u hu d hd k => by
      obtain ⟨x, hx, e⟩ := List.mem_map.1 hu
      exact hX x hx _ (e.trans k) (mem_tails hd)
    have hXf : (X.map (fun d => tailE E (oth d)) ++ (f :: M).map (tailE E)).Nodup := by
      refine List.nodup_append.2 ⟨hXn, ?_, fun u hu v hv k => ?_⟩
      · rw [List.map_cons, List.nodup_cons]; exact ⟨n7, n8⟩
      · obtain ⟨y, hy, e⟩ := List.mem_map.1 hv
        exact hXo u hu y (by rcases List.mem_cons.1 hy with k | k <;> simp [k]) (k.trans e.symm)
    refine List.nodup_append.2 ⟨n1, List.nodup_cons.2 ⟨fun hk => ?_, hXf⟩, fun u hu v hv k => ?_⟩
    · rcases List.mem_append.1 hk with hk | hk
      · exact hXo _ hk a (by simp) rfl
      · rw [List.map_cons, List.mem_cons] at hk
        rcases hk with hk | hk
        · exact n3 hk
        · exact n4 hk
    · obtain ⟨x, hx, rfl⟩ := List.mem_map.1 hu
      subst k
      rcases List.mem_cons.1 hv with hv | hv
      · exact (fL x hx).1 hv
      rcases List.mem_append.1 hv with hv | hv
      · exact hXo _ hv x (by simp [hx]) rfl
      · obtain ⟨y, hy, e⟩ := List.mem_map.1 hv
        rcases List.mem_cons.1 hy with rfl | hy
        · exact (fL x hx).2.2.1 e.symm
        · exact (fL x hx).2.2.2 y hy e.symm
  · intro d hd hg
    rcases (hset _).1 (mem_tails hd) with ⟨k1, k2⟩ | ⟨x, hx, k⟩
    · rcases (hgo _).1 hg with k | k
      · obtain ⟨y, hy, e⟩ := List.mem_map.1 k1
        exact h.ng y hy (e ▸ k)
      · exact k2 k
    · rw [k] at hg
      rcases (hgo _).1 hg with k | k
      · exact (hS.ins x hx).1 k
      · exact hXb x hx k
  · intro d hd hg ht hk
    have hD : tailE E d ∉ (L1 ++ a :: b :: f :: M).map (tailE E) := fun hm' => ht ((hset _).2 (Or.inl ⟨hm', fun k => hg (k ▸ hb1)⟩))
    have hg0 : ¬ go (tailE E d) := fun k => hg ((hgo _).2 (Or.inl k))
    rcases (hgo _).1 hk with k | k
    · exact h.inn d hd hg0 hD k
    · have hmem := (hm (oth d)).2 ⟨hd.oth, k⟩
      have hmem' : oth d = oth a ∨ oth d ∈ X ∨ oth d = b ∨ oth d ∈ G := by simpa using hmem
      rcases hmem' with k | k | k | k
      · have : d = a := by rw [← oth_oth d, k, oth_oth]
        exact hD (this ▸ mem_tails (by simp))
      · exact ht ((hset _).2 (Or.inr ⟨_, k, by rw [oth_oth]⟩))
      · have := hS.tf
        rw [← k, oth_oth] at this
        exact hD (this ▸ mem_tails (by simp))
      · have := hS.out _ k
        rw [oth_oth] at this
        exact hg0 this
end
end Go.Proofs.YtlealdicoceekaaDoor

/- The peeling as the program does it, plain: a step. -/
namespace Go.Proofs.YtlealdicoceekaaDoor

theorem ge_mid (P Q : List Int) (x : Int) : ge (P ++ x :: Q) P.length = x := by unfold ge; simp
/-- The states: 2 for what is gone, 1 for the contour, 0 for what is inside. -/
theorem split3 {D : List Int} {t : Nat} (h0 : 0 < t) (h1 : t + 1 < D.length) : ∃ L1 a b f M, D = L1 ++ a :: b :: f :: M ∧ t = L1.length + 1 := by
  obtain ⟨s, rfl⟩ : ∃ s, t = s + 1 := ⟨t - 1, by omega⟩
  have hl : (D.drop s).length = D.length - s := List.length_drop
  match hd : D.drop s with
  | [] => rw [hd] at hl; simp at hl; omega
  | [a] => rw [hd] at hl; simp at hl; omega
  | [a, b] => rw [hd] at hl; simp at hl; omega
  | a :: b :: f :: M =>
    refine ⟨D.take s, a, b, f, M, ?_, ?_⟩
    · rw [← hd, List.take_append_drop]
    · rw [List.length_take]; omega

section
variable {N : Int} {E : List (Int × Int)} {A : List (List Int)}
theorem head_in (hV : vRot N E A) {d : Int} (hd : isD E d) : 0 ≤ tailE E d ∧ tailE E d < (A.length : Int) := by
  have := tail_in hV hd.1 hd.2
  have := hV.al
  omega
/-- The neighbours of a vertex of the contour, in the order from the left one on. -/
theorem near_rot {a b f : Int} {go : Int → Prop} {L1 M X G p q : List Int} (hS : Spot E A go L1 a b f M X G p q) :
    nearL E (rowOf A (tailE E b).toNat) = nearL E p ++ nearL E q ∧ nearL E q ++ nearL E p = tailE E a :: (nearL E X ++ tailE E f :: nearL E G) := by
  constructor
  · rw [hS.row]; unfold nearL; rw [List.map_append]
  · unfold nearL
    rw [← List.map_append, hS.rot, List.map_cons, List.map_append, List.map_cons, oth_oth, hS.tf]
end
end Go.Proofs.YtlealdicoceekaaDoor

/- The peeling as the program does it, plain: a step forth and a step back. -/
namespace Go.Proofs.YtlealdicoceekaaDoor

theorem nodup_len {l : List Int} {n : Nat} (h : l.Nodup) (hr : ∀ u ∈ l, 0 ≤ u ∧ u < (n : Int)) : l.length ≤ n := by
  have := List.Nodup.length_le_of_subset h (l₂ := idL n) (fun u hu => mem_idL.2 (hr u hu))
  rwa [idL_len] at this
theorem geA_l {P : List Int} (Q : List Int) {s : Nat} (h : s < P.length) : ge (P ++ Q) s = ge P s := by
  rw [ge_eq _ (by rw [List.length_append]; omega), ge_eq _ h, List.getElem_append_left h]
theorem geA_r (P Q : List Int) (s : Nat) : ge (P ++ Q) (P.length + s) = ge Q s := by
  unfold ge
  rw [List.getD_eq_getElem?_getD, List.getD_eq_getElem?_getD, List.getElem?_append_right (by omega), Nat.add_sub_cancel_left]
theorem oth_1 : oth 1 = 0 := by decide
section
variable {N : Int} {E : List (Int × Int)} {A : List (List Int)}
theorem ends_in {go : Int → Prop} {L1 M : List Int} {a b f : Int} (h : Pee E A go (L1 ++ a :: b :: f :: M)) :
    tailE E 0 ∈ (L1 ++ a :: b :: f :: M).map (tailE E) ∧ tailE E 1 ∈ (L1 ++ a :: b :: f :: M).map (tailE E) ∧ tailE E 0 ≠ tailE E b ∧ tailE E 1 ≠ tailE E b ∧ (L1 = [] → tailE E a = tailE E 0) ∧ (M = [] → f = 1) := by
  have hnd := h.nd
  simp only [List.map_append, List.map_cons, List.nodup_append, List.nodup_cons, List.mem_cons, not_or] at hnd
  obtain ⟨n1, ⟨⟨n2, n3, n4⟩, ⟨n5, n6⟩, n7, n8⟩, n9⟩ := hnd
  have h1 : (1 : Int) ∈ f :: M := by
    cases L1 with
    | nil => exact (pee_closed (x := a) (P := [b]) h).2.2.1
    | cons l L1 => exact (pee_closed (x := l) (P := L1 ++ [a, b]) (by simpa using h)).2.2.1
  have h1b : tailE E 1 ≠ tailE E b := fun k => by
    rcases List.mem_cons.1 h1 with e | e
    · exact n5 (by rw [← e, k])
    · exact n6 (k ▸ mem_tails e)
  have hf : M = [] → f = 1 := fun e => by
    subst e
    exact (List.mem_singleton.1 h1).symm
  have h1m : tailE E 1 ∈ (L1 ++ a :: b :: f :: M).map (tailE E) := mem_tails (by
    rw [List.mem_append]
    right
    exact List.mem_cons_of_mem _ (List.mem_cons_of_mem _ h1))
  cases L1 with
  | nil =>
    have : tailE E 0 = tailE E a := by
      have := h.fans
      have := this.1.2.2.1
      rwa [oth_1] at this
    exact ⟨by rw [this]; simp, h1m, by rw [this]; exact n2, h1b, fun _ => this.symm, hf⟩
  | cons l L1 =>
    have : tailE E 0 = tailE E l := by
      have := h.fans
      have := this.1.2.2.1
      rwa [oth_1] at this
    exact ⟨by rw [this]; simp, h1m, by rw [this]; exact n9 _ (by simp) _ (Or.inr (Or.inl rfl)), h1b, fun e => (by cases e), hf⟩
theorem fans_range (hV : vRot N E A) {go : Int → Prop} {D : List Int} (h : Pee E A go D) : ∀ u ∈ D.map (tailE E), 0 ≤ u ∧ u < (A.length : Int) := fun u hu => by
  obtain ⟨d, hd, rfl⟩ := List.mem_map.1 hu
  exact head_in hV (Fans.dart h.fans d hd)
end
end Go.Proofs.YtlealdicoceekaaDoor

/- The peeling as the program does it, plain: a step back, and the end. -/
namespace Go.Proofs.YtlealdicoceekaaDoor

section
variable {N : Int} {E : List (Int × Int)} {A : List (List Int)}
/-- A step over a stretch of the contour whose vertices, and no others, are joined with the new one. -/
theorem span_mid {P Z Q : List Int} {a z w : Int} (hm : ∀ u ∈ a :: (Z ++ [z]), joinB E u w = true) (hn : ∀ u, u ∈ P ∨ u ∈ Q → ¬ joinB E u w = true) :
    (stepI E (P ++ (a :: (Z ++ z :: Q))) w).length = Z.length + 2 ∧ spanF (P ++ (a :: (Z ++ z :: Q))) w (stepI E (P ++ (a :: (Z ++ z :: Q))) w) = some (P ++ a :: w :: z :: Q) := by
  have hJn : ((List.range' P.length (Z.length + 2)).map (fun i : Nat => (i : Int))).Nodup := by
    unfold List.Nodup
    rw [List.pairwise_map]
    exact (List.nodup_range' (s := P.length) (n := Z.length + 2)).imp (fun h e => h (by omega))
  have hmem : ∀ i, i ∈ stepI E (P ++ (a :: (Z ++ z :: Q))) w ↔ i ∈ (List.range' P.length (Z.length + 2)).map (fun i : Nat => (i : Int)) := fun i => by
    rw [stepI_mem, List.mem_map]
    constructor
    · rintro ⟨k, hk, hj, rfl⟩
      refine ⟨k, ?_, rfl⟩
      rw [List.mem_range'_1]
      refine ⟨Nat.le_of_not_lt fun h => ?_, Nat.lt_of_not_le fun h => ?_⟩
      · rw [geA_l _ h] at hj
        exact hn _ (Or.inl (ge_mem h)) hj
      · obtain ⟨s, rfl⟩ : ∃ s, k = (P ++ (a :: (Z ++ [z]))).length + s := ⟨k - (P ++ (a :: (Z ++ [z]))).length, by simp; omega⟩
        rw [show P ++ (a :: (Z ++ z :: Q)) = (P ++ (a :: (Z ++ [z]))) ++ Q by simp, geA_r] at hj
        exact hn _ (Or.inr (ge_mem (by simp at hk; omega))) hj
    · rintro ⟨k, hk, rfl⟩
      rw [List.mem_range'_1] at hk
      obtain ⟨s, rfl⟩ : ∃ s, k = P.length + s := ⟨k - P.length, by omega⟩
      refine ⟨P.length + s, by simp; omega, ?_, rfl⟩
      rw [geA_r, show a :: (Z ++ z :: Q) = (a :: (Z ++ [z])) ++ Q by simp, geA_l _ (by simp; omega)]
      exact hm _ (ge_mem (by simp; omega))
  obtain ⟨e1, e2⟩ := spanF_congr (C := P ++ (a :: (Z ++ z :: Q))) (w := w) (fun i hi => (stepI_pos hi).1) (stepI_nodup _ w) hJn hmem
  rw [e2, e1]
  have hJl : ((List.range' P.length (Z.length + 2)).map (fun i : Nat => (i : Int))).length = Z.length + 2 := by simp
  refine ⟨hJl, ?_⟩
  have hJ0 : ∀ i ∈ (List.range' P.length (Z.length + 2)).map (fun i : Nat => (i : Int)), (P.length : Int) ≤ i ∧ i ≤ P.length + Z.length + 1 := fun i hi => by
    obtain ⟨k, hk, rfl⟩ := List.mem_map.1 hi
    rw [List.mem_range'_1] at hk
    omega
  have hJe : (List.range' P.length (Z.length + 2)).map (fun i : Nat => (i : Int)) ≠ [] := fun e => by rw [e] at hJl; simp at hJl
  obtain ⟨l1, l2⟩ := lo_mem (fun i hi => by have := hJ0 i hi; omega) hJe
  obtain ⟨g1, g2⟩ := hi_mem (fun i hi => by have := hJ0 i hi; omega) hJe
  have l3 := l2 (P.length : Int) (List.mem_map.2 ⟨P.length, List.mem_range'_1.2 ⟨by omega, by omega⟩, rfl⟩)
  have g3 := g2 ((P.length + Z.length + 1 : Nat) : Int) (List.mem_map.2 ⟨P.length + Z.length + 1, List.mem_range'_1.2 ⟨by omega, by omega⟩, rfl⟩)
  have l4 := hJ0 _ l1
  have g4 := hJ0 _ g1
  have hlo : lo ((List.range' P.length (Z.length + 2)).map (fun i : Nat => (i : Int))) = P.length := by omega
  have hhi : hi ((List.range' P.length (Z.length + 2)).map (fun i : Nat => (i : Int))) = P.length + Z.length + 1 := by omega
  unfold spanF
  rw [hJl, hlo, hhi, if_neg (by omega)]
  have t1 : (P ++ (a :: (Z ++ z :: Q))).take ((P.length : Int) + 1).toNat = P ++ [a] := by
    rw [show ((P.length : Int) + 1).toNat = (P ++ [a]).length by simp, show P ++ (a :: (Z ++ z :: Q)) = (P ++ [a]) ++ (Z ++ z :: Q) by simp]
    exact List.take_left' rfl
  have t2 : (P ++ (a :: (Z ++ z :: Q))).drop ((P.length : Int) + Z.length + 1).toNat = z :: Q := by
    rw [show ((P.length : Int) + Z.length + 1).toNat = (P ++ a :: Z).length by simp; omega, show P ++ (a :: (Z ++ z :: Q)) = (P ++ a :: Z) ++ (z :: Q) by simp]
    exact List.drop_left' rfl
  rw [t1, t2]
  simp
/-- The canonical step gives the old contour again. -/
theorem step_back (hT : trgB N E A = true) {ord L1 M : List Int} {a b f : Int} (hP : Pee E A (· ∈ ord) (L1 ++ a :: b :: f :: M)) (hfr : ∀ d, isD E d → tailE E d = tailE E b → ∀ x, x ∈ L1 ∨ x ∈ M → tailE E (oth d) ≠ tailE E x)
    {X G p q : List Int} (hS : Spot E A (· ∈ ord) L1 a b f M X G p q) {S : List Int} (hSn : S.Nodup) (hSm : ∀ u, u ∈ S ↔ (0 ≤ u ∧ u < (A.length : Int)) ∧ u ∉ ord ∧ u ≠ tailE E b) :
    stepF E S ((L1 ++ ((oth a :: X).map (thd A) ++ f :: M)).map (tailE E)) (tailE E b) = some ((L1 ++ a :: b :: f :: M).map (tailE E)) := by
  have hV := trg_valid hT
  obtain ⟨hc, hn, hm⟩ := rot_row hV hS.db hS.row hS.rot (by simp)
  obtain ⟨e1, e2⟩ := near_rot hS
  obtain ⟨v, hv, _, hvt⟩ := row_of hV hS.db.1 hS.db.2
  have hvn : (tailE E b).toNat = v := by omega
  rw [hvn] at e1
  have hdf : isD E f := Fans.dart hP.fans f (by simp)
  have hnr : ∀ u, joinB E u (tailE E b) = true ↔ u ∈ tailE E a :: (nearL E X ++ tailE E f :: nearL E G) := fun u => by
    rw [← e2, hvt, ← near_mem hV hv, e1, List.mem_append, List.mem_append, or_comm]
  have hnn : (tailE E a :: (nearL E X ++ tailE E f :: nearL E G)).Nodup := by
    have := near_nodup hV (trg_simple hT) hv
    rw [e1] at this
    rw [← e2]
    exact (List.perm_append_comm.nodup_iff).1 this
  have hmn : (tailE E a :: (nearL E X ++ [tailE E f])).Nodup := hnn.sublist (List.Sublist.cons_cons _ (List.Sublist.append (List.Sublist.refl _) (List.Sublist.cons_cons _ (List.nil_sublist _))))
  have hmS : ∀ u ∈ tailE E a :: (nearL E X ++ [tailE E f]), (0 ≤ u ∧ u < (A.length : Int)) ∧ u ∉ ord ∧ u ≠ tailE E b := fun u hu => by
    have hnd := hP.nd
    simp [List.nodup_append] at hnd
    rcases List.mem_cons.1 hu with rfl | hu
    · exact ⟨head_in hV hS.da, hP.ng a (by simp), hnd.2.1.1.1⟩
    rcases List.mem_append.1 hu with hu | hu
    · obtain ⟨d, hd, rfl⟩ := List.mem_map.1 hu
      exact ⟨head_in hV ((hm d).1 (by simp [hd])).1.oth, (hS.ins d hd).1, fun k => (hS.ins d hd).2 (by rw [k]; simp)⟩
    · rw [List.mem_singleton.1 hu]
      exact ⟨head_in hV hdf, hP.ng f (by simp), fun k => hnd.2.1.2.1.1 k.symm⟩
  have hC : (L1 ++ ((oth a :: X).map (thd A) ++ f :: M)).map (tailE E) = L1.map (tailE E) ++ (tailE E a :: (nearL E X ++ tailE E f :: M.map (tailE E))) := new_tails hT hS
  rw [hC]
  obtain ⟨s1, s2⟩ := span_mid (E := E) (P := L1.map (tailE E)) (Z := nearL E X) (Q := M.map (tailE E)) (a := tailE E a) (z := tailE E f) (w := tailE E b) (fun u hu => (hnr u).2 (by
    rcases List.mem_cons.1 hu with k | k
    · simp [k]
    rcases List.mem_append.1 k with k | k
    · simp [k]
    · rw [List.mem_singleton.1 k]; simp)) (fun u hu hj => by
      rw [hvt] at hj
      obtain ⟨d, hd, rfl⟩ := List.mem_map.1 ((near_mem hV hv).2 hj)
      have hdr := mem_row hV hv hd
      have hx : ∃ x, (x ∈ L1 ∨ x ∈ M) ∧ tailE E x = tailE E (oth d) := by
        rcases hu with k | k
        · obtain ⟨x, hx, e⟩ := List.mem_map.1 k; exact ⟨x, Or.inl hx, e⟩
        · obtain ⟨x, hx, e⟩ := List.mem_map.1 k; exact ⟨x, Or.inr hx, e⟩
      obtain ⟨x, hx, e⟩ := hx
      exact hfr d ⟨hdr.1, hdr.2.1⟩ (hdr.2.2.trans hvt.symm) x hx e.symm)
  unfold stepF
  rw [s1, s2, if_neg]
  · simp
  · have hcount : S.countP (fun u => joinB E u (tailE E b)) = (tailE E a :: (nearL E X ++ [tailE E f])).length := by
      rw [List.countP_eq_length_filter]
      refine Nat.le_antisymm (List.Nodup.length_le_of_subset (hSn.sublist List.filter_sublist) fun u hu => ?_) (List.Nodup.length_le_of_subset hmn fun u hu => ?_)
      · rw [List.mem_filter] at hu
        have h1 := (hSm u).1 hu.1
        have h2 := (hnr u).1 hu.2
        simp only [List.mem_cons, List.mem_append, List.not_mem_nil, or_false] at h2 ⊢
        rcases h2 with k | k | k | k
        · exact Or.inl k
        · exact Or.inr (Or.inl k)
        · exact Or.inr (Or.inr k)
        · obtain ⟨d, hd, rfl⟩ := List.mem_map.1 k
          exact absurd (hS.out d hd) h1.2.1
      · rw [List.mem_filter]
        refine ⟨(hSm u).2 (hmS u hu), (hnr u).2 ?_⟩
        simp only [List.mem_cons, List.mem_append, List.not_mem_nil, or_false] at hu ⊢
        rcases hu with k | k | k
        · exact Or.inl k
        · exact Or.inr (Or.inl k)
        · exact Or.inr (Or.inr (Or.inl k))
    rw [hcount]
    simp [nearL]
/-- Three vertices are left, none inside the triangle: there are no others. -/
theorem fin_all (hT : trgB N E A = true) {ord : List Int} {a b : Int} (hP : Pee E A (· ∈ ord) [a, b, 1]) {G p q : List Int} (hS : Spot E A (· ∈ ord) [] a b 1 [] [] G p q) : ∀ u, 0 ≤ u → u < (A.length : Int) → u ∈ ord ∨ u = tailE E a ∨ u = tailE E b ∨ u = tailE E 1 := by
  have hV := trg_valid hT
  obtain ⟨h1a, hab, hb1, _⟩ := hP.fans
  have hd1 := hb1.2.1
  have hoa : tailE E (oth 1) = tailE E a := h1a.2.2.1
  obtain ⟨y1, y2, y3, y4, y5⟩ := thd_ok hT hS.da.oth
  rw [oth_oth] at y2 y4
  obtain ⟨hc, hn, hm⟩ := rot_row hV hS.db hS.row hS.rot (by simp)
  have hcs : sucF A (oth a) = b := by
    have hc' : Ch (sucF A) (oth a) ([] ++ b :: G) (oth a) := hc
    exact hc'.1
  rw [hcs] at y3 y5
  have hy : thd A (oth a) = oth 1 := dart_uniq hT y1 hd1.oth (y4.trans hoa.symm) (by rw [y5, oth_oth]; exact hS.tf)
  rw [hy] at y2 y3
  rw [oth_oth] at y3
  have hcl : ∀ d, isD E d → (tailE E d ∈ ord ∨ tailE E d = tailE E a ∨ tailE E d = tailE E b ∨ tailE E d = tailE E 1) → (tailE E (oth d) ∈ ord ∨ tailE E (oth d) = tailE E a ∨ tailE E (oth d) = tailE E b ∨ tailE E (oth d) = tailE E 1) := by
    intro d hd hk
    rcases hk with hk | hk | hk | hk
    · apply Classical.byContradiction
      intro hno
      simp only [not_or] at hno
      have := hP.inn (oth d) hd.oth hno.1 (by simp [hno.2])
      rw [oth_oth] at this
      exact this hk
    · obtain ⟨_, _, _, X, G', p', q', hr, hl, hX, hG⟩ := h1a
      obtain ⟨hc1, hn1, hm1⟩ := rot_row hV hS.da hr hl (by simp)
      have hX0 : X = [] := by
        cases X with
        | nil => rfl
        | cons x X =>
          exfalso
          have hc2 : Ch (sucF A) (oth 1) (x :: (X ++ a :: G')) (oth 1) := hc1
          have : x = a := hc2.1.symm.trans y2
          subst this
          rw [List.nodup_cons] at hn1
          have := hn1.2
          simp at this
      subst hX0
      have hd' : d = oth 1 ∨ d = a ∨ d ∈ G' := by simpa using (hm1 d).2 ⟨hd, hk⟩
      rcases hd' with k | k | k
      · rw [k, oth_oth]; simp
      · rw [k, hS.ta]; simp
      · exact Or.inl (hG d k)
    · have hd' : d = oth a ∨ d = b ∨ d ∈ G := by simpa using (hm d).2 ⟨hd, hk⟩
      rcases hd' with k | k | k
      · rw [k, oth_oth]; simp
      · rw [k, hS.tf]; simp
      · exact Or.inl (hS.out d k)
    · obtain ⟨_, _, _, X, G', p', q', hr, hl, hX, hG⟩ := hb1
      obtain ⟨hc1, hn1, hm1⟩ := rot_row hV hd1 hr hl (by simp)
      have hX0 : X = [] := by
        cases X with
        | nil => rfl
        | cons x X =>
          exfalso
          have hc2 : Ch (sucF A) (oth b) (x :: (X ++ 1 :: G')) (oth b) := hc1
          have : x = 1 := hc2.1.symm.trans y3
          subst this
          rw [List.nodup_cons] at hn1
          have := hn1.2
          simp at this
      subst hX0
      have hd' : d = oth b ∨ d = 1 ∨ d ∈ G' := by simpa using (hm1 d).2 ⟨hd, hk⟩
      rcases hd' with k | k | k
      · rw [k, oth_oth]; simp
      · rw [k, hoa]; simp
      · exact Or.inl (hG d k)
  have hcn : ∀ u v, Cn E E.length u v → (u ∈ ord ∨ u = tailE E a ∨ u = tailE E b ∨ u = tailE E 1) → (v ∈ ord ∨ v = tailE E a ∨ v = tailE E b ∨ v = tailE E 1) := by
    intro u v h
    induction h with
    | refl => exact fun h => h
    | step _ hj ih =>
      intro hu
      obtain ⟨d, d0, d1, d2, d3⟩ := dart_nbr hj
      have := hcl d ⟨d0, d1⟩ (by rw [d2]; exact ih hu)
      rwa [d3] at this
  intro u u0 u1
  have hcon := (chk_all (trg_chk hT)).2.1
  unfold connB at hcon
  have hall := (one_comp (E := E) (N := A.length) (by omega)).1 (of_decide_eq_true hcon)
  have ha := head_in hV hS.da
  have k1 := hall (tailE E a).toNat (by omega)
  have k2 := hall u.toNat (by omega)
  rw [show (((tailE E a).toNat : Nat) : Int) = tailE E a by omega] at k1
  rw [show ((u.toNat : Nat) : Int) = u by omega] at k2
  exact hcn _ _ (k1.symm.trans k2) (Or.inr (Or.inl rfl))
end
end Go.Proofs.YtlealdicoceekaaDoor

/- The peeling answers, and what it answers is canonical: plain. -/
namespace Go.Proofs.YtlealdicoceekaaDoor

theorem contR_app {E : List (Int × Int)} {O T : List Int} : ∀ {j : Nat}, j + 2 ≤ O.length → contR E (O ++ T) j = contR E O j
  | 0, h => by
    unfold contR
    rw [geA_l _ (by omega), geA_l _ (by omega)]
  | j + 1, h => by
    unfold contR
    rw [contR_app (j := j) (by omega), geA_l _ (by omega), List.take_append_of_le_length (by omega)]
section
variable {N : Int} {E : List (Int × Int)} {A : List (List Int)}
noncomputable def peel0 (N : Int) (E : List (Int × Int)) (A : List (List Int)) : List Int := [tailF N E A 0, thirdF N E A, tailF N E A 1]
/-- What the peeling yields from a contour on: R behind ord. -/
structure Rest (E : List (Int × Int)) (A : List (List Int)) (ord R C : List Int) : Prop where
  nd : (ord ++ R).Nodup
  rng : ∀ u ∈ ord ++ R, 0 ≤ u ∧ u < (A.length : Int)
  v1 : tailE E 0 ∉ ord ++ R
  v2 : tailE E 1 ∉ ord ++ R
  all : ∀ u, 0 ≤ u → u < (A.length : Int) → u = tailE E 0 ∨ u = tailE E 1 ∨ u ∈ ord ++ R
  can : contR E (tailE E 0 :: tailE E 1 :: R.reverse) R.length = some C
theorem dart01 (hT : trgB N E A = true) : isD E 0 ∧ isD E 1 := by
  have := trg_pos hT
  unfold isD
  omega
theorem ends_01 (hT : trgB N E A = true) : tailE E 0 ≠ tailE E 1 := fun e => by
  have hV := trg_valid hT
  exact cho_ne hV (c := fun _ => tailE E 0) (s := 0) (t := 0) ⟨0, (dart01 hT).1, rfl, by show tailE E (oth 0) = tailE E 0; rw [show oth 0 = 1 by decide]; exact e.symm⟩ rfl
theorem Rest.back (hT : trgB N E A = true) {ord R L1 M : List Int} {a b f : Int} (hP : Pee E A (· ∈ ord) (L1 ++ a :: b :: f :: M)) (hfr : ∀ d, isD E d → tailE E d = tailE E b → ∀ x, x ∈ L1 ∨ x ∈ M → tailE E (oth d) ≠ tailE E x)
    {X G p q : List Int} (hS : Spot E A (· ∈ ord) L1 a b f M X G p q) (hR : Rest E A (ord ++ [tailE E b]) R ((L1 ++ ((oth a :: X).map (thd A) ++ f :: M)).map (tailE E))) :
    Rest E A ord (tailE E b :: R) ((L1 ++ a :: b :: f :: M).map (tailE E)) := by
  have hV := trg_valid hT
  have e : ord ++ tailE E b :: R = ord ++ [tailE E b] ++ R := by simp
  obtain ⟨r1, r2, r3, r4, r5, r6⟩ := hR
  refine ⟨by rw [e]; exact r1, by rw [e]; exact r2, by rw [e]; exact r3, by rw [e]; exact r4, by rw [e]; exact r5, ?_⟩
  have hOl : (tailE E 0 :: tailE E 1 :: R.reverse).length = R.length + 2 := by simp
  rw [List.reverse_cons, List.length_cons, ← List.cons_append, ← List.cons_append]
  unfold contR
  rw [contR_app (by omega), r6, Option.bind_some, List.take_left' hOl]
  have hg : ge (tailE E 0 :: tailE E 1 :: R.reverse ++ [tailE E b]) (R.length + 2) = tailE E b := by rw [← hOl]; exact ge_mid _ [] _
  rw [hg]
  have h01 := ends_01 hT
  have n1 := r1
  rw [List.nodup_append] at n1
  refine step_back hT hP hfr hS ?_ fun u => ?_
  · refine List.nodup_cons.2 ⟨fun k => ?_, List.nodup_cons.2 ⟨fun k => ?_, ?_⟩⟩
    · rcases List.mem_cons.1 k with k | k
      · exact h01 k
      · exact r3 (List.mem_append_right _ (List.mem_reverse.1 k))
    · exact r4 (List.mem_append_right _ (List.mem_reverse.1 k))
    · exact ((List.reverse_perm R).nodup_iff).2 n1.2.1
  · rw [List.mem_cons, List.mem_cons, List.mem_reverse]
    constructor
    · rintro (k | k | k)
      · rw [k]
        exact ⟨head_in hV (dart01 hT).1, fun h => r3 (by simp [h]), fun h => r3 (by simp [h])⟩
      · rw [k]
        exact ⟨head_in hV (dart01 hT).2, fun h => r4 (by simp [h]), fun h => r4 (by simp [h])⟩
      · exact ⟨r2 u (List.mem_append_right _ k), fun h => n1.2.2 u (List.mem_append_left _ h) u k rfl, fun h => n1.2.2 (tailE E b) (by simp) u k h.symm⟩
    · rintro ⟨h1, h2, h3⟩
      rcases r5 u h1.1 h1.2 with k | k | k
      · exact Or.inl k
      · exact Or.inr (Or.inl k)
      · simp only [List.mem_append, List.mem_singleton] at k
        rcases k with (k | k) | k
        · exact absurd k h2
        · exact absurd k h3
        · exact Or.inr (Or.inr k)
/-- The peeling ends. -/
theorem fan_start (hT : trgB N E A = true) {a b : Int} (ha : isD E a) (hb : isD E b) (ht : tailE E (oth a) = tailE E b) (hs : sucF A b = oth a) (hne : tailE E (oth b) ≠ tailE E a) : Fan E A (· ∈ ([] : List Int)) a b := by
  have hV := trg_valid hT
  obtain ⟨v, hv, hm, hvt⟩ := row_of hV hb.1 hb.2
  have hvn : (tailE E b).toNat = v := by omega
  obtain ⟨v', hv', hm', hvt'⟩ := row_of hV ha.oth.1 ha.oth.2
  have : v' = v := by omega
  subst this
  obtain ⟨p, q, hpq⟩ := List.append_of_mem hm'
  obtain ⟨hc, hn, hmm⟩ := rot_row hV hb (p := p) (q := oth a :: q) (by rw [hvn]; exact hpq) rfl (by simp)
  rw [List.cons_append] at hc hn hmm
  have hbm := (hmm b).2 ⟨hb, rfl⟩
  have hbne : b ≠ oth a := fun k => hne (by rw [k, oth_oth])
  have hc' : Ch (sucF A) (oth a) ((q ++ p) ++ oth a :: []) (oth a) → True := fun _ => trivial
  rcases List.mem_cons.1 hbm with k | k
  · exact absurd k hbne
  obtain ⟨X, G, hXG⟩ := List.append_of_mem k
  have hG : G = [] := by
    cases G with
    | nil => rfl
    | cons g G =>
      exfalso
      rw [hXG] at hc hn
      have hc2 : Ch (sucF A) (oth a) (X ++ b :: (g :: G)) (oth a) := hc
      have hg : sucF A b = g := (Ch.app.1 hc2).2.1
      rw [hs] at hg
      rw [List.nodup_cons] at hn
      exact hn.1 (by rw [hg]; simp)
  subst hG
  refine ⟨ha, hb, ht, X, [], p, oth a :: q, by rw [hvn]; exact hpq, by rw [List.cons_append, hXG], fun d _ h => (by cases h), fun d hd => (by cases hd)⟩
/-- The start of the peeling. -/
theorem pee_start (hT : trgB N E A = true) : Pee E A (· ∈ ([] : List Int)) [oth (nxF A (nxF A 0)), oth (nxF A 0), 1] ∧ [oth (nxF A (nxF A 0)), oth (nxF A 0), 1].map (tailE E) = peel0 N E A := by
  have hV := trg_valid hT
  have hE := trg_pos hT
  obtain ⟨i0, i1⟩ := dart01 hT
  obtain ⟨d0, d1⟩ := nxF_in hV (e := 0) (by omega) (by omega)
  obtain ⟨f0, f1⟩ := nxF_in hV d0 d1
  have hx : isD E (nxF A 0) := ⟨d0, d1⟩
  have hy : isD E (nxF A (nxF A 0)) := ⟨f0, f1⟩
  have tx : tailE E (nxF A 0) = tailE E 1 := by unfold nxF; rw [show oth 0 = 1 by decide, suc_tail hV i1.1 i1.2]
  have ty : tailE E (nxF A (nxF A 0)) = tailE E (oth (nxF A 0)) := by
    show tailE E (sucF A (oth (nxF A 0))) = _
    rw [suc_tail hV hx.oth.1 hx.oth.2]
  have tz : tailE E (oth (nxF A (nxF A 0))) = tailE E 0 := by
    have := tri_next hT
    have h2 : tailE E (sucF A (oth (nxF A (nxF A 0)))) = tailE E 0 := by
      show tailE E (nxF A (nxF A (nxF A 0))) = _
      rw [this]
    rw [suc_tail hV hy.oth.1 hy.oth.2] at h2
    exact h2
  have n01 := ends_01 hT
  have nx : tailE E (nxF A 0) ≠ tailE E (oth (nxF A 0)) := fun e => cho_ne hV (c := fun _ => tailE E (nxF A 0)) (s := 0) (t := 0) ⟨_, hx, rfl, e.symm⟩ rfl
  have ny : tailE E (nxF A (nxF A 0)) ≠ tailE E (oth (nxF A (nxF A 0))) := fun e => cho_ne hV (c := fun _ => tailE E (nxF A (nxF A 0))) (s := 0) (t := 0) ⟨_, hy, rfl, e.symm⟩ rfl
  have hC : [oth (nxF A (nxF A 0)), oth (nxF A 0), 1].map (tailE E) = [tailE E 0, tailE E (nxF A (nxF A 0)), tailE E 1] := by
    show [tailE E _, tailE E _, tailE E _] = _
    rw [tz, ty]
  have hC0 : [tailE E 0, tailE E (nxF A (nxF A 0)), tailE E 1] = peel0 N E A := by
    unfold peel0 thirdF
    have e0 : tailF N E A 0 = tailE E 0 := by unfold tailF; rw [if_pos ⟨vRotB_iff.2 hV, by omega, by omega⟩]
    have e1 : tailF N E A 1 = tailE E 1 := by unfold tailF; rw [if_pos ⟨vRotB_iff.2 hV, by omega, by omega⟩]
    have h0 : nextF N E A 0 = nxF A 0 := by unfold nextF; rw [if_pos ⟨vRotB_iff.2 hV, by omega, by omega⟩]; rfl
    have h1 : nextF N E A (nxF A 0) = nxF A (nxF A 0) := by unfold nextF; rw [if_pos ⟨vRotB_iff.2 hV, d0, d1⟩]; rfl
    rw [e0, e1, h0, h1]
    unfold tailF
    rw [if_pos ⟨vRotB_iff.2 hV, f0, f1⟩]
  refine ⟨⟨⟨?_, ?_, ?_, trivial⟩, ⟨[oth (nxF A (nxF A 0)), oth (nxF A 0)], rfl⟩, ?_, fun d _ h => (by cases h), fun d _ _ _ h => (by cases h)⟩, hC.trans hC0⟩
  · refine fan_start hT i1 hy.oth (by rw [oth_1, tz]) ?_ ?_
    · rw [oth_1]; exact tri_next hT
    · rw [oth_oth, ty, ← tx]; exact nx.symm
  · refine fan_start hT hy.oth hx.oth (by rw [oth_oth]; exact ty) (by rw [oth_oth]; rfl) ?_
    rw [oth_oth, tx, tz]; exact n01.symm
  · refine fan_start hT hx.oth i1 (by rw [oth_oth]; exact tx) (by rw [oth_oth]; rfl) ?_
    rw [oth_1, ← tz, ← ty]; exact ny.symm
  · rw [hC]
    have a1 : tailE E 0 ≠ tailE E (nxF A (nxF A 0)) := by rw [← tz]; exact ny.symm
    have a2 : tailE E (nxF A (nxF A 0)) ≠ tailE E 1 := by rw [ty, ← tx]; exact nx.symm
    simp [a1, a2, n01]
end
end Go.Proofs.YtlealdicoceekaaDoor

/- Schnyder labelings, plain: the vertices can be taken off the outside so that parents in the trees 0 and 1 stay and the parent in the tree 2 is gone; so no tree has a cycle. -/
namespace Go.Proofs.YtlealdicoceekaaDoor

def lab (L : List Int) (d : Int) : Int := ge L d.toNat
/-- The three roots. -/
def rts (E : List (Int × Int)) (A : List (List Int)) : List Int := [tailE E 0, tailE E 1, tailE E (nxF A (nxF A 0))]
/-- The darts around an inner vertex. -/
def Turn (L : List Int) (l : List Int) : Prop := ∃ o0 I2 o1 I0 o2 I1, l = o0 :: (I2 ++ o1 :: (I0 ++ o2 :: I1)) ∧ lab L o0 = 0 ∧ lab L o1 = 1 ∧ lab L o2 = 2 ∧
  (∀ d ∈ I2, lab L d = -1 ∧ lab L (oth d) = 2) ∧ (∀ d ∈ I0, lab L d = -1 ∧ lab L (oth d) = 0) ∧ ∀ d ∈ I1, lab L d = -1 ∧ lab L (oth d) = 1
/-- A Schnyder labeling. -/
structure Sch (E : List (Int × Int)) (A : List (List Int)) (L : List Int) : Prop where
  len : L.length = 2 * E.length
  rng : ∀ d, isD E d → -1 ≤ lab L d ∧ lab L d ≤ 2
  out : ∀ d, isD E d → tailE E d ∈ rts E A → tailE E (oth d) ∈ rts E A → lab L d = -1
  one : ∀ d, isD E d → ¬ (tailE E d ∈ rts E A ∧ tailE E (oth d) ∈ rts E A) → (lab L d = -1 ↔ lab L (oth d) ≠ -1)
  rt : ∀ d, isD E d → tailE E d ∈ rts E A → lab L d = -1
  ld : ∀ d, isD E d → tailE E (oth d) ∈ rts E A → 0 ≤ lab L d → lab L d = idx (tailE E (oth d)) (rts E A)
  vx : ∀ v : Nat, v < A.length → (v : Int) ∉ rts E A → ∃ p q, rowOf A v = p ++ q ∧ Turn L (q ++ p)

theorem Ch.uniq {f : Int → Int} : ∀ {t t' : List Int} {x z z' : Int}, Ch f x t z → Ch f x t' z' → t.length = t'.length → t = t'
  | [], [], _, _, _, _, _, _ => rfl
  | [], y :: t', _, _, _, _, _, h => by simp at h
  | y :: t, [], _, _, _, _, _, h => by simp at h
  | y :: t, y' :: t', x, z, z', ⟨h1, h2⟩, ⟨g1, g2⟩, h => by
    have e : y = y' := h1.symm.trans g1
    subst e
    rw [Ch.uniq h2 g2 (by simpa using h)]

section
variable {N : Int} {E : List (Int × Int)} {A : List (List Int)} {L : List Int}
/-- The row of an inner vertex, from the dart with the label 0 on. -/
theorem trn_row (hT : trgB N E A = true) (hS : Sch E A L) {b : Int} (hb : isD E b) (hi : tailE E b ∉ rts E A) : ∃ p q, rowOf A (tailE E b).toNat = p ++ q ∧ Turn L (q ++ p) := by
  have hV := trg_valid hT
  obtain ⟨v, hv, _, hvt⟩ := row_of hV hb.1 hb.2
  have hvn : (tailE E b).toNat = v := by omega
  rw [hvn]
  exact hS.vx v hv (by rw [← hvt]; exact hi)
/-- Read from the dart with the label 0 on, the row is that of the labeling. -/
theorem trn_at (hT : trgB N E A = true) (hS : Sch E A L) {b a : Int} {l p q : List Int} (hb : isD E b) (hi : tailE E b ∉ rts E A) (hr : rowOf A (tailE E b).toNat = p ++ q) (hl : q ++ p = a :: l) (h0 : lab L a = 0) : Turn L (a :: l) := by
  have hV := trg_valid hT
  obtain ⟨p', q', hr', ht⟩ := trn_row hT hS hb hi
  obtain ⟨hc, hn, hm⟩ := rot_row hV hb hr hl (by simp)
  obtain ⟨o0, I2, o1, I0, o2, I1, he, l0, l1, l2, hI2, hI0, hI1⟩ := ht
  obtain ⟨hc', hn', hm'⟩ := rot_row hV hb hr' he (by simp)
  have ha : a = o0 := by
    have h1 := (hm' a).2 ((hm a).1 (by simp))
    have h2 : a = o0 ∨ a ∈ I2 ∨ a = o1 ∨ a ∈ I0 ∨ a = o2 ∨ a ∈ I1 := by simpa using h1
    rcases h2 with k | k | k | k | k | k
    · exact k
    · have := (hI2 a k).1; omega
    · rw [k] at h0; omega
    · have := (hI0 a k).1; omega
    · rw [k] at h0; omega
    · have := (hI1 a k).1; omega
  subst ha
  have hlen : l.length = (I2 ++ o1 :: (I0 ++ o2 :: I1)).length := by
    have e1 := congrArg List.length hl
    have e2 := congrArg List.length he
    have e3 := congrArg List.length (hr.symm.trans hr')
    simp only [List.length_append, List.length_cons] at e1 e2 e3 ⊢
    omega
  have hu : l = I2 ++ o1 :: (I0 ++ o2 :: I1) := Ch.uniq (show Ch (sucF A) a l a from hc) (show Ch (sucF A) a _ a from hc') hlen
  exact ⟨a, I2, o1, I0, o2, I1, by rw [hu], l0, l1, l2, hI2, hI0, hI1⟩
/-- What stands ahead of the dart with the label 2, and of those that enter with 0. -/
theorem trn_pred (hT : trgB N E A = true) (hS : Sch E A L) {x y : Int} (hx : isD E x) (hi : tailE E x ∉ rts E A) (hy : isD E y) (hs : sucF A y = x) (h : lab L x = 2 ∨ (lab L x = -1 ∧ lab L (oth x) = 0)) : lab L y = 1 ∨ lab L (oth y) = 0 := by
  have hV := trg_valid hT
  obtain ⟨p, q, hr, o0, I2, o1, I0, o2, I1, he, l0, l1, l2, hI2, hI0, hI1⟩ := trn_row hT hS hx hi
  obtain ⟨hc, hn, hm⟩ := rot_row hV hx hr he (by simp)
  have hc' : Ch (sucF A) o0 (I2 ++ o1 :: (I0 ++ o2 :: I1)) o0 := hc
  have hxm : x = o0 ∨ x ∈ I2 ∨ x = o1 ∨ x ∈ I0 ∨ x = o2 ∨ x ∈ I1 := by simpa using (hm x).2 ⟨hx, rfl⟩
  have hc2 := (Ch.app.1 hc').2
  have key : ∀ u s, I0 ++ o2 :: I1 = u ++ x :: s → (∀ d ∈ u, d ∈ I0) → lab L y = 1 ∨ lab L (oth y) = 0 := fun u s hu hd => by
    rw [hu] at hc2
    obtain ⟨w, W, hW, hw⟩ := Ch.snd hc2
    have hwm : w ∈ o1 :: u := by rw [hW]; simp
    have hwi : isD E w := by
      rcases List.mem_cons.1 hwm with k | k
      · rw [k]; exact ((hm o1).1 (by simp)).1
      · exact ((hm w).1 (by simp [hd w k])).1
    have hwy : w = y := suc_inj hV hwi hy (hw.trans hs.symm)
    subst hwy
    rcases List.mem_cons.1 hwm with k | k
    · rw [k]; exact Or.inl l1
    · exact Or.inr (hI0 w (hd w k)).2
  rcases hxm with k | k | k | k | k | k
  · rw [k, l0] at h; omega
  · have := hI2 x k; omega
  · rw [k, l1] at h; omega
  · obtain ⟨u, s, hu⟩ := List.append_of_mem k
    exact key u (s ++ o2 :: I1) (by rw [hu]; simp) (fun d hd => by rw [hu]; simp [hd])
  · subst k
    exact key I0 I1 rfl (fun d hd => hd)
  · have := hI1 x k; omega
/-- What stands behind the dart with the label 2, and behind those that enter with 1. -/
theorem trn_succ (hT : trgB N E A = true) (hS : Sch E A L) {x y : Int} (hx : isD E x) (hi : tailE E x ∉ rts E A) (hs : sucF A x = y) (h : lab L x = 2 ∨ (lab L x = -1 ∧ lab L (oth x) = 1)) : lab L (oth y) = 1 ∨ lab L y = 0 := by
  have hV := trg_valid hT
  obtain ⟨p, q, hr, o0, I2, o1, I0, o2, I1, he, l0, l1, l2, hI2, hI0, hI1⟩ := trn_row hT hS hx hi
  obtain ⟨hc, hn, hm⟩ := rot_row hV hx hr he (by simp)
  have hc' : Ch (sucF A) o0 (I2 ++ o1 :: (I0 ++ o2 :: I1)) o0 := hc
  have hxm : x = o0 ∨ x ∈ I2 ∨ x = o1 ∨ x ∈ I0 ∨ x = o2 ∨ x ∈ I1 := by simpa using (hm x).2 ⟨hx, rfl⟩
  have hc2 := (Ch.app.1 (Ch.app.1 hc').2).2
  have key : ∀ s, Ch (sucF A) x s o0 → (∀ d ∈ s, d ∈ I1) → lab L (oth y) = 1 ∨ lab L y = 0 := fun s hc3 hd => by
    cases s with
    | nil =>
      have : sucF A x = o0 := hc3
      rw [← hs, this]
      exact Or.inr l0
    | cons z s =>
      have : sucF A x = z := hc3.1
      rw [← hs, this]
      exact Or.inl (hI1 z (hd z (by simp))).2
  rcases hxm with k | k | k | k | k | k
  · rw [k, l0] at h; omega
  · have := hI2 x k; omega
  · rw [k, l1] at h; omega
  · have := hI0 x k; omega
  · subst k
    exact key I1 hc2 (fun d hd => hd)
  · obtain ⟨u, s, hu⟩ := List.append_of_mem k
    rw [hu] at hc2
    exact key s (Ch.app.1 hc2).2 (fun d hd => by rw [hu]; simp [hd])
/-- A vertex has one dart of each label. -/
theorem trn_uniq (hT : trgB N E A = true) (hS : Sch E A L) {x y : Int} (hx : isD E x) (hy : isD E y) (hi : tailE E x ∉ rts E A) (ht : tailE E y = tailE E x) (h0 : 0 ≤ lab L x) (he : lab L y = lab L x) : x = y := by
  have hV := trg_valid hT
  obtain ⟨p, q, hr, o0, I2, o1, I0, o2, I1, hl, l0, l1, l2, hI2, hI0, hI1⟩ := trn_row hT hS hx hi
  obtain ⟨hc, hn, hm⟩ := rot_row hV hx hr hl (by simp)
  have hxm : x = o0 ∨ x ∈ I2 ∨ x = o1 ∨ x ∈ I0 ∨ x = o2 ∨ x ∈ I1 := by simpa using (hm x).2 ⟨hx, rfl⟩
  have hym : y = o0 ∨ y ∈ I2 ∨ y = o1 ∨ y ∈ I0 ∨ y = o2 ∨ y ∈ I1 := by simpa using (hm y).2 ⟨hy, ht⟩
  have hx' : (x = o0 ∧ lab L x = 0) ∨ (x = o1 ∧ lab L x = 1) ∨ (x = o2 ∧ lab L x = 2) := by
    rcases hxm with k | k | k | k | k | k
    · exact Or.inl ⟨k, by rw [k]; exact l0⟩
    · have := (hI2 x k).1; omega
    · exact Or.inr (Or.inl ⟨k, by rw [k]; exact l1⟩)
    · have := (hI0 x k).1; omega
    · exact Or.inr (Or.inr ⟨k, by rw [k]; exact l2⟩)
    · have := (hI1 x k).1; omega
  have hy' : (y = o0 ∧ lab L y = 0) ∨ (y = o1 ∧ lab L y = 1) ∨ (y = o2 ∧ lab L y = 2) := by
    rcases hym with k | k | k | k | k | k
    · exact Or.inl ⟨k, by rw [k]; exact l0⟩
    · have := (hI2 y k).1; omega
    · exact Or.inr (Or.inl ⟨k, by rw [k]; exact l1⟩)
    · have := (hI0 y k).1; omega
    · exact Or.inr (Or.inr ⟨k, by rw [k]; exact l2⟩)
    · have := (hI1 y k).1; omega
  rcases hx' with ⟨k, e⟩ | ⟨k, e⟩ | ⟨k, e⟩ <;> rcases hy' with ⟨k', e'⟩ | ⟨k', e'⟩ | ⟨k', e'⟩ <;> first | exact k.trans k'.symm | omega
end
end Go.Proofs.YtlealdicoceekaaDoor

/- A plan in memory: tail, outer, root. -/
namespace Go.Proofs.YtlealdicoceekaaDoor
open Go.RowKit
attribute [local go_sem ↓] Go.wp_at_zero Go.wp_at_succ

/-- The darts of the outer face; the face of each dart. -/
def sdL (A : List (List Int)) : List Int := [0, nxF A 0, nxF A (nxF A 0)]
def fcI (F : List (List Int)) (d : Int) : Nat := F.findIdx (fun l => decide (d ∈ l))
noncomputable def faceL (N : Int) (E : List (Int × Int)) (A : List (List Int)) : List Int := tab (2 * E.length) fun d => (fcI (facesO N E A) d : Int)
/-- A plan in memory: block b, the faces in block gf. -/
structure Plan (w : World) (b gf : Nat) (N : Int) (pE pA : Option Addr) (nE nA cE cA : Nat) (E : List (Int × Int)) (A : List (List Int)) : Prop where
  c0 : w.cell? ⟨b, 0, none⟩ = some (.int .i64 N)
  c1 : w.cell? ⟨b, 1, none⟩ = some (.slice pE nE cE)
  c2 : w.cell? ⟨b, 2, none⟩ = some (.slice pA nA cA)
  c3 : w.cell? ⟨b, 3, none⟩ = some (.slice (some ⟨gf, 0, none⟩) (2 * nE) (2 * nE))
  s0 : w.cell? ⟨b, 4, none⟩ = some (.int .i64 0)
  s1 : w.cell? ⟨b, 5, none⟩ = some (.int .i64 (nxF A 0))
  s2 : w.cell? ⟨b, 6, none⟩ = some (.int .i64 (nxF A (nxF A 0)))
  r0 : w.cell? ⟨b, 7, none⟩ = some (.int .i64 (tailE E 0))
  r1 : w.cell? ⟨b, 8, none⟩ = some (.int .i64 (tailE E 1))
  r2 : w.cell? ⟨b, 9, none⟩ = some (.int .i64 (tailE E (nxF A (nxF A 0))))
  f : Ints w (some ⟨gf, 0, none⟩) (faceL N E A)
theorem Plan.grew {w w' : World} {b gf : Nat} {N : Int} {pE pA : Option Addr} {nE nA cE cA : Nat} {E : List (Int × Int)} {A : List (List Int)} (h : Plan w b gf N pE pA nE nA cE cA E A) (hg : Grew w w') : Plan w' b gf N pE pA nE nA cE cA E A :=
  ⟨hg.cellEq h.c0, hg.cellEq h.c1, hg.cellEq h.c2, hg.cellEq h.c3, hg.cellEq h.s0, hg.cellEq h.s1, hg.cellEq h.s2, hg.cellEq h.r0, hg.cellEq h.r1, hg.cellEq h.r2, h.f.grew hg⟩
section
variable {w : World} {b gf : Nat} {N : Int} {pE pA : Option Addr} {nE nA cE cA : Nat} {E : List (Int × Int)} {A : List (List Int)}
theorem Plan.lt (h : Plan w b gf N pE pA nE nA cE cA E A) : b < w.heap.size := World.block_lt_of_cell? w _ h.c0

set_option maxHeartbeats 2000000 in
/-- tail, from the plan's edges alone. -/
theorem tail38_c (b : Nat) (pE : Option Addr) (nE cE : Nat) (E : List (Int × Int)) (w : World) (h : w.cell? ⟨b, 1, none⟩ = some (.slice pE nE cE)) (hE : Prs w pE E) (hnE : E.length = nE) (he1 : E.length ≤ 100) (d : Nat) (hd : d < 2 * E.length) :
    Calls Tryd.prog 31 #[.pointer (some ⟨b, 0, none⟩), .int .i64 d] w fun e w' => e = .returned (.int .i64 (tailE E d)) ∧ w = w' := by
  subst hnE
  obtain ⟨bE, oE, rfl, lE, cE'⟩ := hE.cells (by omega)
  obtain ⟨c1, c2⟩ := cE' w (Grew.refl _) (d / 2) (by omega)
  obtain ⟨x, hx⟩ : ∃ x, (pr E (d / 2)).1 = x := ⟨_, rfl⟩
  obtain ⟨y, hy⟩ : ∃ y, (pr E (d / 2)).2 = y := ⟨_, rfl⟩
  rw [hx] at c1
  rw [hy] at c2
  have hlt : ((d / 2 : Nat) : Int) < (E.length : Int) := by omega
  by_cases hp : d % 2 = 0
  · have Ht : Hid (tailE E d = x) := Lib.hid (by unfold tailE; rw [if_pos (by omega), show ((d : Int) / 2).toNat = d / 2 by omega]; exact hx)
    have hp2 : ((d : Int) % 2 == 0) = true := beq_iff_eq.2 (by omega)
    clear cE' hx hy
    go_enter Tryd.func31, Tryd.ntmps31
    go_wp2
    go_ret
    exact ⟨ret_int Ht.out.symm, rfl⟩
  · have Ht : Hid (tailE E d = y) := Lib.hid (by unfold tailE; rw [if_neg (by omega), show ((d : Int) / 2).toNat = d / 2 by omega]; exact hy)
    have hp2 : ((d : Int) % 2 == 0) = false := beq_eq_false_iff_ne.2 (by omega)
    clear cE' hx hy
    go_enter Tryd.func31, Tryd.ntmps31
    go_wp2
    go_ret
    exact ⟨ret_int Ht.out.symm, rfl⟩

/-! ### Outer darts -/
def hitB (xs : List Int) (d : Int) : Bool := xs.any fun x => x / 2 == d / 2
def outB (A : List (List Int)) (d : Int) : Bool := hitB (sdL A) d
set_option maxHeartbeats 1000000 in
theorem outer1_p (c d : Nat) (g : Nat) (w : World) (hc : c < 1000) (hd : d < 1000) (h : w.cell? ⟨g, 0, none⟩ = some (.int .i64 d)) (t : Bool) (ht : (((c : Int) / 2) == ((d : Int) / 2)) = t) :
    Calls Tryd.prog 59 #[.int .i64 c, .pointer (some ⟨g, 0, none⟩)] w fun e w' => e = .returned (.bool t) ∧ w = w' := by
  cases t
  · go_enter Tryd.func59, Tryd.ntmps59
    go_wp2
    go_ret
    exact ⟨rfl, rfl⟩
  · go_enter Tryd.func59, Tryd.ntmps59
    go_wp2
    go_ret
    exact ⟨rfl, rfl⟩
theorem sdL_nat (hV : vRot N E A) (h0 : 0 < E.length) : ∃ s1 s2 : Nat, nxF A 0 = (s1 : Int) ∧ nxF A (nxF A 0) = (s2 : Int) ∧ s1 < 2 * E.length ∧ s2 < 2 * E.length := by
  obtain ⟨d0, d1⟩ := nxF_in hV (e := 0) (by omega) (by omega)
  obtain ⟨f0, f1⟩ := nxF_in hV d0 d1
  exact ⟨(nxF A 0).toNat, (nxF A (nxF A 0)).toNat, by omega, by omega, by omega, by omega⟩
theorem any_at {p : Int → Bool} {xs : List Int} {k : Nat} (hk : k < xs.length) (h : p (ge xs k) = true) : xs.any p = true := List.any_eq_true.2 ⟨_, ge_mem hk, h⟩
theorem any_no {p : Int → Bool} {xs : List Int} (h : ∀ j, j < xs.length → p (ge xs j) = false) : xs.any p = false := by
  rw [List.any_eq_false]
  intro x hx
  obtain ⟨i, hi, rfl⟩ := mem_ge.1 hx
  simp [h i hi]
set_option maxHeartbeats 2000000 in
theorem outerI_p (p : Option Addr) (cap : Nat) (xs : List Int) (d g n : Nat) (w : World) (hI : Ints w p xs) (hn : xs.length = n) (hx : ∀ x ∈ xs, 0 ≤ x ∧ x < 1000) (hd : d < 1000) (h : w.cell? ⟨g, 0, none⟩ = some (.int .i64 d)) :
    Calls Tryd.prog 63 #[.slice p n cap, .func (.func 59) #[] #[.pointer (some ⟨g, 0, none⟩)]] w fun e w' => (∃ r : Int, e = .returned (.int .i64 r) ∧ ((r = -1 ∧ hitB xs d = false) ∨ (0 ≤ r ∧ hitB xs d = true))) ∧ w = w' := by
  subst hn
  have Hx := Lib.hid hx
  clear hx
  obtain ⟨hm, _, b, o, h3, h4⟩ := hI
  go_enter Tryd.func63, Tryd.ntmps63
  go_wp2
  go_loop [5, 8] (fun _ i => ∃ k : Nat, k ≤ xs.length ∧ i = .int .i64 k ∧ ∀ j, j < k → (ge xs j / 2 == (d : Int) / 2) = false) (fun _ i => xs.length - (intOf i).toNat)
  case atStart => exact ⟨0, Nat.zero_le _, rfl, fun j hj => by omega⟩
  case round =>
    obtain ⟨k, hk, rfl, hall⟩ := hrel
    have Hall := Lib.hid hall
    clear hall
    by_cases hlt : k < xs.length
    · obtain ⟨rfl, hb⟩ := h3 (by omega)
      have hc := h4 k hlt
      have hx0 := Hx.out _ (ge_mem hlt)
      obtain ⟨c, hce⟩ : ∃ c : Nat, ge xs k = (c : Int) := ⟨(ge xs k).toNat, by omega⟩
      rw [hce] at hc
      have Hce := Lib.hid hce
      have Hc9 : Hid (c < 1000) := Lib.hid (by omega)
      clear h3 h4 hce hx0
      cases he : ((c : Int) / 2 == (d : Int) / 2)
      · have He := Lib.hid he
        clear he
        go_wp2_with ((go_at_call 59; apply Calls.mono; (with_reducible exact outer1_p _ _ _ _ Hc9.out hd h _ He.out); rintro e w' ⟨rfl, rfl⟩))
        go_round
        case rel => exact ⟨k + 1, by omega, by go_num, fun j hj => by
          by_cases h : j = k
          · rw [h, Hce.out]; exact He.out
          · exact Hall.out j (by omega)⟩
        case measure => simp [intOf]; omega
      · have He := Lib.hid he
        have Hf : Hid (hitB xs d = true) := Lib.hid (any_at hlt (by rw [Hce.out]; exact he))
        clear he
        go_wp2_with ((go_at_call 59; apply Calls.mono; (with_reducible exact outer1_p _ _ _ _ Hc9.out hd h _ He.out); rintro e w' ⟨rfl, rfl⟩))
        go_ret
        exact ⟨⟨k, rfl, Or.inr ⟨by omega, Hf.out⟩⟩, rfl⟩
    · have Hf : Hid (hitB xs d = false) := Lib.hid (any_no fun j hj => Hall.out j (by omega))
      go_wp2
      go_ret
      exact ⟨⟨-1, rfl, Or.inl ⟨rfl, Hf.out⟩⟩, rfl⟩
set_option maxHeartbeats 1000000 in
theorem outerC_p (p : Option Addr) (cap : Nat) (xs : List Int) (d g n : Nat) (w : World) (hI : Ints w p xs) (hn : xs.length = n) (hx : ∀ x ∈ xs, 0 ≤ x ∧ x < 1000) (hd : d < 1000) (h : w.cell? ⟨g, 0, none⟩ = some (.int .i64 d)) (t : Bool) (ht : hitB xs d = t) :
    Calls Tryd.prog 58 #[.slice p n cap, .func (.func 59) #[] #[.pointer (some ⟨g, 0, none⟩)]] w fun e w' => e = .returned (.bool t) ∧ w = w' := by
  have Ht := Lib.hid ht
  clear ht
  go_enter Tryd.func58, Tryd.ntmps58
  go_wp2_with (go_at_call 63; apply Calls.mono; (with_reducible exact outerI_p _ _ _ _ _ _ _ hI hn hx hd h); rintro e w' ⟨⟨r, rfl, hr⟩, rfl⟩)
  rcases hr with ⟨rfl, h1⟩ | ⟨h0, h1⟩
  · have Hf : Hid (t = false) := Lib.hid (by rw [← Ht.out]; exact h1)
    clear h1
    go_wp2
    go_ret
    exact ⟨by rw [Hf.out]; rfl, rfl⟩
  · have Hf : Hid (t = true) := Lib.hid (by rw [← Ht.out]; exact h1)
    clear h1
    have h0' : decide (0 ≤ r) = true := decide_eq_true h0
    go_wp2
    go_ret
    exact ⟨by show Ending.returned (.bool (decide (0 ≤ r))) = _; rw [h0', Hf.out], rfl⟩
theorem Plan.sides (h : Plan w b gf N pE pA nE nA cE cA E A) (hV : vRot N E A) (h0 : 0 < E.length) (h1 : E.length ≤ 100) : Ints w (some ⟨b, 4, none⟩) (sdL A) := by
  obtain ⟨s1, s2, e1, e2, l1, l2⟩ := sdL_nat hV h0
  refine ⟨by simp [sdL], fun x hx => ?_, b, 4, fun _ => ⟨rfl, h.lt⟩, fun i hi => ?_⟩
  · unfold sdL at hx
    rw [e1] at hx
    rw [← e1, e2] at hx
    simp at hx
    omega
  · unfold sdL at hi
    match i, hi with
    | 0, _ => exact h.s0
    | 1, _ => exact h.s1
    | 2, _ => exact h.s2
theorem Plan.rootsI (h : Plan w b gf N pE pA nE nA cE cA E A) (hV : vRot N E A) (h0 : 0 < E.length) (hN : A.length ≤ 100) : Ints w (some ⟨b, 7, none⟩) (rts E A) := by
  obtain ⟨s1, s2, e1, e2, l1, l2⟩ := sdL_nat hV h0
  have t0 := tail_in hV (d := 0) (by omega) (by omega)
  have t1 := tail_in hV (d := 1) (by omega) (by omega)
  have t2 := tail_in hV (d := nxF A (nxF A 0)) (by omega) (by omega)
  have hal := hV.al
  refine ⟨by simp [rts], fun x hx => ?_, b, 7, fun _ => ⟨rfl, h.lt⟩, fun i hi => ?_⟩
  · unfold rts at hx
    simp only [List.mem_cons, List.not_mem_nil, or_false] at hx
    rcases hx with rfl | rfl | rfl <;> omega
  · unfold rts at hi
    match i, hi with
    | 0, _ => exact h.r0
    | 1, _ => exact h.r1
    | 2, _ => exact h.r2
set_option maxHeartbeats 2000000 in
theorem outer_p (hV : vRot N E A) (h0 : 0 < E.length) (h1 : E.length ≤ 100) (hP : Plan w b gf N pE pA nE nA cE cA E A) (d : Nat) (hd : d < 1000) (t : Bool) (ht : outB A d = t) :
    Calls Tryd.prog 32 #[.pointer (some ⟨b, 0, none⟩), .int .i64 d] w fun e w' => e = .returned (.bool t) ∧ Grew w w' := by
  have HI := Lib.hid (hP.sides hV h0 h1)
  have hb := hP.lt
  have Hx : Hid (∀ x ∈ sdL A, 0 ≤ x ∧ x < 1000) := Lib.hid (fun x hx => by
    obtain ⟨s1, s2, e1, e2, l1, l2⟩ := sdL_nat hV h0
    unfold sdL at hx
    simp only [List.mem_cons, List.not_mem_nil, or_false] at hx
    rcases hx with rfl | rfl | rfl <;> omega)
  have Ht : Hid (hitB (sdL A) d = t) := Lib.hid ht
  clear hP ht hV
  go_enter Tryd.func32, Tryd.ntmps32
  go_wp2_with (go_at_call 58; apply Calls.mono; (with_reducible exact outerC_p _ 3 (sdL A) d w.heap.size 3 _ (HI.out.grew (by (repeat (first | exact gR _ | refine gO ?_ _ | refine gA ?_ _ | refine gD ?_ | refine gN ?_ _)))) rfl Hx.out hd (by simp [go_sem]) _ Ht.out); rintro e w' ⟨rfl, rfl⟩)
  go_ret
  exact ⟨rfl, by (repeat (first | exact gR _ | refine gO ?_ _ | refine gA ?_ _ | refine gD ?_ | refine gN ?_ _))⟩
set_option maxHeartbeats 1000000 in
theorem root_p (hV : vRot N E A) (h0 : 0 < E.length) (hN : A.length ≤ 100) (hP : Plan w b gf N pE pA nE nA cE cA E A) (v : Int) (t : Int) (ht : idx v (rts E A) = t) :
    Calls Tryd.prog 36 #[.pointer (some ⟨b, 0, none⟩), .int .i64 v] w fun e w' => e = .returned (.int .i64 t) ∧ w = w' := by
  have HI := Lib.hid (hP.rootsI hV h0 hN)
  have hb := hP.lt
  have Hf : Hid (∀ W1, Grew w W1 → Calls Tryd.prog 62 #[.slice (some ⟨b, 7, none⟩) 3 3, .int .i64 v] W1 fun e w' => e = .returned (.int .i64 t) ∧ W1 = w') := Lib.hid (fun W1 h => by rw [← ht]; exact index_p _ _ _ _ _ _ (HI.out.grew h) rfl)
  clear hP ht hV
  go_enter Tryd.func36, Tryd.ntmps36
  go_wp2_with ((go_at_call 62; apply Calls.mono; (with_reducible exact Hf.out _ (by (repeat (first | exact gR _ | refine gO ?_ _ | refine gA ?_ _ | refine gD ?_ | refine gN ?_ _)))); rintro e w' ⟨rfl, rfl⟩))
  go_ret
  exact ⟨rfl, rfl⟩
end
end Go.Proofs.YtlealdicoceekaaDoor

/- ends of the program. -/
namespace Go.Proofs.YtlealdicoceekaaDoor
open Go.RowKit
attribute [local go_sem ↓] Go.wp_at_zero Go.wp_at_succ

/-- What the program asks of a dart with a label; of both darts of an edge. -/
def sideB (E : List (Int × Int)) (A : List (List Int)) (L : List Int) (x : Int) : Bool :=
  decide (lab L x < 0) || (decide (idx (tailE E x) (rts E A) < 0) && (decide (idx (tailE E (oth x)) (rts E A) < 0) || decide (idx (tailE E (oth x)) (rts E A) = lab L x)))
def rngB (x : Int) : Bool := decide (-1 ≤ x) && decide (x ≤ 2)
def endsB (E : List (Int × Int)) (A : List (List Int)) (L : List Int) (d : Int) : Bool :=
  if outB A d = true then (lab L d == -1) && (lab L (oth d) == -1)
  else rngB (lab L d) && rngB (lab L (oth d)) && ((lab L d == -1) != (lab L (oth d) == -1)) && sideB E A L d && sideB E A L (oth d)
theorem idx_range (v : Int) : ∀ l : List Int, -1 ≤ idx v l ∧ idx v l < (l.length : Int) + 1
  | [] => by unfold idx; simp
  | x :: l => by
    have := idx_range v l
    unfold idx
    split
    · simp
      omega
    · split <;> simp <;> omega
section
variable {w : World} {b gf : Nat} {N : Int} {pE pA : Option Addr} {nE nA cE cA : Nat} {E : List (Int × Int)} {A : List (List Int)} {L : List Int}
set_option maxHeartbeats 8000000 in
set_option maxRecDepth 4000 in
theorem ends_p (hV : vRot N E A) (h0 : 0 < E.length) (h1 : E.length ≤ 100) (hN : A.length ≤ 100) (hP : Plan w b gf N pE pA nE nA cE cA E A) (hE : Prs w pE E) (hnE : E.length = nE) (pL : Option Addr) (nL cL : Nat) (hI : Ints w pL L) (hnL : L.length = nL) (hl : L.length = 2 * E.length)
    (d : Nat) (hd : d < 2 * E.length) (t : Bool) (ht : endsB E A L d = t) :
    Calls Tryd.prog 66 #[.pointer (some ⟨b, 0, none⟩), .slice pL nL cL, .int .i64 d] w fun e w' => e = .returned (.bool t) ∧ Grew w w' := by
  subst hnL
  have HP := Lib.hid hP
  have HE := Lib.hid hE
  have HV := Lib.hid hV
  obtain ⟨o, ho⟩ : ∃ o : Nat, oth (d : Int) = (o : Int) := ⟨(oth d).toNat, by have := oth_in (d := d) (M := E.length) (by omega) (by omega); omega⟩
  have ho2 : o < 2 * E.length := by have := oth_in (d := d) (M := E.length) (by omega) (by omega); omega
  have hx2 : bits BinOp.xor IntKind.i64 (d : Int) 1 = (o : Int) := by rw [← ho]; exact xor_small d (by omega)
  obtain ⟨bL, oL, rfl, lL, cL'⟩ := hI.cells (by omega)
  have p0 := cL' w (Grew.refl _) d (by omega)
  have p1 := cL' w (Grew.refl _) o (by omega)
  obtain ⟨x, hx⟩ : ∃ x, ge L d = x := ⟨_, rfl⟩
  obtain ⟨y, hy⟩ : ∃ y, ge L o = y := ⟨_, rfl⟩
  rw [hx] at p0
  rw [hy] at p1
  have hld : lab L d = x := by unfold lab; rw [Int.toNat_natCast]; exact hx
  have hlo : lab L (oth d) = y := by unfold lab; rw [ho, Int.toNat_natCast]; exact hy
  have HcL := Lib.hid cL'
  obtain ⟨ob, hob⟩ : ∃ ob, outB A d = ob := ⟨_, rfl⟩
  have Hout : Hid (∀ W1, Grew w W1 → Calls Tryd.prog 32 #[.pointer (some ⟨b, 0, none⟩), .int .i64 d] W1 fun e w' => e = .returned (.bool ob) ∧ Grew W1 w') := Lib.hid (fun W1 h => outer_p HV.out h0 h1 (HP.out.grew h) d (by omega) _ hob)
  have hdl : (d : Int) < (L.length : Int) := by omega
  have hol : (o : Int) < (L.length : Int) := by omega
  have hd0 : (0 : Int) ≤ (d : Int) := by omega
  have ho0 : (0 : Int) ≤ (o : Int) := by omega
  unfold endsB at ht
  rw [hob, hld, hlo] at ht
  cases ob
  case true =>
    have Ht : Hid (((x == -1) && (y == -1)) = t) := Lib.hid (by simpa using ht)
    clear ht hx hy hld hlo hob hI cL' hP hE hV
    rcases (by omega : x < -1 ∨ 2 < x ∨ x = -1 ∨ (0 ≤ x ∧ x ≤ 2)) with k | k | k | ⟨k, k'⟩
    · have hxn : (x == -1) = false := beq_eq_false_iff_ne.2 (by omega)
      obtain rfl : t = false := by rw [← Ht.out, hxn]; rfl
      go_enter Tryd.func66, Tryd.ntmps66
      go_upto_region 1 with fail
      refine wp_region_over (by kernel_rfl) (by kernel_rfl) ?_; (repeat (go_big_quiet_step (fail))); refine wpQuiet_nil ?_; rintro _ ⟨x, rfl⟩
      go_wp2_with ((go_at_call 32; apply Calls.mono; (with_reducible exact Hout.out _ (by (repeat (first | exact gR _ | refine gO ?_ _ | refine gA ?_ _ | refine gD ?_ | refine gN ?_ _)))); rintro e w' ⟨rfl, x, rfl⟩))
      go_ret
      exact ⟨rfl, by (repeat (first | exact gR _ | refine gO ?_ _ | refine gA ?_ _ | refine gD ?_ | refine gN ?_ _))⟩
    · have hxn : (x == -1) = false := beq_eq_false_iff_ne.2 (by omega)
      have k0 : ¬ x < -1 := by omega
      obtain rfl : t = false := by rw [← Ht.out, hxn]; rfl
      go_enter Tryd.func66, Tryd.ntmps66
      go_upto_region 1 with fail
      refine wp_region_over (by kernel_rfl) (by kernel_rfl) ?_; (repeat (go_big_quiet_step (fail))); refine wpQuiet_nil ?_; rintro _ ⟨x, rfl⟩
      go_wp2_with ((go_at_call 32; apply Calls.mono; (with_reducible exact Hout.out _ (by (repeat (first | exact gR _ | refine gO ?_ _ | refine gA ?_ _ | refine gD ?_ | refine gN ?_ _)))); rintro e w' ⟨rfl, x, rfl⟩))
      go_ret
      exact ⟨rfl, by (repeat (first | exact gR _ | refine gO ?_ _ | refine gA ?_ _ | refine gD ?_ | refine gN ?_ _))⟩
    · subst k
      rcases (by omega : y < -1 ∨ 2 < y ∨ y = -1 ∨ (0 ≤ y ∧ y ≤ 2)) with k | k | k | ⟨k, k'⟩
      · have hyn : (y == -1) = false := beq_eq_false_iff_ne.2 (by omega)
        obtain rfl : t = false := by rw [← Ht.out, hyn]; rfl
        go_enter Tryd.func66, Tryd.ntmps66
        go_upto_region 1 with fail
        refine wp_region_over (by kernel_rfl) (by kernel_rfl) ?_; (repeat (go_big_quiet_step (fail))); refine wpQuiet_nil ?_; rintro _ ⟨x, rfl⟩
        go_wp2_with ((go_at_call 32; apply Calls.mono; (with_reducible exact Hout.out _ (by (repeat (first | exact gR _ | refine gO ?_ _ | refine gA ?_ _ | refine gD ?_ | refine gN ?_ _)))); rintro e w' ⟨rfl, x, rfl⟩))
        go_ret
        exact ⟨rfl, by (repeat (first | exact gR _ | refine gO ?_ _ | refine gA ?_ _ | refine gD ?_ | refine gN ?_ _))⟩
      · have hyn : (y == -1) = false := beq_eq_false_iff_ne.2 (by omega)
        have k0 : ¬ y < -1 := by omega
        obtain rfl : t = false := by rw [← Ht.out, hyn]; rfl
        go_enter Tryd.func66, Tryd.ntmps66
        go_upto_region 1 with fail
        refine wp_region_over (by kernel_rfl) (by kernel_rfl) ?_; (repeat (go_big_quiet_step (fail))); refine wpQuiet_nil ?_; rintro _ ⟨x, rfl⟩
        go_wp2_with ((go_at_call 32; apply Calls.mono; (with_reducible exact Hout.out _ (by (repeat (first | exact gR _ | refine gO ?_ _ | refine gA ?_ _ | refine gD ?_ | refine gN ?_ _)))); rintro e w' ⟨rfl, x, rfl⟩))
        go_ret
        exact ⟨rfl, by (repeat (first | exact gR _ | refine gO ?_ _ | refine gA ?_ _ | refine gD ?_ | refine gN ?_ _))⟩
      · subst k
        obtain rfl : t = true := by rw [← Ht.out]; rfl
        go_enter Tryd.func66, Tryd.ntmps66
        go_upto_region 1 with fail
        refine wp_region_over (by kernel_rfl) (by kernel_rfl) ?_; (repeat (go_big_quiet_step (fail))); refine wpQuiet_nil ?_; rintro _ ⟨x, rfl⟩
        go_wp2_with ((go_at_call 32; apply Calls.mono; (with_reducible exact Hout.out _ (by (repeat (first | exact gR _ | refine gO ?_ _ | refine gA ?_ _ | refine gD ?_ | refine gN ?_ _)))); rintro e w' ⟨rfl, x, rfl⟩))
        go_ret
        exact ⟨rfl, by (repeat (first | exact gR _ | refine gO ?_ _ | refine gA ?_ _ | refine gD ?_ | refine gN ?_ _))⟩
      · have hyn : (y == -1) = false := beq_eq_false_iff_ne.2 (by omega)
        have k0 : ¬ y < -1 := by omega
        have k1 : ¬ 2 < y := by omega
        obtain rfl : t = false := by rw [← Ht.out, hyn]; rfl
        go_enter Tryd.func66, Tryd.ntmps66
        go_upto_region 1 with fail
        refine wp_region_over (by kernel_rfl) (by kernel_rfl) ?_; (repeat (go_big_quiet_step (fail))); refine wpQuiet_nil ?_; rintro _ ⟨x, rfl⟩
        go_wp2_with ((go_at_call 32; apply Calls.mono; (with_reducible exact Hout.out _ (by (repeat (first | exact gR _ | refine gO ?_ _ | refine gA ?_ _ | refine gD ?_ | refine gN ?_ _)))); rintro e w' ⟨rfl, x, rfl⟩))
        go_ret
        exact ⟨rfl, by (repeat (first | exact gR _ | refine gO ?_ _ | refine gA ?_ _ | refine gD ?_ | refine gN ?_ _))⟩
    · have hxn : (x == -1) = false := beq_eq_false_iff_ne.2 (by omega)
      have k0 : ¬ x < -1 := by omega
      have k1 : ¬ 2 < x := by omega
      obtain rfl : t = false := by rw [← Ht.out, hxn]; rfl
      rcases (by omega : y < -1 ∨ 2 < y ∨ (-1 ≤ y ∧ y ≤ 2)) with j | j | ⟨j, j'⟩
      · go_enter Tryd.func66, Tryd.ntmps66
        go_upto_region 1 with fail
        refine wp_region_over (by kernel_rfl) (by kernel_rfl) ?_; (repeat (go_big_quiet_step (fail))); refine wpQuiet_nil ?_; rintro _ ⟨x, rfl⟩
        go_wp2_with ((go_at_call 32; apply Calls.mono; (with_reducible exact Hout.out _ (by (repeat (first | exact gR _ | refine gO ?_ _ | refine gA ?_ _ | refine gD ?_ | refine gN ?_ _)))); rintro e w' ⟨rfl, x, rfl⟩))
        go_ret
        exact ⟨rfl, by (repeat (first | exact gR _ | refine gO ?_ _ | refine gA ?_ _ | refine gD ?_ | refine gN ?_ _))⟩
      · have j0 : ¬ y < -1 := by omega
        go_enter Tryd.func66, Tryd.ntmps66
        go_upto_region 1 with fail
        refine wp_region_over (by kernel_rfl) (by kernel_rfl) ?_; (repeat (go_big_quiet_step (fail))); refine wpQuiet_nil ?_; rintro _ ⟨x, rfl⟩
        go_wp2_with ((go_at_call 32; apply Calls.mono; (with_reducible exact Hout.out _ (by (repeat (first | exact gR _ | refine gO ?_ _ | refine gA ?_ _ | refine gD ?_ | refine gN ?_ _)))); rintro e w' ⟨rfl, x, rfl⟩))
        go_ret
        exact ⟨rfl, by (repeat (first | exact gR _ | refine gO ?_ _ | refine gA ?_ _ | refine gD ?_ | refine gN ?_ _))⟩
      · have j0 : ¬ y < -1 := by omega
        have j1 : ¬ 2 < y := by omega
        go_enter Tryd.func66, Tryd.ntmps66
        go_upto_region 1 with fail
        refine wp_region_over (by kernel_rfl) (by kernel_rfl) ?_; (repeat (go_big_quiet_step (fail))); refine wpQuiet_nil ?_; rintro _ ⟨x, rfl⟩
        go_wp2_with ((go_at_call 32; apply Calls.mono; (with_reducible exact Hout.out _ (by (repeat (first | exact gR _ | refine gO ?_ _ | refine gA ?_ _ | refine gD ?_ | refine gN ?_ _)))); rintro e w' ⟨rfl, x, rfl⟩))
        go_ret
        exact ⟨rfl, by (repeat (first | exact gR _ | refine gO ?_ _ | refine gA ?_ _ | refine gD ?_ | refine gN ?_ _))⟩
  case false =>
    have Ht : Hid ((rngB x && rngB y && ((x == -1) != (y == -1)) && sideB E A L d && sideB E A L o) = t) := Lib.hid (by rw [ho] at ht; simpa using ht)
    rcases (by omega : x < -1 ∨ 2 < x ∨ (-1 ≤ x ∧ x ≤ 2)) with k | k | ⟨k, k'⟩
    · obtain rfl : t = false := by rw [← Ht.out]; unfold rngB; rw [decide_eq_false (by omega : ¬ -1 ≤ x)]; rfl
      clear ht hx hy hld hlo hob hI cL' hP hE hV
      go_enter Tryd.func66, Tryd.ntmps66
      go_upto_region 1 with fail
      refine wp_region_over (by kernel_rfl) (by kernel_rfl) ?_; (repeat (go_big_quiet_step (fail))); refine wpQuiet_nil ?_; rintro _ ⟨x, rfl⟩
      go_wp2_with ((go_at_call 32; apply Calls.mono; (with_reducible exact Hout.out _ (by (repeat (first | exact gR _ | refine gO ?_ _ | refine gA ?_ _ | refine gD ?_ | refine gN ?_ _)))); rintro e w' ⟨rfl, x, rfl⟩))
      go_ret
      exact ⟨rfl, by (repeat (first | exact gR _ | refine gO ?_ _ | refine gA ?_ _ | refine gD ?_ | refine gN ?_ _))⟩
    · obtain rfl : t = false := by rw [← Ht.out]; unfold rngB; rw [decide_eq_false (by omega : ¬ x ≤ 2)]; simp
      have k0 : ¬ x < -1 := by omega
      clear ht hx hy hld hlo hob hI cL' hP hE hV
      go_enter Tryd.func66, Tryd.ntmps66
      go_upto_region 1 with fail
      refine wp_region_over (by kernel_rfl) (by kernel_rfl) ?_; (repeat (go_big_quiet_step (fail))); refine wpQuiet_nil ?_; rintro _ ⟨x, rfl⟩
      go_wp2_with ((go_at_call 32; apply Calls.mono; (with_reducible exact Hout.out _ (by (repeat (first | exact gR _ | refine gO ?_ _ | refine gA ?_ _ | refine gD ?_ | refine gN ?_ _)))); rintro e w' ⟨rfl, x, rfl⟩))
      go_ret
      exact ⟨rfl, by (repeat (first | exact gR _ | refine gO ?_ _ | refine gA ?_ _ | refine gD ?_ | refine gN ?_ _))⟩
    have k0 : ¬ x < -1 := by omega
    have k1 : ¬ 2 < x := by omega
    rcases (by omega : y < -1 ∨ 2 < y ∨ (-1 ≤ y ∧ y ≤ 2)) with j | j | ⟨j, j'⟩
    · obtain rfl : t = false := by rw [← Ht.out]; unfold rngB; rw [decide_eq_false (by omega : ¬ -1 ≤ y)]; simp
      clear ht hx hy hld hlo hob hI cL' hP hE hV
      go_enter Tryd.func66, Tryd.ntmps66
      go_upto_region 1 with fail
      refine wp_region_over (by kernel_rfl) (by kernel_rfl) ?_; (repeat (go_big_quiet_step (fail))); refine wpQuiet_nil ?_; rintro _ ⟨x, rfl⟩
      go_wp2_with ((go_at_call 32; apply Calls.mono; (with_reducible exact Hout.out _ (by (repeat (first | exact gR _ | refine gO ?_ _ | refine gA ?_ _ | refine gD ?_ | refine gN ?_ _)))); rintro e w' ⟨rfl, x, rfl⟩))
      go_ret
      exact ⟨rfl, by (repeat (first | exact gR _ | refine gO ?_ _ | refine gA ?_ _ | refine gD ?_ | refine gN ?_ _))⟩
    · obtain rfl : t = false := by rw [← Ht.out]; unfold rngB; rw [decide_eq_false (by omega : ¬ y ≤ 2)]; simp
      have j0 : ¬ y < -1 := by omega
      clear ht hx hy hld hlo hob hI cL' hP hE hV
      go_enter Tryd.func66, Tryd.ntmps66
      go_upto_region 1 with fail
      refine wp_region_over (by kernel_rfl) (by kernel_rfl) ?_; (repeat (go_big_quiet_step (fail))); refine wpQuiet_nil ?_; rintro _ ⟨x, rfl⟩
      go_wp2_with ((go_at_call 32; apply Calls.mono; (with_reducible exact Hout.out _ (by (repeat (first | exact gR _ | refine gO ?_ _ | refine gA ?_ _ | refine gD ?_ | refine gN ?_ _)))); rintro e w' ⟨rfl, x, rfl⟩))
      go_ret
      exact ⟨rfl, by (repeat (first | exact gR _ | refine gO ?_ _ | refine gA ?_ _ | refine gD ?_ | refine gN ?_ _))⟩
    have j0 : ¬ y < -1 := by omega
    have j1 : ¬ 2 < y := by omega
    have hrx : rngB x = true := by unfold rngB; rw [decide_eq_true k, decide_eq_true k']; rfl
    have hry : rngB y = true := by unfold rngB; rw [decide_eq_true j, decide_eq_true j']; rfl
    obtain ⟨ex, hex⟩ : ∃ ex, (x == -1) = ex := ⟨_, rfl⟩
    obtain ⟨ey, hey⟩ : ∃ ey, (y == -1) = ey := ⟨_, rfl⟩
    by_cases hxy : ex = ey
    · subst hxy
      obtain rfl : t = false := by rw [← Ht.out, hex, hey]; simp
      clear ht hx hy hld hlo hob hI cL' hP hE hV
      cases ex
      · go_enter Tryd.func66, Tryd.ntmps66
        go_upto_region 1 with fail
        refine wp_region_over (by kernel_rfl) (by kernel_rfl) ?_; (repeat (go_big_quiet_step (fail))); refine wpQuiet_nil ?_; rintro _ ⟨x, rfl⟩
        go_wp2_with ((go_at_call 32; apply Calls.mono; (with_reducible exact Hout.out _ (by (repeat (first | exact gR _ | refine gO ?_ _ | refine gA ?_ _ | refine gD ?_ | refine gN ?_ _)))); rintro e w' ⟨rfl, x, rfl⟩))
        go_ret
        exact ⟨rfl, by (repeat (first | exact gR _ | refine gO ?_ _ | refine gA ?_ _ | refine gD ?_ | refine gN ?_ _))⟩
      · go_enter Tryd.func66, Tryd.ntmps66
        go_upto_region 1 with fail
        refine wp_region_over (by kernel_rfl) (by kernel_rfl) ?_; (repeat (go_big_quiet_step (fail))); refine wpQuiet_nil ?_; rintro _ ⟨x, rfl⟩
        go_wp2_with ((go_at_call 32; apply Calls.mono; (with_reducible exact Hout.out _ (by (repeat (first | exact gR _ | refine gO ?_ _ | refine gA ?_ _ | refine gD ?_ | refine gN ?_ _)))); rintro e w' ⟨rfl, x, rfl⟩))
        go_ret
        exact ⟨rfl, by (repeat (first | exact gR _ | refine gO ?_ _ | refine gA ?_ _ | refine gD ?_ | refine gN ?_ _))⟩
    have Hs : Hid ((sideB E A L d && sideB E A L o) = t) := Lib.hid (by
      rw [← Ht.out, hrx, hry, hex, hey]
      have : (ex != ey) = true := by simp [bne, hxy]
      rw [this]
      simp)
    have Hels : Hid (∀ k : Nat, k < 2 → ∃ c c' : Nat, (if k = 0 then d else o) = c ∧ c < 2 * E.length ∧ c' < 2 * E.length ∧ oth (c : Int) = (c' : Int)) := Lib.hid (fun k hk => by
      rcases (by omega : k = 0 ∨ k = 1) with rfl | rfl
      · exact ⟨d, o, rfl, hd, ho2, ho⟩
      · exact ⟨o, d, rfl, ho2, hd, by rw [← ho, oth_oth]⟩)
    have Htl : Hid (∀ (c : Nat) W1, Grew w W1 → c < 2 * E.length → Calls Tryd.prog 31 #[.pointer (some ⟨b, 0, none⟩), .int .i64 c] W1 fun e w' => e = .returned (.int .i64 (tailE E c)) ∧ W1 = w') := Lib.hid (fun c W1 h hc => tail38_c b pE nE cE E W1 (HP.out.grew h).c1 (HE.out.grew h) hnE h1 c hc)
    have Hrt : Hid (∀ (v : Int) (r : Int) W1, Grew w W1 → idx v (rts E A) = r → Calls Tryd.prog 36 #[.pointer (some ⟨b, 0, none⟩), .int .i64 v] W1 fun e w' => e = .returned (.int .i64 r) ∧ W1 = w') := Lib.hid (fun v r W1 h hr => root_p HV.out h0 hN (HP.out.grew h) v r hr)
    have hL100 : L.length ≤ 200 := by omega
    have Hne : Hid ((ex == ey) = false) := Lib.hid (beq_eq_false_iff_ne.2 hxy)
    have hne := Hne.out
    clear ht hx hy hld hlo hob hI cL' hP hE hV hxy Ht hrx hry
    go_enter Tryd.func66, Tryd.ntmps66
    go_upto_region 1 with fail
    refine wp_region_over (by kernel_rfl) (by kernel_rfl) ?_; (repeat (go_big_quiet_step (fail))); refine wpQuiet_nil ?_; intro wv hW; replace hW : Grew _ wv := hW
    have HW := Lib.hid hW
    clear hW
    go_wp2_with (go_at_call 32; apply Calls.mono; (with_reducible exact Hout.out _ (HW.out.trans (by (repeat (first | exact gR _ | refine gO ?_ _ | refine gA ?_ _ | refine gD ?_ | refine gN ?_ _))))); rintro e wo ⟨rfl, hgo⟩; have Hgo := Lib.hid (HW.out.trans (Grew.trans (by (repeat (first | exact gR _ | refine gO ?_ _ | refine gA ?_ _ | refine gD ?_ | refine gN ?_ _))) hgo)); clear hgo)
    obtain ⟨wS, hwS⟩ : ∃ wS, wo.alloc (.cells #[.int .i64 d, .int .i64 o] 3) = wS := ⟨_, rfl⟩
    have HgS : Hid (Grew wo wS) := Lib.hid (by rw [← hwS]; exact (Grew.refl wo).alloc _)
    have Hel : Hid (∀ k : Nat, k < 2 → wS.cell? ⟨wo.heap.size, k, none⟩ = some (.int .i64 ((if k = 0 then d else o : Nat) : Int))) := Lib.hid (fun k hk => by
      rw [← hwS]
      rcases (by omega : k = 0 ∨ k = 1) with rfl | rfl
      · simp [go_sem]
      · simp [go_sem])
    have hsS : wS.heap.size = wo.heap.size + 1 := by rw [← hwS]; simp
    rw [hwS]
    clear hwS
    go_loopw [61] (fun kv wr => ∃ k : Nat, k ≤ 2 ∧ kv = .int .i64 k ∧ (∀ j, j < k → sideB E A L ((if j = 0 then d else o : Nat) : Int) = true) ∧ Grew wS wr) (fun kv _ => 2 - (intOf kv).toNat)
    case atStart => exact ⟨0, by omega, rfl, fun j hj => by omega, by (repeat (first | exact gR _ | refine gO ?_ _ | refine gA ?_ _ | refine gD ?_ | refine gN ?_ _))⟩
    case round =>
      obtain ⟨q, hq, rfl, hall, hgr⟩ := hrel
      have Hall := Lib.hid hall
      have Hgr : Hid (Grew w wr) := Lib.hid ((Hgo.out.trans HgS.out).trans hgr)
      have HgSr := Lib.hid hgr
      have hszr := hgr.below.size
      clear hall
      by_cases hlt : q < 2
      · have ce := hgr.cellEq (Hel.out q hlt)
        obtain ⟨c, c', hc, hc2, hc3, hc4⟩ := Hels.out q hlt
        rw [hc] at ce
        have lc := HcL.out wr Hgr.out c (by omega)
        obtain ⟨lb, hlb⟩ : ∃ lb, ge L c = lb := ⟨_, rfl⟩
        rw [hlb] at lc
        have hlab : lab L (c : Int) = lb := by unfold lab; rw [Int.toNat_natCast]; exact hlb
        have hcl : (c : Int) < (L.length : Int) := by omega
        have hcx : bits BinOp.xor IntKind.i64 (c : Int) 1 = (c' : Int) := by rw [← hc4]; exact xor_small c (by omega)
        obtain ⟨sb, hsb⟩ : ∃ sb, sideB E A L c = sb := ⟨_, rfl⟩
        have hsb2 := hsb
        unfold sideB at hsb2
        rw [hlab, hc4] at hsb2
        have Hnext : Hid (sb = true → ∀ j, j < q + 1 → sideB E A L ((if j = 0 then d else o : Nat) : Int) = true) := Lib.hid (fun e j hj => by
          by_cases h : j = q
          · rw [h, hc, hsb, e]
          · exact Hall.out j (by omega))
        have Hbad : Hid (sb = false → t = false) := Lib.hid (fun e => by
          rw [← Hs.out]
          rcases (by omega : q = 0 ∨ q = 1) with rfl | rfl
          · have : d = c := by simpa using hc
            rw [this, hsb, e]; rfl
          · have : o = c := by simpa using hc
            rw [this, hsb, e]; simp)
        clear hlb hc hlab
        have hqi : (q : Int) < 2 := by omega
        by_cases hneg : lb < 0
        · obtain rfl : sb = true := by rw [← hsb2, decide_eq_true hneg]; rfl
          clear hsb hsb2
          go_wp2
          go_roundw
          case rel => exact ⟨q + 1, by omega, by go_num, Hnext.out (by first | rfl | trivial), HgSr.out.trans (by (repeat (first | exact gR _ | refine gO ?_ _ | refine gA ?_ _ | refine gD ?_ | refine gN ?_ _)))⟩
          case measure => (simp [intOf] <;> omega)
        have hneg' : ¬ lb < 0 := hneg
        obtain ⟨r1, hr1⟩ : ∃ r1, idx (tailE E c) (rts E A) = r1 := ⟨_, rfl⟩
        have Hr1 := Lib.hid hr1
        rw [hr1, decide_eq_false hneg, Bool.false_or] at hsb2
        clear hr1
        by_cases hr1 : 0 ≤ r1
        · obtain rfl : sb = false := by rw [← hsb2, decide_eq_false (by omega)]; rfl
          obtain rfl := Hbad.out rfl
          clear hsb hsb2
          go_wp2_with (first
            | ((go_at_call 31; apply Calls.mono; (with_reducible exact Htl.out _ _ (Hgr.out.trans (by (repeat (first | exact gR _ | refine gO ?_ _ | refine gA ?_ _ | refine gD ?_ | refine gN ?_ _)))) hc2); rintro e w' ⟨rfl, rfl⟩))
            | ((go_at_call 36; apply Calls.mono; (with_reducible exact Hrt.out _ _ _ (Hgr.out.trans (by (repeat (first | exact gR _ | refine gO ?_ _ | refine gA ?_ _ | refine gD ?_ | refine gN ?_ _)))) Hr1.out); rintro e w' ⟨rfl, rfl⟩)))
          go_ret
          exact ⟨rfl, Hgr.out.trans (by (repeat (first | exact gR _ | refine gO ?_ _ | refine gA ?_ _ | refine gD ?_ | refine gN ?_ _)))⟩
        obtain ⟨r2, hr2⟩ : ∃ r2, idx (tailE E c') (rts E A) = r2 := ⟨_, rfl⟩
        have Hr2 := Lib.hid hr2
        rw [hr2, decide_eq_true (by omega : r1 < 0), Bool.true_and] at hsb2
        clear hr2
        by_cases hr2 : 0 ≤ r2
        · by_cases hrl : r2 = lb
          · obtain rfl : sb = true := by rw [← hsb2, decide_eq_true hrl]; simp
            have hrb : (r2 != lb) = false := by simp [hrl]
            have hrb2 : (r2 == lb) = true := beq_iff_eq.2 hrl
            clear hsb hsb2
            have HrL := Lib.hid hrl
            clear hrl
            go_wp2_with (first
              | ((go_at_call 31; apply Calls.mono; (with_reducible exact Htl.out _ _ (Hgr.out.trans (by (repeat (first | exact gR _ | refine gO ?_ _ | refine gA ?_ _ | refine gD ?_ | refine gN ?_ _)))) hc2); rintro e w' ⟨rfl, rfl⟩))
              | ((go_at_call 31; apply Calls.mono; (with_reducible exact Htl.out _ _ (Hgr.out.trans (by (repeat (first | exact gR _ | refine gO ?_ _ | refine gA ?_ _ | refine gD ?_ | refine gN ?_ _)))) hc3); rintro e w' ⟨rfl, rfl⟩))
              | ((go_at_call 36; apply Calls.mono; (with_reducible exact Hrt.out _ _ _ (Hgr.out.trans (by (repeat (first | exact gR _ | refine gO ?_ _ | refine gA ?_ _ | refine gD ?_ | refine gN ?_ _)))) Hr1.out); rintro e w' ⟨rfl, rfl⟩))
              | ((go_at_call 36; apply Calls.mono; (with_reducible exact Hrt.out _ _ _ (Hgr.out.trans (by (repeat (first | exact gR _ | refine gO ?_ _ | refine gA ?_ _ | refine gD ?_ | refine gN ?_ _)))) Hr2.out); rintro e w' ⟨rfl, rfl⟩)))
            go_roundw
            case rel => exact ⟨q + 1, by omega, by go_num, Hnext.out (by first | rfl | trivial), HgSr.out.trans (by (repeat (first | exact gR _ | refine gO ?_ _ | refine gA ?_ _ | refine gD ?_ | refine gN ?_ _)))⟩
            case measure => (simp [intOf] <;> omega)
          · obtain rfl : sb = false := by rw [← hsb2, decide_eq_false hrl, decide_eq_false (by omega)]; rfl
            obtain rfl := Hbad.out rfl
            have hrb2 : (r2 == lb) = false := beq_eq_false_iff_ne.2 hrl
            clear hsb hsb2
            go_wp2_with (first
              | ((go_at_call 31; apply Calls.mono; (with_reducible exact Htl.out _ _ (Hgr.out.trans (by (repeat (first | exact gR _ | refine gO ?_ _ | refine gA ?_ _ | refine gD ?_ | refine gN ?_ _)))) hc2); rintro e w' ⟨rfl, rfl⟩))
              | ((go_at_call 31; apply Calls.mono; (with_reducible exact Htl.out _ _ (Hgr.out.trans (by (repeat (first | exact gR _ | refine gO ?_ _ | refine gA ?_ _ | refine gD ?_ | refine gN ?_ _)))) hc3); rintro e w' ⟨rfl, rfl⟩))
              | ((go_at_call 36; apply Calls.mono; (with_reducible exact Hrt.out _ _ _ (Hgr.out.trans (by (repeat (first | exact gR _ | refine gO ?_ _ | refine gA ?_ _ | refine gD ?_ | refine gN ?_ _)))) Hr1.out); rintro e w' ⟨rfl, rfl⟩))
              | ((go_at_call 36; apply Calls.mono; (with_reducible exact Hrt.out _ _ _ (Hgr.out.trans (by (repeat (first | exact gR _ | refine gO ?_ _ | refine gA ?_ _ | refine gD ?_ | refine gN ?_ _)))) Hr2.out); rintro e w' ⟨rfl, rfl⟩)))
            go_ret
            exact ⟨rfl, Hgr.out.trans (by (repeat (first | exact gR _ | refine gO ?_ _ | refine gA ?_ _ | refine gD ?_ | refine gN ?_ _)))⟩
        · obtain rfl : sb = true := by rw [← hsb2, decide_eq_true (by omega : r2 < 0)]; rfl
          clear hsb hsb2
          go_wp2_with (first
            | ((go_at_call 31; apply Calls.mono; (with_reducible exact Htl.out _ _ (Hgr.out.trans (by (repeat (first | exact gR _ | refine gO ?_ _ | refine gA ?_ _ | refine gD ?_ | refine gN ?_ _)))) hc2); rintro e w' ⟨rfl, rfl⟩))
            | ((go_at_call 31; apply Calls.mono; (with_reducible exact Htl.out _ _ (Hgr.out.trans (by (repeat (first | exact gR _ | refine gO ?_ _ | refine gA ?_ _ | refine gD ?_ | refine gN ?_ _)))) hc3); rintro e w' ⟨rfl, rfl⟩))
            | ((go_at_call 36; apply Calls.mono; (with_reducible exact Hrt.out _ _ _ (Hgr.out.trans (by (repeat (first | exact gR _ | refine gO ?_ _ | refine gA ?_ _ | refine gD ?_ | refine gN ?_ _)))) Hr1.out); rintro e w' ⟨rfl, rfl⟩))
            | ((go_at_call 36; apply Calls.mono; (with_reducible exact Hrt.out _ _ _ (Hgr.out.trans (by (repeat (first | exact gR _ | refine gO ?_ _ | refine gA ?_ _ | refine gD ?_ | refine gN ?_ _)))) Hr2.out); rintro e w' ⟨rfl, rfl⟩)))
          go_roundw
          case rel => exact ⟨q + 1, by omega, by go_num, Hnext.out (by first | rfl | trivial), HgSr.out.trans (by (repeat (first | exact gR _ | refine gO ?_ _ | refine gA ?_ _ | refine gD ?_ | refine gN ?_ _)))⟩
          case measure => (simp [intOf] <;> omega)
      · obtain rfl : q = 2 := by omega
        obtain rfl : t = true := by
          rw [← Hs.out]
          have a1 : sideB E A L (d : Int) = true := Hall.out 0 (by omega)
          have a2 : sideB E A L (o : Int) = true := Hall.out 1 (by omega)
          rw [a1, a2]; rfl
        go_wp2
        go_ret
        exact ⟨rfl, Hgr.out.trans (by (repeat (first | exact gR _ | refine gO ?_ _ | refine gA ?_ _ | refine gD ?_ | refine gN ?_ _)))⟩
end
end Go.Proofs.YtlealdicoceekaaDoor

/- turns and fits of the program. -/
namespace Go.Proofs.YtlealdicoceekaaDoor
open Go.RowKit
attribute [local go_sem ↓] Go.wp_at_zero Go.wp_at_succ

/-- The labels around a vertex, from the dart with the label 0 on: the last tree that left, the next one. -/
def runB (L : List Int) : Nat → Nat → List Int → Bool
  | _, lv, [] => decide (lv = 3)
  | last, lv, d :: ds => if 0 ≤ lab L d then (if lab L d = (lv : Int) then runB L lv (lv + 1) ds else false) else if lab L (oth d) = ((last : Int) + 2) % 3 then runB L last lv ds else false
/-- The first place with the label t, or -1. -/
def atF (L : List Int) (t : Int) : List Int → Int
  | [] => -1
  | d :: ds => if lab L d = t then 0 else if atF L t ds = -1 then -1 else atF L t ds + 1
def turnsB (A : List (List Int)) (L : List Int) (v : Nat) : Bool :=
  if atF L 0 (rowOf A v) < 0 then false else runB L 0 0 ((rowOf A v).drop (atF L 0 (rowOf A v)).toNat ++ (rowOf A v).take (atF L 0 (rowOf A v)).toNat)
def fitB (E : List (Int × Int)) (A : List (List Int)) (L : List Int) : Bool :=
  decide (L.length = 2 * E.length) && ((List.range E.length).all fun i => endsB E A L (2 * (i : Int))) && ((List.range A.length).all fun v => decide (0 ≤ idx v (rts E A)) || turnsB A L v)
theorem atF_none {L : List Int} {t : Int} : ∀ {xs : List Int}, (∀ j, j < xs.length → lab L (ge xs j) ≠ t) → atF L t xs = -1
  | [], _ => rfl
  | x :: xs, h => by
    unfold atF
    have h0 := h 0 (by simp)
    rw [ge_cons_zero] at h0
    rw [if_neg h0, if_pos (atF_none (fun j hj => by have := h (j + 1) (by simpa using hj); rwa [ge_cons_succ] at this))]
theorem atF_first {L : List Int} {t : Int} : ∀ {xs : List Int} (k : Nat), k < xs.length → (∀ j, j < k → lab L (ge xs j) ≠ t) → lab L (ge xs k) = t → atF L t xs = k
  | [], k, h, _, _ => by simp at h
  | x :: xs, 0, _, _, h => by
    rw [ge_cons_zero] at h
    unfold atF
    rw [if_pos h]; rfl
  | x :: xs, k + 1, hk, h1, h2 => by
    have h0 := h1 0 (by omega)
    rw [ge_cons_zero] at h0
    rw [ge_cons_succ] at h2
    have := atF_first k (by simpa using hk) (fun j hj => by have := h1 (j + 1) (by omega); rwa [ge_cons_succ] at this) h2
    unfold atF
    rw [if_neg h0, this, if_neg (by omega)]
    omega
theorem atF_range {L : List Int} {t : Int} : ∀ xs : List Int, -1 ≤ atF L t xs ∧ atF L t xs < (xs.length : Int)
  | [] => by unfold atF; simp
  | x :: xs => by
    have := atF_range (L := L) (t := t) xs
    unfold atF
    split
    · simp only [List.length_cons]; omega
    · split <;> simp only [List.length_cons] <;> omega
theorem atF_at {L : List Int} {t : Int} : ∀ {xs : List Int}, 0 ≤ atF L t xs → lab L (ge xs (atF L t xs).toNat) = t ∧ (xs.find? (fun d => lab L d == t)) = some (ge xs (atF L t xs).toNat)
  | [], h => by unfold atF at h; omega
  | x :: xs, h => by
    unfold atF at h ⊢
    by_cases e : lab L x = t
    · rw [if_pos e, show (0 : Int).toNat = 0 from rfl, ge_cons_zero]
      refine ⟨e, ?_⟩
      rw [List.find?_cons_of_pos (by simpa using e)]
    · rw [if_neg e] at h ⊢
      by_cases e2 : atF L t xs = -1
      · rw [if_pos e2] at h; omega
      · rw [if_neg e2] at h ⊢
        have h3 := atF_range (L := L) (t := t) xs
        have ih := atF_at (L := L) (t := t) (xs := xs) (by omega)
        rw [show (atF L t xs + 1).toNat = (atF L t xs).toNat + 1 by omega, ge_cons_succ]
        refine ⟨ih.1, ?_⟩
        rw [List.find?_cons_of_neg (by simpa using e)]
        exact ih.2

set_option maxHeartbeats 1000000 in
theorem turns1_p (d : Nat) (g : Nat) (pL : Option Addr) (nL cL : Nat) (L : List Int) (w : World) (h : w.cell? ⟨g, 0, none⟩ = some (.slice pL nL cL)) (hI : Ints w pL L) (hnL : L.length = nL) (hd : d < L.length) (t : Bool) (ht : (lab L d == 0) = t) :
    Calls Tryd.prog 83 #[.int .i64 d, .pointer (some ⟨g, 0, none⟩)] w fun e w' => e = .returned (.bool t) ∧ w = w' := by
  subst hnL
  obtain ⟨bL, oL, rfl, lL, cL'⟩ := hI.cells (by omega)
  have p0 := cL' w (Grew.refl _) d hd
  have e : ge L d = lab L d := by unfold lab; rw [Int.toNat_natCast]
  rw [e] at p0
  have hdl : (d : Int) < (L.length : Int) := by omega
  clear cL' e hI
  obtain ⟨x, hx⟩ : ∃ x, lab L d = x := ⟨_, rfl⟩
  rw [hx] at ht p0
  clear hx
  cases t
  · go_enter Tryd.func83, Tryd.ntmps83
    go_wp2
    go_ret
    exact ⟨rfl, rfl⟩
  · go_enter Tryd.func83, Tryd.ntmps83
    go_wp2
    go_ret
    exact ⟨rfl, rfl⟩
set_option maxHeartbeats 2000000 in
theorem turnsI_p (p : Option Addr) (cap : Nat) (xs : List Int) (n : Nat) (g : Nat) (pL : Option Addr) (nL cL : Nat) (L : List Int) (w : World) (hI : Ints w p xs) (hn : xs.length = n) (hx : ∀ x ∈ xs, 0 ≤ x ∧ x < (L.length : Int)) (h : w.cell? ⟨g, 0, none⟩ = some (.slice pL nL cL)) (hL : Ints w pL L) (hnL : L.length = nL) (r : Int) (hr : atF L 0 xs = r) :
    Calls Tryd.prog 63 #[.slice p n cap, .func (.func 83) #[] #[.pointer (some ⟨g, 0, none⟩)]] w fun e w' => e = .returned (.int .i64 r) ∧ w = w' := by
  subst hn
  have Hx := Lib.hid hx
  have HL := Lib.hid hL
  have HnL := Lib.hid hnL
  have Hr := Lib.hid hr
  clear hx hL hnL hr
  obtain ⟨hm, _, b, o, h3, h4⟩ := hI
  go_enter Tryd.func63, Tryd.ntmps63
  go_wp2
  go_loop [5, 8] (fun _ i => ∃ k : Nat, k ≤ xs.length ∧ i = .int .i64 k ∧ ∀ j, j < k → lab L (ge xs j) ≠ 0) (fun _ i => xs.length - (intOf i).toNat)
  case atStart => exact ⟨0, Nat.zero_le _, rfl, fun j hj => by omega⟩
  case round =>
    obtain ⟨k, hk, rfl, hall⟩ := hrel
    have Hall := Lib.hid hall
    clear hall
    by_cases hlt : k < xs.length
    · obtain ⟨rfl, hb⟩ := h3 (by omega)
      have hc := h4 k hlt
      have hx0 := Hx.out _ (ge_mem hlt)
      obtain ⟨c, hce⟩ : ∃ c : Nat, ge xs k = (c : Int) := ⟨(ge xs k).toNat, by omega⟩
      rw [hce] at hc
      have Hce := Lib.hid hce
      have Hc9 : Hid (c < L.length) := Lib.hid (by omega)
      clear h3 h4 hce hx0
      cases he : (lab L (c : Int) == 0)
      · have He := Lib.hid he
        have hne : lab L (c : Int) ≠ 0 := beq_eq_false_iff_ne.1 he
        have Hne := Lib.hid hne
        clear he hne
        go_wp2_with ((go_at_call 83; apply Calls.mono; (with_reducible exact turns1_p _ _ _ _ _ _ _ h HL.out HnL.out Hc9.out _ He.out); rintro e w' ⟨rfl, rfl⟩))
        go_round
        case rel => exact ⟨k + 1, by omega, by go_num, fun j hj => by
          by_cases h : j = k
          · rw [h, Hce.out]; exact Hne.out
          · exact Hall.out j (by omega)⟩
        case measure => simp [intOf]; omega
      · have He := Lib.hid he
        have Hf := Lib.hid (atF_first (t := 0) k hlt (fun j hj => Hall.out j hj) (by rw [Hce.out]; exact beq_iff_eq.1 he))
        clear he
        go_wp2_with ((go_at_call 83; apply Calls.mono; (with_reducible exact turns1_p _ _ _ _ _ _ _ h HL.out HnL.out Hc9.out _ He.out); rintro e w' ⟨rfl, rfl⟩))
        go_ret
        exact ⟨ret_int (Hf.out.symm.trans Hr.out), rfl⟩
    · have Hf := Lib.hid (atF_none (L := L) (t := 0) (xs := xs) fun j hj => Hall.out j (by omega))
      go_wp2
      go_ret
      exact ⟨ret_int (Hf.out.symm.trans Hr.out), rfl⟩
section
variable {w : World} {b gf : Nat} {N : Int} {pE pA : Option Addr} {nE nA cE cA : Nat} {E : List (Int × Int)} {A : List (List Int)} {L : List Int}
set_option maxRecDepth 4000 in
set_option maxHeartbeats 8000000 in
theorem turns_p (hV : vRot N E A) (h1 : E.length ≤ 100) (hP : Plan w b gf N pE pA nE nA cE cA E A) (hA : Mat w pA A) (hnA : A.length = nA) (pL : Option Addr) (nL cL : Nat) (hI : Ints w pL L) (hnL : L.length = nL) (hl : L.length = 2 * E.length)
    (v : Nat) (hv : v < A.length) (t : Bool) (ht : turnsB A L v = t) :
    Calls Tryd.prog 67 #[.pointer (some ⟨b, 0, none⟩), .slice pL nL cL, .int .i64 v] w fun e w' => e = .returned (.bool t) ∧ Grew w w' := by
  subst hnA
  have HI := Lib.hid hI
  have HnL := Lib.hid hnL
  have Hl : Hid (nL = 2 * E.length) := Lib.hid (by omega)
  have c2 := hP.c2
  have hb := hP.lt
  have hmr : ∀ x ∈ rowOf A v, 0 ≤ x ∧ x < (L.length : Int) := fun x hx => by
    have := mem_row hV hv hx
    omega
  have hrl : (rowOf A v).length ≤ 200 := by
    have h2 := int_nodup_len (M := L.length) (row_nodup hV hv) hmr
    omega
  obtain ⟨bA, oA, rp, rc, rfl, lA, cA'⟩ := hA.rows (by omega)
  obtain ⟨a1, a2⟩ := cA' w (Grew.refl _) v hv
  obtain ⟨rv, hrv⟩ : ∃ rv, rp v = rv := ⟨_, rfl⟩
  rw [hrv] at a1 a2
  have Ha2 := Lib.hid a2
  obtain ⟨xs, hxs⟩ : ∃ xs, rowOf A v = xs := ⟨_, rfl⟩
  unfold turnsB at ht
  rw [hxs] at a1 Ha2 ht hmr hrl
  have Hmr := Lib.hid hmr
  have hvi : (v : Int) < (A.length : Int) := by omega
  obtain ⟨r, hr⟩ : ∃ r, atF L 0 xs = r := ⟨_, rfl⟩
  have Hr := Lib.hid hr
  rw [hr] at ht
  have hrr := atF_range (L := L) (t := 0) xs
  rw [hr] at hrr
  clear hP hA hV cA' a2 hrv hI hr hmr hxs hnL hl
  by_cases hneg : r < 0
  · rw [if_pos hneg] at ht
    subst ht
    go_enter Tryd.func67, Tryd.ntmps67
    go_wp2_with ((go_at_call 63; apply Calls.mono; (with_reducible exact turnsI_p _ _ xs _ _ pL nL cL L _ (Ha2.out.grew (by (repeat (first | exact gR _ | refine gO ?_ _ | refine gA ?_ _ | refine gD ?_ | refine gN ?_ _)))) rfl Hmr.out (by simp [go_sem]) (HI.out.grew (by (repeat (first | exact gR _ | refine gO ?_ _ | refine gA ?_ _ | refine gD ?_ | refine gN ?_ _)))) HnL.out _ Hr.out); rintro e w' ⟨rfl, rfl⟩))
    go_ret
    exact ⟨rfl, by (repeat (first | exact gR _ | refine gO ?_ _ | refine gA ?_ _ | refine gD ?_ | refine gN ?_ _))⟩
  rw [if_neg hneg] at ht
  obtain ⟨a, rfl⟩ : ∃ a : Nat, r = (a : Int) := ⟨r.toNat, by omega⟩
  rw [Int.toNat_natCast] at ht
  have ha : a < xs.length := by omega
  have Hrot : Hid (∀ i, i < xs.length → ge (xs.drop a ++ xs.take a) i = ge xs ((a + i) % xs.length)) := Lib.hid (fun i hi => by
    unfold ge
    rw [List.getD_eq_getElem?_getD, List.getD_eq_getElem?_getD]
    by_cases h : a + i < xs.length
    · rw [Nat.mod_eq_of_lt h, List.getElem?_append_left (by rw [List.length_drop]; omega), List.getElem?_drop]
    · rw [show (a + i) % xs.length = a + i - xs.length by rw [Nat.mod_eq_sub_mod (by omega), Nat.mod_eq_of_lt (by omega)], List.getElem?_append_right (by rw [List.length_drop]; omega), List.length_drop, List.getElem?_take_of_lt (by omega)]
      congr 2
      omega)
  obtain ⟨rt, hrt⟩ : ∃ rt, xs.drop a ++ xs.take a = rt := ⟨_, rfl⟩
  have hrl2 : rt.length = xs.length := by rw [← hrt]; simp; omega
  rw [hrt] at Hrot ht
  have Hrl2 := Lib.hid hrl2
  clear hrt hrl2 hneg
  go_enter Tryd.func67, Tryd.ntmps67
  go_wp2_with ((go_at_call 63; apply Calls.mono; (with_reducible exact turnsI_p _ _ xs _ _ pL nL cL L _ (Ha2.out.grew (by (repeat (first | exact gR _ | refine gO ?_ _ | refine gA ?_ _ | refine gD ?_ | refine gN ?_ _)))) rfl Hmr.out (by simp [go_sem]) (HI.out.grew (by (repeat (first | exact gR _ | refine gO ?_ _ | refine gA ?_ _ | refine gD ?_ | refine gN ?_ _)))) HnL.out _ Hr.out); rintro e w' ⟨rfl, rfl⟩))
  obtain ⟨wB, hwB⟩ : ∃ wB, w.alloc (.cells #[.slice pL nL cL] 26) = wB := ⟨_, rfl⟩
  have HwB : Hid (Grew w wB) := Lib.hid (by rw [← hwB]; exact (Grew.refl w).alloc _)
  have Hc0 : Hid (wB.cell? ⟨w.heap.size, 0, none⟩ = some (.slice pL nL cL)) := Lib.hid (by rw [← hwB]; simp [go_sem])
  have hsB : wB.heap.size = w.heap.size + 1 := by rw [← hwB]; simp
  rw [hwB]
  clear hwB
  go_loopw [9, 10, 28] (fun lv nv iv wr => ∃ i last lg : Nat, i ≤ xs.length ∧ iv = .int .i64 i ∧ lv = .int .i64 last ∧ nv = .int .i64 lg ∧ last ≤ i ∧ lg ≤ i ∧ runB L last lg (rt.drop i) = t ∧ Grew wB wr) (fun _ _ iv _ => xs.length - (intOf iv).toNat)
  case atStart => exact ⟨0, 0, 0, Nat.zero_le _, rfl, rfl, rfl, Nat.le_refl _, Nat.le_refl _, ht, by (repeat (first | exact gR _ | refine gO ?_ _ | refine gA ?_ _ | refine gD ?_ | refine gN ?_ _))⟩
  case round =>
    obtain ⟨i, last, lg, hi, rfl, rfl, rfl, hla, hlg, hrun, hgB⟩ := hrel
    have hszr := hgB.below.size
    have q0 := hgB.cellEq Hc0.out
    have Hgw : Hid (Grew w wr) := Lib.hid (HwB.out.trans hgB)
    have HgB := Lib.hid hgB
    clear hgB
    by_cases hlt : i < xs.length
    · have hmod : (a + i) % xs.length < xs.length := Nat.mod_lt _ (by omega)
      obtain ⟨m, hm⟩ : ∃ m, (a + i) % xs.length = m := ⟨_, rfl⟩
      rw [hm] at hmod
      have hmi : ((a : Int) + (i : Int)) % (xs.length : Int) = (m : Int) := by rw [← hm]; push_cast; rfl
      have hdm := Hmr.out _ (ge_mem hmod)
      obtain ⟨bR, oR, rfl, lR, cR⟩ := (Ha2.out.grew Hgw.out).cells (by omega)
      have p0 := cR _ (Grew.refl _) m hmod
      obtain ⟨d, hd⟩ : ∃ d : Nat, ge xs m = (d : Int) := ⟨(ge xs m).toNat, by omega⟩
      rw [hd] at p0
      have hrd : rt.drop i = (d : Int) :: rt.drop (i + 1) := by
        have := Hrot.out i hlt
        rw [hm, hd] at this
        rw [← this, ge_eq rt (by rw [Hrl2.out]; exact hlt)]
        exact List.drop_eq_getElem_cons _
      rw [hrd] at hrun
      have hd2 : d < nL := by have := HnL.out; omega
      obtain ⟨o, ho⟩ : ∃ o : Nat, oth (d : Int) = (o : Int) := ⟨(oth d).toNat, by have := oth_in (d := d) (M := E.length) (by omega) (by have := Hl.out; omega); omega⟩
      have ho2 : o < nL := by have := oth_in (d := d) (M := E.length) (by omega) (by have := Hl.out; omega); have := Hl.out; omega
      have hx2 : bits BinOp.xor IntKind.i64 (d : Int) 1 = (o : Int) := by rw [← ho]; exact xor_small d (by have := Hl.out; omega)
      obtain ⟨bL, oL, rfl, lL, cL'⟩ := HI.out.cells (by rw [HnL.out]; omega)
      have l0 := cL' wr Hgw.out d (by rw [HnL.out]; exact hd2)
      have l1 := cL' wr Hgw.out o (by rw [HnL.out]; exact ho2)
      obtain ⟨x, hx⟩ : ∃ x, ge L d = x := ⟨_, rfl⟩
      obtain ⟨y, hy⟩ : ∃ y, ge L o = y := ⟨_, rfl⟩
      rw [hx] at l0
      rw [hy] at l1
      have hld : lab L d = x := by unfold lab; rw [Int.toNat_natCast]; exact hx
      have hlo : lab L (oth d) = y := by unfold lab; rw [ho, Int.toNat_natCast]; exact hy
      unfold runB at hrun
      rw [hld, hlo] at hrun
      have hdl : (d : Int) < (nL : Int) := by omega
      have hol : (o : Int) < (nL : Int) := by omega
      have hml : (m : Int) < (xs.length : Int) := by omega
      clear cR cL' hd hrd hdm hx hy hld hlo ho hm
      by_cases hx0 : 0 ≤ x
      · rw [if_pos hx0] at hrun
        by_cases hxl : x = (lg : Int)
        · rw [if_pos hxl] at hrun
          have Hrun := Lib.hid hrun
          have hxb : (x == (lg : Int)) = true := beq_iff_eq.2 hxl
          have hxb2 : (x != (lg : Int)) = false := by simp [hxl]
          clear hrun hxl
          go_wp2
          go_roundw
          case rel => exact ⟨i + 1, lg, lg + 1, by omega, by go_num, rfl, by go_num, by omega, by omega, Hrun.out, HgB.out.trans (by (repeat (first | exact gR _ | refine gO ?_ _ | refine gA ?_ _ | refine gD ?_ | refine gN ?_ _)))⟩
          case measure => (simp [intOf] <;> omega)
        · rw [if_neg hxl] at hrun
          subst hrun
          have hxb : (x == (lg : Int)) = false := beq_eq_false_iff_ne.2 hxl
          clear hxl
          go_wp2
          go_ret
          exact ⟨rfl, Hgw.out.trans (by (repeat (first | exact gR _ | refine gO ?_ _ | refine gA ?_ _ | refine gD ?_ | refine gN ?_ _)))⟩
      · rw [if_neg hx0] at hrun
        obtain ⟨z, hz⟩ : ∃ z : Int, ((last : Int) + 2) % 3 = z := ⟨_, rfl⟩
        rw [hz] at hrun
        by_cases hyz : y = z
        · rw [if_pos hyz] at hrun
          have Hrun := Lib.hid hrun
          have hyb : (y == z) = true := beq_iff_eq.2 hyz
          have hyb2 : (y != z) = false := by simp [hyz]
          clear hrun hyz
          go_wp2
          go_roundw
          case rel => exact ⟨i + 1, last, lg, by omega, by go_num, rfl, rfl, by omega, by omega, Hrun.out, HgB.out.trans (by (repeat (first | exact gR _ | refine gO ?_ _ | refine gA ?_ _ | refine gD ?_ | refine gN ?_ _)))⟩
          case measure => (simp [intOf] <;> omega)
        · rw [if_neg hyz] at hrun
          subst hrun
          have hyb : (y == z) = false := beq_eq_false_iff_ne.2 hyz
          clear hyz
          go_wp2
          go_ret
          exact ⟨rfl, Hgw.out.trans (by (repeat (first | exact gR _ | refine gO ?_ _ | refine gA ?_ _ | refine gD ?_ | refine gN ?_ _)))⟩
    · obtain rfl : i = xs.length := by omega
      rw [← Hrl2.out, List.drop_length] at hrun
      have hf : decide (lg = 3) = t := hrun
      have hf2 : ((lg : Int) == 3) = t := by rw [← hf, Bool.eq_iff_iff, beq_iff_eq, decide_eq_true_iff]; omega
      clear hrun hf
      go_wp2
      go_ret
      exact ⟨rfl, Hgw.out.trans (by (repeat (first | exact gR _ | refine gO ?_ _ | refine gA ?_ _ | refine gD ?_ | refine gN ?_ _)))⟩
end
end Go.Proofs.YtlealdicoceekaaDoor

/- fits of the program. -/
namespace Go.Proofs.YtlealdicoceekaaDoor
open Go.RowKit
attribute [local go_sem ↓] Go.wp_at_zero Go.wp_at_succ

theorem all_no {n : Nat} {p : Nat → Bool} {i : Nat} (hi : i < n) (h : p i = false) : (List.range n).all p = false := by
  rw [List.all_eq_false]
  exact ⟨i, List.mem_range.2 hi, by simp [h]⟩
theorem all_yes {n : Nat} {p : Nat → Bool} (h : ∀ i, i < n → p i = true) : (List.range n).all p = true := by
  rw [List.all_eq_true]
  exact fun i hi => h i (List.mem_range.1 hi)
section
variable {w : World} {b gf : Nat} {N : Int} {pE pA : Option Addr} {nE nA cE cA : Nat} {E : List (Int × Int)} {A : List (List Int)} {L : List Int}
set_option maxRecDepth 4000 in
set_option maxHeartbeats 4000000 in
theorem fits_p (hV : vRot N E A) (h0 : 0 < E.length) (h1 : E.length ≤ 100) (hN : A.length ≤ 100) (hP : Plan w b gf N pE pA nE nA cE cA E A) (hE : Prs w pE E) (hA : Mat w pA A) (hnE : E.length = nE) (hnA : A.length = nA) (pL : Option Addr) (nL cL : Nat) (hI : Ints w pL L) (hnL : L.length = nL) (hL1 : nL ≤ 1000)
    (t : Bool) (ht : fitB E A L = t) :
    Calls Tryd.prog 40 #[.pointer (some ⟨b, 0, none⟩), .slice pL nL cL] w fun e w' => e = .returned (.bool t) ∧ Grew w w' := by
  have HP := Lib.hid hP
  have HI := Lib.hid hI
  have HE := Lib.hid hE
  have HA := Lib.hid hA
  have HV := Lib.hid hV
  have HnL := Lib.hid hnL
  have HnE := Lib.hid hnE
  have HnA := Lib.hid hnA
  have c0 := hP.c0
  have c1 := hP.c1
  have hb := hP.lt
  have hal := hV.al
  have hNA : N = (nA : Int) := by omega
  rw [hNA] at c0
  have hnE1 : nE ≤ 100 := by omega
  have hnA1 : nA ≤ 100 := by omega
  by_cases hl : nL = 2 * nE
  case neg =>
    obtain rfl : t = false := by rw [← ht]; unfold fitB; rw [decide_eq_false (by omega)]; rfl
    have hlb : ((nL : Int) == 2 * (nE : Int)) = false := beq_eq_false_iff_ne.2 (by omega)
    clear ht hP hI hE hA hV hnL hnE hnA hal hNA hl
    go_enter Tryd.func40, Tryd.ntmps40
    go_wp2
    go_ret
    exact ⟨rfl, by (repeat (first | exact gR _ | refine gO ?_ _ | refine gA ?_ _ | refine gD ?_ | refine gN ?_ _))⟩
  have hlb : ((nL : Int) == 2 * (nE : Int)) = true := beq_iff_eq.2 (by omega)
  have hlb2 : ((nL : Int) != 2 * (nE : Int)) = false := by simp [bne, hlb]
  have Hl : Hid (L.length = 2 * E.length) := Lib.hid (by omega)
  have Hnl : Hid (nL = 2 * nE) := Lib.hid hl
  have Ht : Hid ((((List.range nE).all fun i => endsB E A L (2 * (i : Int))) && ((List.range nA).all fun v => decide (0 ≤ idx v (rts E A)) || turnsB A L v)) = t) := Lib.hid (by rw [← ht]; unfold fitB; rw [decide_eq_true Hl.out, hnE, hnA]; simp)
  have He : Hid (∀ (i : Nat) (r : Bool) W1, Grew w W1 → i < nE → endsB E A L (2 * (i : Int)) = r → Calls Tryd.prog 66 #[.pointer (some ⟨b, 0, none⟩), .slice pL nL cL, .int .i64 (2 * (i : Int))] W1 fun e w' => e = .returned (.bool r) ∧ Grew W1 w') := Lib.hid (fun i r W1 h hi hr => by
    have := ends_p HV.out h0 h1 hN (HP.out.grew h) (HE.out.grew h) HnE.out pL nL cL (HI.out.grew h) HnL.out Hl.out (2 * i) (by have := HnE.out; omega) r (by push_cast; exact hr)
    push_cast at this
    exact this)
  have Htn : Hid (∀ (v : Nat) (r : Bool) W1, Grew w W1 → v < nA → turnsB A L v = r → Calls Tryd.prog 67 #[.pointer (some ⟨b, 0, none⟩), .slice pL nL cL, .int .i64 v] W1 fun e w' => e = .returned (.bool r) ∧ Grew W1 w') := Lib.hid (fun v r W1 h hv hr => turns_p HV.out h1 (HP.out.grew h) (HA.out.grew h) HnA.out pL nL cL (HI.out.grew h) HnL.out Hl.out v (by rw [HnA.out]; exact hv) r hr)
  have Hrt : Hid (∀ (v : Int) (r : Int) W1, Grew w W1 → idx v (rts E A) = r → Calls Tryd.prog 36 #[.pointer (some ⟨b, 0, none⟩), .int .i64 v] W1 fun e w' => e = .returned (.int .i64 r) ∧ W1 = w') := Lib.hid (fun v r W1 h hr => root_p HV.out h0 hN (HP.out.grew h) v r hr)
  clear ht hP hI hE hA hV hnL hnE hnA hal hNA hl h0 h1 hN
  go_enter Tryd.func40, Tryd.ntmps40
  go_wp2
  go_loopw [5] (fun dv wr => ∃ i : Nat, i ≤ nE ∧ dv = .int .i64 (2 * (i : Int)) ∧ (∀ j, j < i → endsB E A L (2 * (j : Int)) = true) ∧ Grew w wr) (fun dv _ => 2 * nE - (intOf dv).toNat)
  case atStart => exact ⟨0, Nat.zero_le _, by go_num, fun j hj => by omega, by (repeat (first | exact gR _ | refine gO ?_ _ | refine gA ?_ _ | refine gD ?_ | refine gN ?_ _))⟩
  case round =>
    obtain ⟨i, hi, rfl, hall, hg⟩ := hrel
    have Hall := Lib.hid hall
    have Hg := Lib.hid hg
    have q0 := hg.cellEq c0
    have q1 := hg.cellEq c1
    have hsz := hg.below.size
    clear hall hg
    by_cases hlt : i < nE
    · have hli : 2 * (i : Int) < (nL : Int) := by have := Hnl.out; omega
      obtain ⟨r, hr⟩ : ∃ r, endsB E A L (2 * (i : Int)) = r := ⟨_, rfl⟩
      have Hr := Lib.hid hr
      clear hr
      cases r
      · obtain rfl : t = false := by rw [← Ht.out, all_no hlt Hr.out]; rfl
        go_wp2_with ((go_at_call 66; apply Calls.mono; (with_reducible exact He.out _ _ _ (Hg.out.trans (by (repeat (first | exact gR _ | refine gO ?_ _ | refine gA ?_ _ | refine gD ?_ | refine gN ?_ _)))) hlt Hr.out); rintro e w' ⟨rfl, x, rfl⟩))
        go_ret
        exact ⟨rfl, Hg.out.trans (by (repeat (first | exact gR _ | refine gO ?_ _ | refine gA ?_ _ | refine gD ?_ | refine gN ?_ _)))⟩
      · go_wp2_with ((go_at_call 66; apply Calls.mono; (with_reducible exact He.out _ _ _ (Hg.out.trans (by (repeat (first | exact gR _ | refine gO ?_ _ | refine gA ?_ _ | refine gD ?_ | refine gN ?_ _)))) hlt Hr.out); rintro e w' ⟨rfl, x, rfl⟩))
        go_roundw
        case rel => exact ⟨i + 1, by omega, by go_num, fun j hj => by
          by_cases h : j = i
          · rw [h]; exact Hr.out
          · exact Hall.out j (by omega), Hg.out.trans (by (repeat (first | exact gR _ | refine gO ?_ _ | refine gA ?_ _ | refine gD ?_ | refine gN ?_ _)))⟩
        case measure => (simp [intOf] <;> omega)
    · obtain rfl : i = nE := by omega
      have Hall2 : Hid (((List.range i).all fun i => endsB E A L (2 * (i : Int))) = true) := Lib.hid (all_yes Hall.out)
      have hli : ¬ 2 * (i : Int) < (nL : Int) := by have := Hnl.out; omega
      have Ht2 : Hid (((List.range nA).all fun v => decide (0 ≤ idx v (rts E A)) || turnsB A L v) = t) := Lib.hid (by rw [← Ht.out, Hall2.out]; rfl)
      go_wp2
      go_loopw [33] (fun vv wx => ∃ v : Nat, v ≤ nA ∧ vv = .int .i64 v ∧ (∀ j : Nat, j < v → (decide (0 ≤ idx j (rts E A)) || turnsB A L j) = true) ∧ Grew w wx) (fun vv _ => nA - (intOf vv).toNat)
      case atStart => exact ⟨0, Nat.zero_le _, rfl, fun j hj => by omega, Hg.out.trans (by (repeat (first | exact gR _ | refine gO ?_ _ | refine gA ?_ _ | refine gD ?_ | refine gN ?_ _)))⟩
      case round =>
        obtain ⟨v, hv, rfl, hall, hg⟩ := hrel
        have Hall := Lib.hid hall
        have Hg := Lib.hid hg
        clear hall hg q0 q1
        by_cases hlv : v < nA
        · obtain ⟨r, hr⟩ : ∃ r, idx (v : Int) (rts E A) = r := ⟨_, rfl⟩
          have Hr := Lib.hid hr
          by_cases hr0 : 0 ≤ r
          · have hrn : ¬ r < 0 := by omega
            have Hok : Hid ((decide (0 ≤ idx (v : Int) (rts E A)) || turnsB A L v) = true) := Lib.hid (by rw [hr, decide_eq_true hr0]; rfl)
            clear hr
            go_wp2_with ((go_at_call 36; apply Calls.mono; (with_reducible exact Hrt.out _ _ _ (Hg.out.trans (by (repeat (first | exact gR _ | refine gO ?_ _ | refine gA ?_ _ | refine gD ?_ | refine gN ?_ _)))) Hr.out); rintro e w' ⟨rfl, rfl⟩))
            go_roundw
            case rel => exact ⟨v + 1, by omega, by go_num, fun j hj => by
              by_cases h : j = v
              · rw [h]; exact Hok.out
              · exact Hall.out j (by omega), Hg.out.trans (by (repeat (first | exact gR _ | refine gO ?_ _ | refine gA ?_ _ | refine gD ?_ | refine gN ?_ _)))⟩
            case measure => (simp [intOf] <;> omega)
          · have hrn : r < 0 := by omega
            obtain ⟨u, hu⟩ : ∃ u, turnsB A L v = u := ⟨_, rfl⟩
            have Hu := Lib.hid hu
            have Hok : Hid ((decide (0 ≤ idx (v : Int) (rts E A)) || turnsB A L v) = u) := Lib.hid (by rw [hr, decide_eq_false hr0, hu]; rfl)
            clear hr hu
            cases u
            · obtain rfl : t = false := by rw [← Ht2.out, all_no (p := fun v : Nat => decide (0 ≤ idx v (rts E A)) || turnsB A L v) hlv Hok.out]
              go_wp2_with (first
                | ((go_at_call 36; apply Calls.mono; (with_reducible exact Hrt.out _ _ _ (Hg.out.trans (by (repeat (first | exact gR _ | refine gO ?_ _ | refine gA ?_ _ | refine gD ?_ | refine gN ?_ _)))) Hr.out); rintro e w' ⟨rfl, rfl⟩))
                | ((go_at_call 67; apply Calls.mono; (with_reducible exact Htn.out _ _ _ (Hg.out.trans (by (repeat (first | exact gR _ | refine gO ?_ _ | refine gA ?_ _ | refine gD ?_ | refine gN ?_ _)))) hlv Hu.out); rintro e w' ⟨rfl, x, rfl⟩)))
              go_ret
              exact ⟨rfl, Hg.out.trans (by (repeat (first | exact gR _ | refine gO ?_ _ | refine gA ?_ _ | refine gD ?_ | refine gN ?_ _)))⟩
            · go_wp2_with (first
                | ((go_at_call 36; apply Calls.mono; (with_reducible exact Hrt.out _ _ _ (Hg.out.trans (by (repeat (first | exact gR _ | refine gO ?_ _ | refine gA ?_ _ | refine gD ?_ | refine gN ?_ _)))) Hr.out); rintro e w' ⟨rfl, rfl⟩))
                | ((go_at_call 67; apply Calls.mono; (with_reducible exact Htn.out _ _ _ (Hg.out.trans (by (repeat (first | exact gR _ | refine gO ?_ _ | refine gA ?_ _ | refine gD ?_ | refine gN ?_ _)))) hlv Hu.out); rintro e w' ⟨rfl, x, rfl⟩)))
              go_roundw
              case rel => exact ⟨v + 1, by omega, by go_num, fun j hj => by
                by_cases h : j = v
                · rw [h]; exact Hok.out
                · exact Hall.out j (by omega), Hg.out.trans (by (repeat (first | exact gR _ | refine gO ?_ _ | refine gA ?_ _ | refine gD ?_ | refine gN ?_ _)))⟩
              case measure => (simp [intOf] <;> omega)
        · obtain rfl : v = nA := by omega
          obtain rfl : t = true := by rw [← Ht2.out]; exact all_yes Hall.out
          go_wp2
          go_ret
          exact ⟨rfl, Hg.out.trans (by (repeat (first | exact gR _ | refine gO ?_ _ | refine gA ?_ _ | refine gD ?_ | refine gN ?_ _)))⟩
end
end Go.Proofs.YtlealdicoceekaaDoor

/- Rows of ints, naturals and Bools in memory of the call's own. -/
namespace Go.Proofs.YtlealdicoceekaaDoor
open Go.RowKit

def gb (xs : List Bool) (i : Nat) : Bool := xs.getD i false
theorem gb_set (xs : List Bool) {i : Nat} (h : i < xs.length) (x : Bool) (j : Nat) : gb (xs.set i x) j = if j = i then x else gb xs j := by
  unfold gb
  rw [List.getD_eq_getElem?_getD, List.getD_eq_getElem?_getD, List.getElem?_set]
  by_cases e : i = j
  · subst e
    simp [h]
  · rw [if_neg e, if_neg (Ne.symm e)]
abbrev rI (g n : Nat) (xs : List Int) : Row := ⟨.slice (some ⟨g, 0, none⟩) n n, 3, 1, n, intVs xs⟩
theorem own_blk {w : World} {B : Nat} {rs : List Row} (h : Owns w B rs) {j g n c : Nat} {e : TypeId} {vs : List Value} (hk : rs[j]? = some ⟨.slice (some ⟨g, 0, none⟩) n c, e, 1, n, vs⟩) :
    vs.length = n ∧ B ≤ g ∧ g < w.heap.size ∧ (∀ i, w.frozen? ⟨g, i, none⟩ = false) ∧ ∀ i u, vs[i]? = some u → w.cell? ⟨g, i, none⟩ = some u := by
  obtain ⟨h1, h2⟩ := h.get hk
  rcases h2 with ⟨h2, _⟩ | ⟨g', cap, hv, h3, h4, _, _, h5, h6⟩
  · cases h2
  · have hg : g' = g := by
      simp only [Value.slice.injEq, Option.some.injEq, Addr.mk.injEq] at hv
      exact hv.1.1.symm
    subst hg
    exact ⟨by rw [h1]; simp, h3, h4, h5, h6⟩
theorem own_lt {w : World} {B : Nat} {rs : List Row} (h : Owns w B rs) {j g n c : Nat} {e : TypeId} {vs : List Value} (hk : rs[j]? = some ⟨.slice (some ⟨g, 0, none⟩) n c, e, 1, n, vs⟩) : g < w.heap.size := (own_blk h hk).2.2.1
theorem own_fr {w : World} {B : Nat} {rs : List Row} (h : Owns w B rs) {j g n c : Nat} {e : TypeId} {vs : List Value} (hk : rs[j]? = some ⟨.slice (some ⟨g, 0, none⟩) n c, e, 1, n, vs⟩) (i : Nat) : w.frozen? ⟨g, i, none⟩ = false := (own_blk h hk).2.2.2.1 i
theorem own_atI {w : World} {B : Nat} {rs : List Row} (h : Owns w B rs) {j g n : Nat} {xs : List Int} (hk : rs[j]? = some (rI g n xs)) {i : Nat} (hi : i < n) : w.cell? ⟨g, i, none⟩ = some (.int .i64 (ge xs i)) := by
  obtain ⟨h1, _, _, _, h2⟩ := own_blk h hk
  rw [intVs_length] at h1
  exact h2 i _ (intVs_get xs (by omega))
theorem own_setI {w : World} {B : Nat} {rs : List Row} (h : Owns w B rs) {j g n : Nat} {xs : List Int} (hk : rs[j]? = some (rI g n xs)) (i : Nat) (x : Int) : Owns (w.setCell ⟨g, i, none⟩ (.int .i64 x)) B (rs.set j (rI g n (xs.set i x))) := by
  have := h.set hk i (.int .i64 x)
  have e : (intVs xs).set i (.int .i64 x) = intVs (xs.set i x) := by unfold intVs; rw [List.map_set]
  rwa [e] at this
theorem ones_rep (z : Value) (n : Nat) : madeCells #[z] n = Array.replicate n z := by
  rw [← Array.toArray_toList (xs := madeCells #[z] n), toList_madeCells_one]
  simp
theorem mk_ints (n : Nat) (hn : n ≤ 100000) (W : World) : (Instr.makeSlice 26 (.int .i64 n) (.int .i64 n)).run Tryd.prog W = .ok (.slice (some ⟨W.heap.size, 0, none⟩) n n) (W.alloc (.cells (Array.replicate n (.int .i64 0)) 3)) := by
  obtain ⟨i0, hi, hz0, hz1, hz2⟩ := info_parts Tryd.infoInt
  have h := run_make (P := Tryd.prog) W 26 3 i0 (.int .i64 0) Tryd.underlying26 hi hz0 .i64 .i64 (n : Int) (n : Int) (by omega) (by omega) (by rw [hz2]; omega) (by omega)
  rw [hz1, show (Value.int .i64 0).cells = #[.int .i64 0] from rfl, Int.toNat_natCast, Nat.mul_one, ones_rep] at h
  exact h
/-- A new row of zeros. -/
theorem own_newI {w : World} {B : Nat} {rs : List Row} (h : Owns w B rs) (hB : B ≤ w.heap.size) (n g : Nat) (hn : n ≤ 100000) (hg : g = w.heap.size) :
    Owns (w.alloc (.cells (Array.replicate n (.int .i64 0)) 3)) B (rI g n (List.replicate n 0) :: rs) := by
  have h1 := h.made hB (Array.replicate n (.int .i64 0)) 3 1 n g (by simp) (by simp only [maxLen]; omega) hg
  rw [Array.toList_replicate] at h1
  have e : intVs (List.replicate n 0) = List.replicate n (.int .i64 0) := by simp [intVs]
  unfold rI
  rw [e]
  exact h1
theorem Ints.newsO {w : World} {q : Option Addr} {xs : List Int} (h : Ints w q xs) : ∀ b, q = some b → ∀ j u, (intVs xs)[j]? = some u → w.cell? (b.add j) = some u := by
  cases q with
  | none => intro b h; cases h
  | some ad => exact h.news
/-- A row that came in as a value: nil, or in a block of its own. -/
abbrev lR (v : Value) (n : Nat) (xs : List Int) : Row := ⟨v, 3, 1, n, intVs xs⟩
end Go.Proofs.YtlealdicoceekaaDoor
