/- The genus when an edge is deleted. -/
import Derived.Test.YtdacnkjmimhcaaaDoorDel
set_option linter.unusedSimpArgs false
set_option linter.unusedVariables false
namespace Go.Proofs.YtdacnkjmimhcaaaDoor

theorem cntP_mono {p q : Nat → Prop} : ∀ {n : Nat}, (∀ v, v < n → p v → q v) → cntP p n ≤ cntP q n
  | 0, _ => Nat.le_refl _
  | n + 1, h => by
    have ih := cntP_mono (p := p) (q := q) (n := n) (fun v hv => h v (by omega))
    simp only [cntP]
    by_cases hp : p n
    · rw [if_pos hp, if_pos (h n (by omega) hp)]; omega
    · rw [if_neg hp]; split <;> omega
theorem cntP_one {p q : Nat → Prop} : ∀ {n : Nat}, (∀ v w, v < n → w < n → p v → ¬ q v → p w → ¬ q w → v = w) → cntP p n ≤ cntP q n + 1
  | 0, _ => by simp [cntP]
  | n + 1, h => by
    simp only [cntP]
    by_cases hx : p n ∧ ¬ q n
    · have := cntP_mono (p := p) (q := q) (n := n) (fun v hv hpv => Classical.byContradiction fun hq => by
        have := h v n (by omega) (by omega) hpv hq hx.1 hx.2
        omega)
      rw [if_pos hx.1, if_neg hx.2]
      omega
    · have ih := cntP_one (p := p) (q := q) (n := n) (fun v w hv hw => h v w (by omega) (by omega))
      by_cases hp : p n
      · have hq : q n := Classical.byContradiction fun hq => hx ⟨hp, hq⟩
        rw [if_pos hp, if_pos hq]; omega
      · rw [if_neg hp]; split <;> omega
/-- One more. -/
theorem cntP_add {p : Nat → Prop} {x : Nat} {P : Prop} [Decidable P] {n : Nat} (hp : ¬ p x) (hx : x < n) : cntP (fun u => p u ∨ (u = x ∧ P)) n = cntP p n + if P then 1 else 0 := by
  by_cases h : P
  · rw [if_pos h]
    exact cntP_drop (x := x) (Or.inr ⟨rfl, h⟩) hp hx (fun v _ hne => ⟨fun h => h.resolve_right (fun h => hne h.1), Or.inl⟩)
  · rw [if_neg h]
    exact cntP_congr fun v _ => ⟨fun h2 => h2.resolve_right (fun h3 => h h3.2), Or.inl⟩

section
variable {E : List (Int × Int)} {e : Nat}
theorem nbr_del (he : e < E.length) {u v : Int} (h : nbrJ E E.length u v) :
    nbrJ (E.eraseIdx e) (E.eraseIdx e).length u v ∨ ((pr E e).1 = u ∧ (pr E e).2 = v) ∨ ((pr E e).2 = u ∧ (pr E e).1 = v) := by
  obtain ⟨i, hi, hh⟩ := h
  by_cases hie : i = e
  · subst hie; exact Or.inr hh
  · left
    have hl : (E.eraseIdx e).length = E.length - 1 := by rw [List.length_eraseIdx, if_pos he]
    refine ⟨if i < e then i else i - 1, by rw [hl]; split <;> omega, ?_⟩
    have : pr (E.eraseIdx e) (if i < e then i else i - 1) = pr E i := by
      rw [pr_erase he (by split <;> omega)]
      congr 1
      by_cases hie2 : i < e
      · rw [if_pos hie2, if_pos hie2]
      · rw [if_neg hie2, if_neg (by omega)]; omega
    rw [this]
    exact hh
theorem Cn.del (he : e < E.length) {u v : Int} (h : Cn E E.length u v) :
    Cn (E.eraseIdx e) (E.eraseIdx e).length u v ∨ (Cn (E.eraseIdx e) (E.eraseIdx e).length u (pr E e).1 ∧ Cn (E.eraseIdx e) (E.eraseIdx e).length (pr E e).2 v) ∨
      (Cn (E.eraseIdx e) (E.eraseIdx e).length u (pr E e).2 ∧ Cn (E.eraseIdx e) (E.eraseIdx e).length (pr E e).1 v) := by
  induction h with
  | refl => exact Or.inl (Cn.refl _)
  | step _ hn ih =>
    rcases nbr_del he hn with hn' | ⟨rfl, rfl⟩ | ⟨rfl, rfl⟩
    · rcases ih with h | ⟨h, h2⟩ | ⟨h, h2⟩
      · exact Or.inl (h.step hn')
      · exact Or.inr (Or.inl ⟨h, h2.step hn'⟩)
      · exact Or.inr (Or.inr ⟨h, h2.step hn'⟩)
    · rcases ih with h | ⟨h, _⟩ | ⟨h, _⟩
      · exact Or.inr (Or.inl ⟨h, Cn.refl _⟩)
      · exact Or.inr (Or.inl ⟨h, Cn.refl _⟩)
      · exact Or.inl h
    · rcases ih with h | ⟨h, _⟩ | ⟨h, _⟩
      · exact Or.inr (Or.inr ⟨h, Cn.refl _⟩)
      · exact Or.inl h
      · exact Or.inr (Or.inr ⟨h, Cn.refl _⟩)
theorem lead_eq {E' : List (Int × Int)} {j : Nat} {v w : Nat} (hv : isL E' j v) (hw : isL E' j w) (h : Cn E' j v w) : v = w := by
  rcases Nat.lt_trichotomy v w with hl | hl | hl
  · exact absurd h (hw v (by omega) (by omega))
  · exact hl
  · exact absurd h.symm (hv w (by omega) (by omega))
theorem not_lead {E' : List (Int × Int)} {j : Nat} {v : Nat} (h : ¬ isL E' j v) : ∃ u : Int, 0 ≤ u ∧ u < v ∧ Cn E' j u v := by
  unfold isL at h
  apply Classical.byContradiction
  intro hn
  exact h fun u h0 h1 hc => hn ⟨u, h0, h1, hc⟩
/-- At most one component more. -/
theorem comp_del (he : e < E.length) (N : Nat) : cntL (E.eraseIdx e) N ≤ cntL E N + 1 := by
  unfold cntL
  refine cntP_one fun v w _ _ pv qv pw qw => ?_
  obtain ⟨u, u0, u1, hu⟩ := not_lead qv
  obtain ⟨u', u0', u1', hu'⟩ := not_lead qw
  rcases Cn.del he hu with h | ⟨h1, h2⟩ | ⟨h1, h2⟩
  · exact absurd h (pv u u0 u1)
  · rcases Cn.del he hu' with h | ⟨h3, h4⟩ | ⟨h3, h4⟩
    · exact absurd h (pw u' u0' u1')
    · exact lead_eq pv pw (h2.symm.trans h4)
    · exfalso
      have k1 : ¬ u < w := fun hl => pw u u0 hl (h1.trans h4)
      have k2 : ¬ u' < v := fun hl => pv u' u0' hl (h3.trans h2)
      omega
  · rcases Cn.del he hu' with h | ⟨h3, h4⟩ | ⟨h3, h4⟩
    · exact absurd h (pw u' u0' u1')
    · exfalso
      have k1 : ¬ u < w := fun hl => pw u u0 hl (h1.trans h4)
      have k2 : ¬ u' < v := fun hl => pv u' u0' hl (h3.trans h2)
      omega
    · exact lead_eq pv pw (h2.symm.trans h4)
/-- No component more, where the ends are still connected. -/
theorem comp_keep (he : e < E.length) (N : Nat) (h : Cn (E.eraseIdx e) (E.eraseIdx e).length (pr E e).2 (pr E e).1) : cntL (E.eraseIdx e) N ≤ cntL E N := by
  unfold cntL
  refine cntP_mono fun v _ pv u u0 u1 hu => ?_
  rcases Cn.del he hu with h0 | ⟨h1, h2⟩ | ⟨h1, h2⟩
  · exact pv u u0 u1 h0
  · exact pv u u0 u1 ((h1.trans h.symm).trans h2)
  · exact pv u u0 u1 ((h1.trans h).trans h2)
end

section
variable {N : Int} {E : List (Int × Int)} {A : List (List Int)} {e : Nat}
theorem oth_a (e : Int) : oth (2 * e) = 2 * e + 1 := by unfold oth; rw [if_pos (by omega)]
theorem oth_b (e : Int) : oth (2 * e + 1) = 2 * e := by unfold oth; rw [if_neg (by omega)]; omega
theorem tail_a (E : List (Int × Int)) (e : Nat) : tailE E (2 * e) = (pr E e).1 := by
  unfold tailE
  rw [if_pos (by omega), show (2 * (e : Int) / 2).toNat = e by omega]
theorem tail_b (E : List (Int × Int)) (e : Nat) : tailE E (2 * e + 1) = (pr E e).2 := by
  unfold tailE
  rw [if_neg (by omega), show ((2 * (e : Int) + 1) / 2).toNat = e by omega]
theorem nx_a (A : List (List Int)) (e : Int) : nxF A (2 * e) = sucF A (2 * e + 1) := by unfold nxF; rw [oth_a]
theorem nx_b (A : List (List Int)) (e : Int) : nxF A (2 * e + 1) = sucF A (2 * e) := by unfold nxF; rw [oth_b]

/-- Along a face that does not use the edge e, its vertices stay connected. -/
theorem face_cn (hV : vRot N E A) (he : e < E.length) : ∀ {t : List Int} {x z : Int}, (∀ y ∈ x :: t, 0 ≤ y ∧ y < 2 * E.length ∧ y / 2 ≠ e) → Ch (nxF A) x t z → Cn (E.eraseIdx e) (E.eraseIdx e).length (tailE E x) (tailE E z) := by
  have hlen : (E.eraseIdx e).length = E.length - 1 := by rw [List.length_eraseIdx, if_pos he]
  have one : ∀ y : Int, 0 ≤ y → y < 2 * E.length → y / 2 ≠ e → Cn (E.eraseIdx e) (E.eraseIdx e).length (tailE E y) (tailE E (nxF A y)) := fun y h0 h1 h2 => by
    have hs := sh_in he h0 h1 h2
    have hn := nbr_dart (E := E.eraseIdx e) hs.1 (by rw [hlen]; exact hs.2)
    have ho := oth_in (d := y) (M := E.length) h0 h1
    rw [oth_sh, tailE_sh he h0 h1 h2, tailE_sh he ho.1 ho.2 (by rw [oth_half]; exact h2)] at hn
    have : tailE E (nxF A y) = tailE E (oth y) := suc_tail hV ho.1 ho.2
    rw [this]
    exact (Cn.refl _).step hn
  intro t
  induction t with
  | nil =>
    intro x z hx hc
    have h := hx x (by simp)
    have hc' : nxF A x = z := hc
    rw [← hc']
    exact one x h.1 h.2.1 h.2.2
  | cons y t ih =>
    intro x z hx hc
    obtain ⟨h1, h2⟩ := hc
    have h := hx x (by simp)
    have := one x h.1 h.2.1 h.2.2
    rw [h1] at this
    exact this.trans (ih (fun y hy => hx y (List.mem_cons_of_mem _ hy)) h2)

noncomputable def isoN (A : List (List Int)) : Nat := cntP (fun u => (rowOf A u).length = 0) A.length
/-- The vertices without an edge. -/
theorem iso_del (hV : vRot N E A) (he : e < E.length) : isoN (A.map (delRow e)) = isoN A + ((if nxF A (2 * e) = 2 * e + 1 then 1 else 0) + (if nxF A (2 * e + 1) = 2 * e then 1 else 0)) := by
  obtain ⟨va, hva, ha, ta⟩ := row_of hV (d := 2 * (e : Int)) (by omega) (by omega)
  obtain ⟨vb, hvb, hb, tb⟩ := row_of hV (d := 2 * (e : Int) + 1) (by omega) (by omega)
  have hne : va ≠ vb := fun h => ends_ne hV he (by rw [ta, tb, h])
  unfold isoN
  rw [List.length_map]
  have key : ∀ u, u < A.length → ((rowOf (A.map (delRow e)) u).length = 0 ↔ (((rowOf A u).length = 0 ∨ (u = vb ∧ nxF A (2 * e) = 2 * e + 1)) ∨ (u = va ∧ nxF A (2 * e + 1) = 2 * e))) := by
    intro u hu
    rw [rowOf_map (delRow e) rfl, List.length_eq_zero_iff, List.length_eq_zero_iff]
    -- a row that holds the dart c alone
    have alone : ∀ c c' : Int, ∀ vc : Nat, c / 2 = e → c ∈ rowOf A vc → vc < A.length → c' ∉ rowOf A vc → (∀ d : Int, d / 2 = e → d = c ∨ d = c') → (delRow e (rowOf A vc) = [] ↔ sucF A c = c) := by
      intro c c' vc hce hc hvc hc' hcc
      have hcy := row_cyc hV hvc (List.ne_nil_of_mem hc)
      have hnd := row_nodup hV hvc
      constructor
      · intro h0
        have hs := hcy.img hc
        have : sucF A c / 2 = e := Classical.byContradiction fun hn => by
          have := mem_delRow.2 ⟨_, hs, hn, rfl⟩
          rw [h0] at this
          cases this
        rcases hcc _ this with h | h
        · exact h
        · rw [h] at hs; exact absurd hs hc'
      · intro hs
        obtain ⟨p, q, hl, hcyc⟩ := hcy.start hc
        have hpq : q ++ p = [] := by
          cases hqp : q ++ p with
          | nil => rfl
          | cons y t =>
            rw [hqp] at hcyc
            obtain ⟨e1, _⟩ : sucF A c = y ∧ Ch (sucF A) y t c := hcyc
            rw [hl, List.nodup_append, List.nodup_cons] at hnd
            have hy : y ∈ q ++ p := by rw [hqp]; simp
            rw [← e1, hs] at hy
            rcases List.mem_append.1 hy with h | h
            · exact absurd h hnd.2.1.1
            · exact absurd rfl (hnd.2.2 c h c (by simp))
        rw [List.append_eq_nil_iff] at hpq
        rw [hl, hpq.1, hpq.2, List.nil_append, delRow_cons, delOne_out hce]
        rfl
    have hab : ∀ d : Int, d / 2 = e → d = 2 * e ∨ d = 2 * e + 1 := fun d hd => by omega
    have hab' : ∀ d : Int, d / 2 = e → d = 2 * e + 1 ∨ d = 2 * e := fun d hd => by omega
    have hba : (2 * (e : Int) + 1) ∉ rowOf A va := fun h => by
      have := (mem_row hV hva h).2.2
      rw [tb] at this
      exact hne (by omega)
    have hab2 : (2 * (e : Int)) ∉ rowOf A vb := fun h => by
      have := (mem_row hV hvb h).2.2
      rw [ta] at this
      exact hne (by omega)
    have hA := alone (2 * e) (2 * e + 1) va (by omega) ha hva hba hab
    have hB := alone (2 * e + 1) (2 * e) vb (by omega) hb hvb hab2 hab'
    rw [nx_a, nx_b]
    by_cases hua : u = va
    · subst hua
      rw [hA]
      constructor
      · intro h; exact Or.inr ⟨rfl, h⟩
      · rintro ((h | ⟨h, _⟩) | ⟨_, h⟩)
        · rw [h] at ha; cases ha
        · exact absurd h hne
        · exact h
    · by_cases hub : u = vb
      · subst hub
        rw [hB]
        constructor
        · intro h; exact Or.inl (Or.inr ⟨rfl, h⟩)
        · rintro ((h | ⟨_, h⟩) | ⟨h, _⟩)
          · rw [h] at hb; cases hb
          · exact h
          · exact absurd h hua
      · constructor
        · intro h
          left; left
          cases hr : rowOf A u with
          | nil => rfl
          | cons x l =>
            exfalso
            have hx : x ∈ rowOf A u := by rw [hr]; simp
            have hxe : x / 2 = e := Classical.byContradiction fun hn => by
              have := mem_delRow.2 ⟨x, hx, hn, rfl⟩
              rw [h] at this
              cases this
            have ht := (mem_row hV hu hx).2.2
            rcases hab x hxe with rfl | rfl
            · rw [ta] at ht; exact hua (by omega)
            · rw [tb] at ht; exact hub (by omega)
        · rintro ((h | ⟨h, _⟩) | ⟨h, _⟩)
          · rw [h]; rfl
          · exact absurd h hub
          · exact absurd h hua
  have hpa : ¬ (rowOf A va).length = 0 := fun h => by rw [List.length_eq_zero_iff] at h; rw [h] at ha; cases ha
  have hpb : ¬ (rowOf A vb).length = 0 := fun h => by rw [List.length_eq_zero_iff] at h; rw [h] at hb; cases hb
  rw [cntP_congr (p := fun u => (rowOf (A.map (delRow e)) u).length = 0) key,
    cntP_add (p := fun u => (rowOf A u).length = 0 ∨ (u = vb ∧ nxF A (2 * e) = 2 * e + 1)) (x := va) (P := nxF A (2 * e + 1) = 2 * e) (fun h => h.elim hpa (fun h => hne h.1)) hva,
    cntP_add (p := fun u => (rowOf A u).length = 0) (x := vb) (P := nxF A (2 * e) = 2 * e + 1) hpb hvb, Nat.add_assoc]

/-- The new faces out of cycles that step over the darts of e. -/
theorem faces_new (hV : vRot N E A) (he : e < E.length) {L' : List (List Int)} (h : Dec (fun y => (0 ≤ y ∧ y < 2 * (E.length : Int)) ∧ y ≠ 2 * e ∧ y ≠ 2 * e + 1) (fun y => skF A (2 * e) (2 * e + 1) (nxF A y)) L') :
    (facesF (A.map (delRow e)) (2 * (E.eraseIdx e).length)).length = L'.length := by
  have hlen : (E.eraseIdx e).length = E.length - 1 := by rw [List.length_eraseIdx, if_pos he]
  have hV' := del_valid hV he
  have h1 := fac_dec hV'
  have h2 := h.map (D' := fun x => 0 ≤ x ∧ x < 2 * ((E.eraseIdx e).length : Int)) (h := nxF (A.map (delRow e))) (r := sh e) (fun y hy => by
      have ho := oth_in (d := y) (M := E.length) hy.1.1 hy.1.2
      show sucF _ (oth (sh e y)) = _
      rw [oth_sh]
      exact suc_del hV he ho.1 ho.2 (by rw [oth_half]; have := hy.2; omega))
    (fun x y hx hy hxy => sh_inj (by have := hx.2; omega) (by have := hy.2; omega) hxy)
    (fun x => by
      constructor
      · intro hx
        rw [hlen] at hx
        refine ⟨if x < 2 * e then x else x + 2, ?_, ?_⟩
        · split <;> omega
        · unfold sh
          by_cases hx2 : x < 2 * e
          · rw [if_pos hx2, if_pos hx2]
          · rw [if_neg hx2, if_neg (by omega)]; omega
      · rintro ⟨y, hy, rfl⟩
        have := sh_in he hy.1.1 hy.1.2 (by have := hy.2; omega)
        rw [hlen]
        exact this)
  rw [h1.len h2, List.length_map]

theorem del_step (hV : vRot N E A) (he : e < E.length) :
    ((facesF (A.map (delRow e)) (2 * (E.eraseIdx e).length)).length + 1 = (facesF A (2 * E.length)).length ∧ isoN (A.map (delRow e)) = isoN A ∧ cntL (E.eraseIdx e) A.length ≤ cntL E A.length) ∨
    ((facesF (A.map (delRow e)) (2 * (E.eraseIdx e).length)).length + isoN (A.map (delRow e)) = (facesF A (2 * E.length)).length + isoN A + 1 ∧ cntL (E.eraseIdx e) A.length ≤ cntL E A.length + 1) := by
  have hD := fac_dec hV
  have hsk : ∀ y : Int, y ≠ 2 * (e : Int) → y ≠ 2 * (e : Int) + 1 → skF A (2 * e) (2 * e + 1) y = y := fun y h1 h2 => by unfold skF; rw [if_neg h1, if_neg h2]
  have hka : skF A (2 * e) (2 * e + 1) (2 * e) = nxF A (2 * e + 1) := by unfold skF; rw [if_pos rfl, nx_b]
  have hkb : skF A (2 * e) (2 * e + 1) (2 * e + 1) = nxF A (2 * e) := by unfold skF; rw [if_neg (by omega), if_pos rfl, nx_a]
  have hiso := iso_del hV he
  obtain ⟨t, M, h1, hM⟩ := hD.at (x := 2 * (e : Int)) ⟨by omega, by omega⟩
  by_cases hb : (2 * (e : Int) + 1) ∈ t
  · right
    obtain ⟨L', h2, h3⟩ := h1.del_one (g := fun y => skF A (2 * e) (2 * e + 1) (nxF A y)) hb hsk hka hkb (fun _ _ _ _ => rfl)
    have h4 := faces_new hV he h2
    refine ⟨?_, comp_del he _⟩
    rw [h4, hiso]
    omega
  · left
    have hbt : (2 * (e : Int) + 1) ∉ (2 * (e : Int)) :: t := fun h => by
      rcases List.mem_cons.1 h with h | h
      · omega
      · exact hb h
    obtain ⟨u, M2, h2, hM2⟩ := h1.tail.at (x := 2 * (e : Int) + 1) ⟨⟨by omega, by omega⟩, hbt⟩
    have hn := h1.nd
    rw [List.flatten_cons, List.nodup_append] at hn
    have h3 : Dec (fun x => 0 ≤ x ∧ x < 2 * (E.length : Int)) (nxF A) (((2 * (e : Int)) :: t) :: ((2 * (e : Int) + 1) :: u) :: M2) := by
      refine (h2.cons (l := (2 * (e : Int)) :: t) (h1.cyc _ (by simp)) hn.1 (fun x hx h => h.2 hx)).congr fun x => ⟨fun h => ?_, fun h => ?_⟩
      · rcases h with h | h
        · exact h.1
        · exact (h1.mem x).1 (by rw [List.flatten_cons]; exact List.mem_append_left _ h)
      · by_cases hx : x ∈ (2 * (e : Int)) :: t
        · exact Or.inr hx
        · exact Or.inl ⟨h, hx⟩
    have hfa : nxF A (2 * e) ≠ 2 * e := fun h => by
      rw [nx_a] at h
      have := suc_tail hV (d := 2 * (e : Int) + 1) (by omega) (by omega)
      rw [h] at this
      exact ends_ne hV he this
    have hfb : nxF A (2 * e + 1) ≠ 2 * e + 1 := fun h => by
      rw [nx_b] at h
      have := suc_tail hV (d := 2 * (e : Int)) (by omega) (by omega)
      rw [h] at this
      exact ends_ne hV he this.symm
    obtain ⟨L', h4, h5⟩ := h3.del_two (g := fun y => skF A (2 * e) (2 * e + 1) (nxF A y)) hsk hka hkb hfa hfb (fun _ _ _ _ => rfl)
    have h6 := faces_new hV he h4
    have hcy : Cyc (nxF A) ((2 * (e : Int)) :: t) := h1.cyc _ (by simp)
    have hna : nxF A (2 * e) ≠ 2 * e + 1 := fun h => hbt (h ▸ hcy.img (by simp))
    have hnb : nxF A (2 * e + 1) ≠ 2 * e := fun h => by
      obtain ⟨q, hq, hqe⟩ := hcy.pre (z := 2 * (e : Int)) (by simp)
      have hqD := (h1.mem q).1 (by rw [List.flatten_cons]; exact List.mem_append_left _ hq)
      have := fac_inj hV q (2 * e + 1) hqD.1 (by push_cast; exact hqD.2) (by omega) (by push_cast; omega) (hqe.trans h.symm)
      exact hbt (this ▸ hq)
    refine ⟨by omega, by rw [hiso, if_neg hna, if_neg hnb]; omega, comp_keep he _ ?_⟩
    cases t with
    | nil => exact absurd hcy hfa
    | cons x t =>
      obtain ⟨c1, c2⟩ : nxF A (2 * e) = x ∧ Ch (nxF A) x t (2 * e) := hcy
      have hin : ∀ y ∈ x :: t, 0 ≤ y ∧ y < 2 * (E.length : Int) ∧ y / 2 ≠ e := fun y hy => by
        have hyD := (h1.mem y).1 (by rw [List.flatten_cons]; exact List.mem_append_left _ (List.mem_cons_of_mem _ hy))
        have hy1 : y ≠ 2 * e + 1 := fun h => hb (h ▸ hy)
        have hy2 : y ≠ 2 * e := fun h => by
          rw [List.nodup_cons] at hn
          exact hn.1.1 (h ▸ hy)
        omega
      have := face_cn hV he hin c2
      rw [tail_a] at this
      have ht : tailE E x = (pr E e).2 := by
        rw [← c1, nx_a, suc_tail hV (by omega) (by omega), tail_b]
      rw [ht] at this
      exact this
/-- What is halved in the genus. -/
noncomputable def genX (N : Int) (E : List (Int × Int)) (A : List (List Int)) : Int := N - E.length + (((facesF A (2 * E.length)).length : Int) + isoN A)
theorem genus_eq (hV : vRot N E A) : genusF N E A = (cntL E A.length : Int) - (genX N E A).tdiv 2 := by
  unfold genusF genX isoN facesO
  rw [if_pos (vRotB_iff.2 hV), if_pos (vRotB_iff.2 hV)]
theorem even_half {x : Int} (h : x % 2 = 0) : (x + 2).tdiv 2 = x.tdiv 2 + 1 := by
  obtain ⟨k, rfl⟩ : ∃ k, x = 2 * k := ⟨x / 2, by omega⟩
  rw [show 2 * k + 2 = 2 * (k + 1) by omega, Int.mul_tdiv_cancel_left _ (by decide), Int.mul_tdiv_cancel_left _ (by decide)]
theorem gen_step (hV : vRot N E A) (he : e < E.length) (hx : genX N (E.eraseIdx e) (A.map (delRow e)) % 2 = 0) :
    genX N E A % 2 = 0 ∧ genusF N (E.eraseIdx e) (A.map (delRow e)) ≤ genusF N E A := by
  have hlen : (E.eraseIdx e).length = E.length - 1 := by rw [List.length_eraseIdx, if_pos he]
  have hV' := del_valid hV he
  rw [genus_eq hV, genus_eq hV', List.length_map]
  have e1 : genX N E A = N - E.length + (((facesF A (2 * E.length)).length : Int) + isoN A) := rfl
  have e2 : genX N (E.eraseIdx e) (A.map (delRow e)) = N - (E.eraseIdx e).length + (((facesF (A.map (delRow e)) (2 * (E.eraseIdx e).length)).length : Int) + isoN (A.map (delRow e))) := rfl
  rcases del_step hV he with ⟨h1, h2, h3⟩ | ⟨h1, h2⟩
  · have : genX N (E.eraseIdx e) (A.map (delRow e)) = genX N E A := by rw [e1, e2]; omega
    rw [this] at hx ⊢
    exact ⟨hx, by omega⟩
  · have h : genX N (E.eraseIdx e) (A.map (delRow e)) = genX N E A + 2 := by rw [e1, e2]; omega
    have h4 : genX N E A % 2 = 0 := by rw [h] at hx; omega
    rw [h, even_half h4]
    exact ⟨h4, by omega⟩
theorem gen_main : ∀ (n : Nat) {N : Int} {E : List (Int × Int)} {A : List (List Int)}, E.length = n → vRot N E A → genX N E A % 2 = 0 ∧ 0 ≤ genusF N E A
  | 0, N, E, A, hl, hV => by
    have hE : E = [] := List.length_eq_zero_iff.1 hl
    subst hE
    have hrow : ∀ u, u < A.length → rowOf A u = [] := fun u hu => by
      cases hr : rowOf A u with
      | nil => rfl
      | cons x l =>
        have := mem_row hV hu (d := x) (by rw [hr]; simp)
        simp at this
        omega
    have hI : isoN A = A.length := cntP_all fun u hu => by rw [hrow u hu]; rfl
    have hC : cntL [] A.length = A.length := cntP_all fun v _ u h0 h1 hc => by
      have := Cn_zero hc
      omega
    have hF : facesF A (2 * ([] : List (Int × Int)).length) = [] := rfl
    have hN := hV.al
    have hX : genX N [] A = 2 * N := by unfold genX; rw [hF, hI]; simp; omega
    rw [genus_eq hV, hX, hC, Int.mul_tdiv_cancel_left _ (by decide)]
    omega
  | n + 1, N, E, A, hl, hV => by
    have he : 0 < E.length := by omega
    have ih := gen_main n (N := N) (E := E.eraseIdx 0) (A := A.map (delRow (0 : Nat))) (by rw [List.length_eraseIdx, if_pos he]; omega) (del_valid hV he)
    have h := gen_step hV he ih.1
    exact ⟨h.1, Int.le_trans ih.2 h.2⟩
theorem gen_pos (hV : vRot N E A) : 0 ≤ genusF N E A := (gen_main _ rfl hV).2
theorem gen_del (hV : vRot N E A) (he : e < E.length) : genusF N (E.eraseIdx e) (A.map (delRow e)) ≤ genusF N E A := (gen_step hV he (gen_main _ rfl (del_valid hV he)).1).2
end
end Go.Proofs.YtdacnkjmimhcaaaDoor
