/- A system without an edge: it is valid, and its genus is not greater. -/
import Derived.Test.YtdacnkjmimhcaaaDoorRotS
import Derived.Test.YtdacnkjmimhcaaaDoorFac
set_option linter.unusedSimpArgs false
set_option linter.unusedVariables false
namespace Go.Proofs.YtdacnkjmimhcaaaDoor

/-- A row without the darts of edge e. -/
def delOne (e d : Int) : List Int := if e < d / 2 then [d - 2] else if d / 2 < e then [d] else []
def delRow (e : Int) (l : List Int) : List Int := l.flatMap (delOne e)
/-- The new number of a dart. -/
def sh (e d : Int) : Int := if d < 2 * e then d else d - 2
theorem delOne_in {e d : Int} (h : d / 2 ≠ e) : delOne e d = [sh e d] := by
  unfold delOne sh
  by_cases h1 : e < d / 2
  · rw [if_pos h1, if_neg (by omega)]
  · rw [if_neg h1, if_pos (by omega), if_pos (by omega)]
theorem delOne_out {e d : Int} (h : d / 2 = e) : delOne e d = [] := by
  unfold delOne
  rw [if_neg (by omega), if_neg (by omega)]
theorem delRow_app (e : Int) (a b : List Int) : delRow e (a ++ b) = delRow e a ++ delRow e b := List.flatMap_append
theorem delRow_cons (e x : Int) (l : List Int) : delRow e (x :: l) = delOne e x ++ delRow e l := rfl
theorem delRow_all {e : Int} : ∀ {l : List Int}, (∀ d ∈ l, d / 2 ≠ e) → delRow e l = l.map (sh e)
  | [], _ => rfl
  | x :: l, h => by
    rw [delRow_cons, delOne_in (h x (by simp)), delRow_all (fun d hd => h d (List.mem_cons_of_mem _ hd))]
    rfl
theorem mem_delRow {e y : Int} {l : List Int} : y ∈ delRow e l ↔ ∃ d ∈ l, d / 2 ≠ e ∧ sh e d = y := by
  unfold delRow
  rw [List.mem_flatMap]
  constructor
  · rintro ⟨d, hd, hy⟩
    by_cases h : d / 2 = e
    · rw [delOne_out h] at hy; cases hy
    · rw [delOne_in h, List.mem_singleton] at hy
      exact ⟨d, hd, h, hy.symm⟩
  · rintro ⟨d, hd, h, rfl⟩
    exact ⟨d, hd, by rw [delOne_in h]; simp⟩
theorem sh_inj {e x y : Int} (hx : x / 2 ≠ e) (hy : y / 2 ≠ e) (h : sh e x = sh e y) : x = y := by
  unfold sh at h
  split at h <;> split at h <;> omega
theorem delRow_nodup {e : Int} : ∀ {l : List Int}, l.Nodup → (delRow e l).Nodup
  | [], _ => List.nodup_nil
  | x :: l, h => by
    rw [List.nodup_cons] at h
    rw [delRow_cons]
    by_cases hx : x / 2 = e
    · rw [delOne_out hx]; exact delRow_nodup h.2
    · rw [delOne_in hx, List.singleton_append, List.nodup_cons]
      refine ⟨fun hm => ?_, delRow_nodup h.2⟩
      obtain ⟨d, hd, h1, h2⟩ := mem_delRow.1 hm
      exact h.1 (sh_inj h1 hx h2 ▸ hd)
theorem delRow_perm {e : Int} {l m : List Int} (h : l.Perm m) : (delRow e l).Perm (delRow e m) := h.flatMap_right _

/-- The darts of the first n lists. -/
def dts (A : List (List Int)) (n : Nat) : List Int := (pre A n).map (·.2)
theorem dts_succ (A : List (List Int)) (n : Nat) : dts A (n + 1) = dts A n ++ rowOf A n := by
  unfold dts
  rw [pre_succ, List.map_append, List.map_map]
  congr 1
  exact List.map_id _
theorem rowOf_map (g : List Int → List Int) (hg : g [] = []) (A : List (List Int)) (v : Nat) : rowOf (A.map g) v = g (rowOf A v) := by
  unfold rowOf
  by_cases h : v < A.length
  · simp [List.getD_eq_getElem?_getD, h]
  · simp [List.getD_eq_getElem?_getD, h, hg]
theorem dts_del (e : Int) (A : List (List Int)) : ∀ n, dts (A.map (delRow e)) n = delRow e (dts A n)
  | 0 => rfl
  | n + 1 => by rw [dts_succ, dts_succ, delRow_app, dts_del e A n, rowOf_map _ rfl]

theorem pr_erase {E : List (Int × Int)} {e i : Nat} (he : e < E.length) (hi : i + 1 < E.length) : pr (E.eraseIdx e) i = pr E (if i < e then i else i + 1) := by
  have hl : i < (E.eraseIdx e).length := by rw [List.length_eraseIdx, if_pos he]; omega
  rw [pr_eq _ hl, List.getElem_eraseIdx]
  by_cases h : i < e
  · rw [dif_pos h, if_pos h, pr_eq]
  · rw [dif_neg h, if_neg h, pr_eq]
theorem tailE_sh {E : List (Int × Int)} {e : Nat} (he : e < E.length) {d : Int} (h0 : 0 ≤ d) (h1 : d < 2 * E.length) (hd : d / 2 ≠ e) : tailE (E.eraseIdx e) (sh e d) = tailE E d := by
  unfold tailE sh
  by_cases h : d < 2 * e
  · rw [if_pos h, pr_erase he (by omega), if_pos (show (d / 2).toNat < e by omega)]
  · rw [if_neg h, pr_erase he (by omega), if_neg (show ¬ ((d - 2) / 2).toNat < e by omega)]
    have e1 : ((d - 2) / 2).toNat + 1 = (d / 2).toNat := by omega
    rw [e1]
    by_cases hp : d % 2 = 0
    · rw [if_pos hp, if_pos (show (d - 2) % 2 = 0 by omega)]
    · rw [if_neg hp, if_neg (show ¬ (d - 2) % 2 = 0 by omega)]
theorem sh_in {e : Nat} {n : Nat} (he : e < n) {d : Int} (h0 : 0 ≤ d) (h1 : d < 2 * n) (hd : d / 2 ≠ e) : 0 ≤ sh e d ∧ sh e d < 2 * ((n - 1 : Nat) : Int) := by
  unfold sh
  split <;> omega
theorem oth_sh {e d : Int} : oth (sh e d) = sh e (oth d) := by
  unfold oth sh
  by_cases h : d % 2 = 0
  · by_cases h2 : d < 2 * e
    · simp only [h2, h, if_true]; rw [if_pos (by omega)]
    · simp only [h2, h, if_true, if_false]; rw [if_pos (by omega), if_neg (by omega)]; omega
  · by_cases h2 : d < 2 * e
    · simp only [h2, h, if_true, if_false]; rw [if_pos (by omega)]
    · simp only [h2, h, if_false]; rw [if_neg (by omega), if_neg (by omega)]; omega
theorem oth_half (d : Int) : oth d / 2 = d / 2 := by unfold oth; split <;> omega

section
variable {N : Int} {E : List (Int × Int)} {A : List (List Int)}
theorem mem_dts {x : Int} : x ∈ dts A A.length ↔ ∃ v k, v < A.length ∧ k < (rowOf A v).length ∧ ge (rowOf A v) k = x := by
  unfold dts
  rw [List.mem_map]
  constructor
  · rintro ⟨q, hq, rfl⟩
    obtain ⟨k, h1, h2, h3⟩ := mem_pre.1 hq
    exact ⟨q.1, k, h1, h2, h3⟩
  · rintro ⟨v, k, h1, h2, h3⟩
    exact ⟨(v, x), mem_pre.2 ⟨k, h1, h2, h3⟩, rfl⟩
theorem dart_dts (hV : vRot N E A) {d : Int} (h0 : 0 ≤ d) (h1 : d < 2 * E.length) : d ∈ dts A A.length := by
  obtain ⟨v, k, hv, hk, e, _⟩ := dart_pos hV h0 h1
  exact mem_dts.2 ⟨v, k, hv, hk, e⟩
theorem del_valid (hV : vRot N E A) {e : Nat} (he : e < E.length) : vRot N (E.eraseIdx e) (A.map (delRow e)) := by
  have hlen : (E.eraseIdx e).length = E.length - 1 := by rw [List.length_eraseIdx, if_pos he]
  refine ⟨hV.n0, hV.n1, by have := hV.e1; omega, by rw [List.length_map]; exact hV.al, fun i hi => ?_, fun q hq => ?_, ?_, ?_⟩
  · rw [pr_erase he (by omega)]
    split
    · exact hV.ed _ (by omega)
    · exact hV.ed _ (by omega)
  · obtain ⟨k, h1, h2, h3⟩ := mem_pre.1 hq
    rw [List.length_map] at h1
    have hm : q.2 ∈ delRow e (rowOf A q.1) := by rw [← rowOf_map (delRow e) rfl, ← h3]; exact ge_mem h2
    obtain ⟨d, hd, hn, hs⟩ := mem_delRow.1 hm
    obtain ⟨i, hi, rfl⟩ := List.getElem_of_mem hd
    have hok := hV.dr (q.1, (rowOf A q.1)[i]) (mem_pre.2 ⟨i, h1, hi, ge_eq _ hi⟩)
    obtain ⟨o1, o2, o3⟩ := hok
    dsimp only at o1 o2 o3
    have := sh_in he o1 o2 hn
    rw [hs] at this
    refine ⟨this.1, by rw [hlen]; exact this.2, ?_⟩
    rw [← hs, tailE_sh he o1 o2 hn, o3]
  · show (dts _ _).Nodup
    rw [List.length_map, dts_del]
    exact delRow_nodup hV.nd
  · have hp1 : (2 * (e : Int)) ∈ dts A A.length := dart_dts hV (by omega) (by omega)
    have hp2 : (2 * (e : Int) + 1) ∈ dts A A.length := dart_dts hV (by omega) (by omega)
    have hnd : (dts A A.length).Nodup := hV.nd
    have hln : (dts A A.length).length = 2 * E.length := by unfold dts; rw [List.length_map]; exact hV.ln
    have hgoal : (dts (A.map (delRow e)) (A.map (delRow e)).length).length = 2 * (E.eraseIdx e).length := by
      rw [List.length_map, dts_del, hlen]
      have q1 := List.perm_cons_erase hp1
      have hp2' : (2 * (e : Int) + 1) ∈ (dts A A.length).erase (2 * (e : Int)) := (List.mem_erase_of_ne (by omega)).2 hp2
      have q2 := List.perm_cons_erase hp2'
      have q := q1.trans (q2.cons _)
      have hnd2 := (q.nodup_iff).1 hnd
      have hl2 := q.length_eq
      simp only [List.length_cons] at hl2
      rw [(delRow_perm q).length_eq, delRow_cons, delRow_cons, delOne_out (by omega), delOne_out (by omega), List.nil_append, List.nil_append, delRow_all, List.length_map]
      · omega
      · intro d hd hde
        rw [List.nodup_cons, List.nodup_cons] at hnd2
        have : d = 2 * (e : Int) ∨ d = 2 * (e : Int) + 1 := by omega
        rcases this with rfl | rfl
        · exact hnd2.1 (List.mem_cons_of_mem _ hd)
        · exact hnd2.2.1 hd
    unfold dts at hgoal
    rw [List.length_map] at hgoal
    exact hgoal

/-- A row is a cycle. -/
theorem row_cyc (hV : vRot N E A) {v : Nat} (hv : v < A.length) (h0 : rowOf A v ≠ []) : Cyc (sucF A) (rowOf A v) := Cyc.of_idx h0 fun _ hk => suc_of hV hv hk
theorem row_nodup (hV : vRot N E A) {v : Nat} (hv : v < A.length) : (rowOf A v).Nodup := by
  unfold List.Nodup
  rw [List.pairwise_iff_getElem]
  intro i j hi hj hij
  rw [← ge_eq _ hi, ← ge_eq _ hj]
  exact row_inj hV hv hij hj
theorem mem_row (hV : vRot N E A) {v : Nat} (hv : v < A.length) {d : Int} (hd : d ∈ rowOf A v) : 0 ≤ d ∧ d < 2 * E.length ∧ tailE E d = v := by
  obtain ⟨i, hi, rfl⟩ := List.getElem_of_mem hd
  exact hV.dr (v, (rowOf A v)[i]) (mem_pre.2 ⟨i, hv, hi, ge_eq _ hi⟩)
theorem row_of (hV : vRot N E A) {d : Int} (h0 : 0 ≤ d) (h1 : d < 2 * E.length) : ∃ v, v < A.length ∧ d ∈ rowOf A v ∧ tailE E d = v := by
  obtain ⟨v, k, hv, hk, e, t⟩ := dart_pos hV h0 h1
  exact ⟨v, hv, e ▸ ge_mem hk, t⟩
theorem suc_tail (hV : vRot N E A) {d : Int} (h0 : 0 ≤ d) (h1 : d < 2 * E.length) : tailE E (sucF A d) = tailE E d := by
  obtain ⟨v, hv, hd, ht⟩ := row_of hV h0 h1
  rw [ht]
  exact (mem_row hV hv ((row_cyc hV hv (List.ne_nil_of_mem hd)).img hd)).2.2
theorem ends_ne (hV : vRot N E A) {e : Nat} (he : e < E.length) : tailE E (2 * e) ≠ tailE E (2 * e + 1) := by
  have := hV.ed e he
  unfold okEdge at this
  unfold tailE
  rw [if_pos (by omega), if_neg (by omega), show (2 * (e : Int) / 2).toNat = e by omega, show ((2 * (e : Int) + 1) / 2).toNat = e by omega]
  exact this.2.2.2.2

/-- What is stepped over when the darts a and b go. -/
def skF (A : List (List Int)) (a b z : Int) : Int := if z = a then sucF A a else if z = b then sucF A b else z
theorem suc_del (hV : vRot N E A) {e : Nat} (he : e < E.length) {y : Int} (h0 : 0 ≤ y) (h1 : y < 2 * E.length) (hy : y / 2 ≠ e) :
    sucF (A.map (delRow e)) (sh e y) = sh e (skF A (2 * e) (2 * e + 1) (sucF A y)) := by
  have hV' := del_valid hV he
  obtain ⟨v, hv, hd, ht⟩ := row_of hV h0 h1
  have hcy := row_cyc hV hv (List.ne_nil_of_mem hd)
  have hnd := row_nodup hV hv
  have hrow : rowOf (A.map (delRow e)) v = delRow e (rowOf A v) := rowOf_map _ rfl A v
  have hcy' := row_cyc hV' (v := v) (by rw [List.length_map]; exact hv) (by rw [hrow]; exact List.ne_nil_of_mem (mem_delRow.2 ⟨y, hd, hy, rfl⟩))
  rw [hrow] at hcy'
  have key : ∀ c c' : Int, (c = 2 * e ∧ c' = 2 * e + 1 ∨ c = 2 * e + 1 ∧ c' = 2 * e) → c ∈ rowOf A v → sucF (A.map (delRow e)) (sh e y) = sh e (skF A (2 * e) (2 * e + 1) (sucF A y)) := by
    intro c c' hcc hc
    have hc' : c' ∉ rowOf A v := fun h => by
      have t1 := (mem_row hV hv hc).2.2
      have t2 := (mem_row hV hv h).2.2
      have := ends_ne hV he
      rcases hcc with ⟨rfl, rfl⟩ | ⟨rfl, rfl⟩
      · exact this (t1.trans t2.symm)
      · exact this (t2.trans t1.symm)
    have hskc : skF A (2 * e) (2 * e + 1) c = sucF A c := by
      unfold skF
      rcases hcc with ⟨rfl, rfl⟩ | ⟨rfl, rfl⟩
      · rw [if_pos rfl]
      · rw [if_neg (by omega), if_pos rfl]
    have hsk : ∀ z, z ≠ c → z ≠ c' → skF A (2 * e) (2 * e + 1) z = z := fun z h1 h2 => by
      unfold skF
      rcases hcc with ⟨rfl, rfl⟩ | ⟨rfl, rfl⟩
      · rw [if_neg h1, if_neg h2]
      · rw [if_neg h2, if_neg h1]
    have hce : c / 2 = e := by omega
    obtain ⟨u, w, hl, hcyc⟩ := hcy.start hc
    rw [hl] at hnd hd hc' hcy'
    rw [List.nodup_append, List.nodup_cons] at hnd
    have hin : ∀ z ∈ w ++ u, z ≠ c ∧ z ≠ c' ∧ z / 2 ≠ e := fun z hz => by
      have hzc : z ≠ c := by
        rintro rfl
        rcases List.mem_append.1 hz with h | h
        · exact hnd.2.1.1 h
        · exact hnd.2.2 _ h _ (by simp) rfl
      have hzc' : z ≠ c' := by
        rintro rfl
        refine hc' ?_
        rcases List.mem_append.1 hz with h | h
        · exact List.mem_append_right _ (List.mem_cons_of_mem _ h)
        · exact List.mem_append_left _ h
      exact ⟨hzc, hzc', by omega⟩
    have hyw : y ∈ w ++ u := by
      have hyc : y ≠ c := fun e => hy (by rw [e]; exact hce)
      simp only [List.mem_append, List.mem_cons] at hd ⊢
      rcases hd with h | h | h
      · exact Or.inr h
      · exact absurd h hyc
      · exact Or.inl h
    have hdel : delRow e (u ++ c :: w) = (u ++ w).map (sh e) := by
      rw [delRow_app, delRow_cons, delOne_out hce, List.nil_append, ← delRow_app]
      exact delRow_all (fun d hd => (hin d ((List.perm_append_comm.mem_iff).1 hd)).2.2)
    have hcs : Cyc (fun z => skF A (2 * e) (2 * e + 1) (sucF A z)) (w ++ u) := by
      cases hwu : w ++ u with
      | nil => rw [hwu] at hyw; cases hyw
      | cons z t =>
        rw [hwu] at hcyc hin
        obtain ⟨e1, e2⟩ : sucF A c = z ∧ Ch (sucF A) z t c := hcyc
        have := Ch.sk (f := sucF A) (g := fun z => skF A (2 * e) (2 * e + 1) (sucF A z)) (sk := skF A (2 * e) (2 * e + 1)) (t := t) (x := z) (z := c) (fun _ _ => rfl) (fun q hq => hsk q (hin q (List.mem_cons_of_mem _ hq)).1 (hin q (List.mem_cons_of_mem _ hq)).2.1) e2
        rw [hskc, e1] at this
        exact this
    rw [hdel] at hcy'
    exact (hcs.rot).rel hcy' y ((List.perm_append_comm.mem_iff).1 hyw)
  by_cases ha : (2 * (e : Int)) ∈ rowOf A v
  · exact key _ _ (Or.inl ⟨rfl, rfl⟩) ha
  · by_cases hb : (2 * (e : Int) + 1) ∈ rowOf A v
    · exact key _ _ (Or.inr ⟨rfl, rfl⟩) hb
    · have hall : ∀ d ∈ rowOf A v, d / 2 ≠ e := fun d hd h => by
        have : d = 2 * (e : Int) ∨ d = 2 * (e : Int) + 1 := by omega
        rcases this with rfl | rfl
        · exact ha hd
        · exact hb hd
      rw [delRow_all hall] at hcy'
      have hsd := hcy.img hd
      rw [hcy.rel hcy' y hd]
      unfold skF
      rw [if_neg (fun h : sucF A y = 2 * (e : Int) => ha (h ▸ hsd)), if_neg (fun h : sucF A y = 2 * (e : Int) + 1 => hb (h ▸ hsd))]
end
end Go.Proofs.YtdacnkjmimhcaaaDoor
