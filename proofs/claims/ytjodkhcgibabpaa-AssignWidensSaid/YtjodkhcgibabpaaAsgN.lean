/- The law AssignWidens. -/
import Derived.Test.YtjodkhcgibabpaaAsgL
set_option linter.unusedSimpArgs false
set_option linter.unusedVariables false
namespace Go.Proofs.Ytjodkhcgibabpaa
open Go.RowKit

def negL (k : Nat) : List Int := List.replicate k (-1)
/-- Further columns with -1. -/
def wid (m : List (List Int)) (t : Nat) : List (List Int) := m.map (· ++ negL t)
theorem wid_length (m : List (List Int)) (t : Nat) : (wid m t).length = m.length := by simp [wid]
theorem rowOf_wid (m : List (List Int)) (t : Nat) {u : Nat} (hu : u < m.length) : rowOf (wid m t) u = rowOf m u ++ negL t := by
  rw [rowOf_eq _ (by rw [wid_length]; exact hu), rowOf_eq _ hu]
  unfold wid
  rw [List.getElem_map]
theorem kO_wid {m : List (List Int)} (t : Nat) (h0 : 0 < m.length) : kO (wid m t) = kO m + t := by
  unfold kO
  rw [rowOf_wid m t h0, List.length_append]
  simp [negL]
theorem at2_wid {m : List (List Int)} (hV : vA m) (t : Nat) {u v : Nat} (hu : u < m.length) (hv : v < kO m + t) : at2 (wid m t) u v = if v < kO m then at2 m u v else -1 := by
  unfold at2
  rw [rowOf_wid m t hu]
  have hl := hV.sq u hu
  unfold ge
  rw [List.getD_eq_getElem?_getD]
  by_cases h : v < kO m
  · rw [if_pos h, List.getElem?_append_left (by omega), List.getD_eq_getElem?_getD]
  · rw [if_neg h, List.getElem?_append_right (by omega), negL, List.getElem?_replicate, if_pos (by omega)]
    rfl
theorem asg_wid {m : List (List Int)} (hV : vA m) (t : Nat) (a : List Nat) : Asg (wid m t) a ↔ Asg m a := by
  constructor
  · intro h
    have hl := h.l
    rw [wid_length] at hl
    have key : ∀ i, i < m.length → gn a i < kO m ∧ 0 ≤ at2 m i (gn a i) := fun i hi => by
      have h1 := h.lt i (by rw [wid_length]; exact hi)
      rw [kO_wid t (by omega)] at h1
      have h2 := h.ok i (by rw [wid_length]; exact hi)
      rw [at2_wid hV t hi h1] at h2
      by_cases e : gn a i < kO m
      · rw [if_pos e] at h2; exact ⟨e, h2⟩
      · rw [if_neg e] at h2; omega
    exact ⟨hl, fun i j hi hj => h.nd i j (by rw [wid_length]; exact hi) (by rw [wid_length]; exact hj), fun i hi => (key i hi).1, fun i hi => (key i hi).2⟩
  · intro h
    refine ⟨by rw [wid_length]; exact h.l, fun i j hi hj => h.nd i j (by rw [wid_length] at hi; exact hi) (by rw [wid_length] at hj; exact hj), fun i hi => ?_, fun i hi => ?_⟩
    · rw [wid_length] at hi
      rw [kO_wid t (by omega)]
      have := h.lt i hi
      omega
    · rw [wid_length] at hi
      have := h.lt i hi
      rw [at2_wid hV t hi (by omega), if_pos this]
      exact h.ok i hi
theorem cost_wid {m : List (List Int)} (hV : vA m) (t : Nat) {a : List Nat} (h : Asg m a) : costN (wid m t) a = costN m a + 0 := by
  unfold costN
  rw [wid_length, Int.add_zero]
  exact sumN_congr fun i hi => by
    have := h.lt i hi
    rw [at2_wid hV t hi (by omega), if_pos this]

theorem CpP.sl {w : World} {B : Nat} {v : Value} {m : List (List Int)} (h : CpP w B v m) : ∃ q co, v = .slice q m.length co := by
  rcases h.shape with ⟨h1, h2⟩ | ⟨go, co, h1, _⟩
  · exact ⟨none, 0, by rw [h1, h2]⟩
  · exact ⟨_, _, h1⟩
/-- A row of it, as an append wants it. -/
theorem CpP.open {w : World} {B go co : Nat} {m : List (List Int)} (h : CpP w B (.slice (some ⟨go, 0, none⟩) m.length co) m) {u : Nat} (hu : u < m.length) :
    ∃ vals g c, Owns w B (⟨.slice (some ⟨go, 0, none⟩) m.length co, 23, 1, m.length, vals⟩ :: matRows vals m) ∧ vals.length = m.length ∧ (∀ u, u < m.length → ∃ v', vals[u]? = some v' ∧ isRow v' (rowOf m u)) ∧
      w.cell? ⟨go, u, none⟩ = some (.slice (some ⟨g, 0, none⟩) (rowOf m u).length c) ∧ go < w.heap.size ∧
      (⟨.slice (some ⟨go, 0, none⟩) m.length co, 23, 1, m.length, vals⟩ :: matRows vals m)[u + 1]? = some ⟨.slice (some ⟨g, 0, none⟩) (rowOf m u).length c, 3, 1, (rowOf m u).length, intVs (rowOf m u)⟩ := by
  obtain ⟨vals, h1, h2, h3⟩ := h
  obtain ⟨v', e1, g, c, rfl⟩ := h3 u hu
  exact ⟨vals, g, c, h2, h1, h3, (own_blk h2 (j := 0) rfl).2.2.2.2 u _ e1, own_lt h2 (j := 0) rfl, matRows_get e1 hu⟩
theorem rowOf_set (m : List (List Int)) {u : Nat} (hu : u < m.length) (xs : List Int) (a : Nat) : rowOf (m.set u xs) a = if a = u then xs else rowOf m a := by
  unfold rowOf
  rw [List.getD_eq_getElem?_getD, List.getElem?_set]
  by_cases e : a = u
  · subst e; rw [if_pos rfl, if_pos hu, if_pos rfl]; rfl
  · rw [if_neg (Ne.symm e), if_neg e, List.getD_eq_getElem?_getD]
/-- Behind the append and the store. -/
theorem CpP.widen {w : World} {B go co : Nat} {m : List (List Int)} {vals : List Value} {u : Nat} {v' : Value} (hl : vals.length = m.length) (hr : ∀ u, u < m.length → ∃ v', vals[u]? = some v' ∧ isRow v' (rowOf m u)) (hu : u < m.length)
    (hv : isRow v' (rowOf m u ++ [-1]))
    (hO : Owns w B ((⟨.slice (some ⟨go, 0, none⟩) m.length co, 23, 1, m.length, vals⟩ :: matRows vals m).set (u + 1) ⟨v', 3, 1, (rowOf m u).length + 1, intVs (rowOf m u) ++ [.int .i64 (-1)]⟩)) :
    CpP (w.setCell ⟨go, u, none⟩ v') B (.slice (some ⟨go, 0, none⟩) m.length co) (m.set u (rowOf m u ++ [-1])) := by
  refine ⟨vals.set u v', by rw [List.length_set, List.length_set]; exact hl, ?_, fun a ha => ?_⟩
  · have h1 := hO.set (k := 0) rfl u v'
    rw [List.length_set, matRows_set hl hu]
    have e : matRow v' (rowOf m u ++ [-1]) = ⟨v', 3, 1, (rowOf m u).length + 1, intVs (rowOf m u) ++ [.int .i64 (-1)]⟩ := by
      unfold matRow
      rw [List.length_append, List.length_singleton]
      simp [intVs]
    rw [e]
    exact h1
  · rw [List.length_set] at ha
    rw [rowOf_set m hu]
    by_cases e : a = u
    · subst e
      rw [if_pos rfl]
      exact ⟨v', by rw [List.getElem?_set, if_pos rfl, if_pos (by rw [hl]; exact ha)], hv⟩
    · rw [if_neg e]
      obtain ⟨v1, h1, h2⟩ := hr a ha
      exact ⟨v1, by rw [List.getElem?_set, if_neg (Ne.symm e)]; exact h1, h2⟩
theorem negL_snoc (k : Nat) (xs : List Int) : (xs ++ negL k) ++ [-1] = xs ++ negL (k + 1) := by
  rw [List.append_assoc]
  unfold negL
  rw [List.replicate_succ']
theorem copied_w {p : Option Addr} {n cp : Nat} {m : List (List Int)} {w : World} (hM : Mat w p m) (hV : vA m) (hn : m.length = n) :
    Calls Try.prog 15 #[.slice p n cp, .int .i64 (-1), .int .i64 0] w fun e w' => Grew w w' ∧ ∃ q co, e = .returned (.slice q n co) ∧ CpP w' w.heap.size (.slice q n co) m := by
  refine (copied_l p n cp m (-1) 0 w hM hV hn (by omega) (by omega)).mono fun e w' h => ⟨h.1, ?_⟩
  obtain ⟨v, rfl, hC⟩ := h.2
  rw [cpM_none] at hC
  obtain ⟨q, co, rfl⟩ := hC.sl
  subst hn
  exact ⟨q, co, rfl, hC⟩

def widW (m M : List (List Int)) (f : Nat → Nat) : Prop := M.length = m.length ∧ ∀ u, u < m.length → rowOf M u = rowOf m u ++ negL (f u)
theorem widW.begin (m : List (List Int)) : widW m m (fun u => if u < 0 then 0 else 0) := ⟨rfl, fun u _ => by simp [negL]⟩
theorem widW.full {m M : List (List Int)} {t : Nat} {f : Nat → Nat} (h : widW m M f) (hf : ∀ u, u < m.length → f u = t) : M = wid m t := by
  refine List.ext_getElem (by rw [h.1, wid_length]) fun i h1 h2 => ?_
  have hi : i < m.length := by rw [h.1] at h1; exact h1
  rw [← rowOf_eq _ h1, ← rowOf_eq _ h2, rowOf_wid m t hi, h.2 i hi, hf i hi]

set_option maxHeartbeats 8000000 in
theorem widens_l (p : Option Addr) (n cp : Nat) (m : List (List Int)) (a : Nat) (w : World) (hM : Mat w p m) (hn : m.length = n) (ha : a ≤ 255) :
    Calls Try.prog 6 #[.slice p n cp, .int .u8 a] w fun e w' => e = .returned (.bool true) ∧ Grew w w' := by
  subst hn
  have hmm := hM.1
  cases hv : vB m
  case false =>
    have Hv := Lib.hid hv
    clear hv
    go_enter Try.func6, Try.ntmps6
    go_wp2_with (first
      | (go_at_call 13; apply Calls.mono; (with_reducible exact validr_e Hv.out (hM.grew (by (repeat (first | exact Grew.refl _ | refine Grew.over ?_ _ | refine Grew.alloc ?_ _ | refine Grew.drew ?_ | refine Grew.drewN ?_ _)))) rfl); rintro e w' ⟨rfl, x, rfl⟩)
      | (go_at_call 8; apply Calls.mono; (with_reducible exact awake_l _); rintro e w' ⟨rfl, x, rfl⟩))
    go_ret
    exact ⟨rfl, by (repeat (first | exact Grew.refl _ | refine Grew.over ?_ _ | refine Grew.alloc ?_ _ | refine Grew.drew ?_ | refine Grew.drewN ?_ _))⟩
  case true =>
  have Hv := Lib.hid hv
  have HV := Lib.hid (vB_iff.1 hv)
  have h16 := HV.out.n16
  clear hv
  obtain ⟨t, ht⟩ : ∃ t, t = a % 4 := ⟨_, rfl⟩
  have ht4 : t < 4 := by omega
  have ht1 : (a : Int) % 4 = (t : Int) := by omega
  have ht2 : Int.tmod (a : Int) 4 = (t : Int) := by rw [Int.tmod_eq_emod_of_nonneg (by omega)]; exact ht1
  clear ht
  go_enter Try.func6, Try.ntmps6
  go_wp2_with (first
    | (go_at_call 13; apply Calls.mono; (with_reducible exact validr_e Hv.out (hM.grew (by (repeat (first | exact Grew.refl _ | refine Grew.over ?_ _ | refine Grew.alloc ?_ _ | refine Grew.drew ?_ | refine Grew.drewN ?_ _)))) rfl); rintro e w' ⟨rfl, x, rfl⟩)
    | (go_at_call 15; apply Calls.mono; (with_reducible exact copied_w (hM.grew (by (repeat (first | exact Grew.refl _ | refine Grew.over ?_ _ | refine Grew.alloc ?_ _ | refine Grew.drew ?_ | refine Grew.drewN ?_ _)))) HV.out rfl); rintro e w1 ⟨hg1, q1, co1, rfl, hC1⟩; have Hg1 : Hid (Grew w w1) := Lib.hid (Grew.trans (by (repeat (first | exact Grew.refl _ | refine Grew.over ?_ _ | refine Grew.alloc ?_ _ | refine Grew.drew ?_ | refine Grew.drewN ?_ _))) hg1); have HC1 := Lib.hid (show CpP w1 w.heap.size _ _ by obtain ⟨vals, h1, h2, h3⟩ := hC1; exact ⟨vals, h1, h2.base (Grew.below (by (repeat (first | exact Grew.refl _ | refine Grew.over ?_ _ | refine Grew.alloc ?_ _ | refine Grew.drew ?_ | refine Grew.drewN ?_ _)))).size, h3⟩); clear hg1 hC1)
    )
  go_loopw [6] (fun v6 wr => ∃ (i : Nat) (M : List (List Int)), i ≤ m.length ∧ v6 = .int .i64 i ∧ widW m M (fun u => if u < i then t else 0) ∧ CpP wr w.heap.size (.slice q1 m.length co1) M ∧ Grew w wr) (fun v6 _ => m.length - (intOf v6).toNat)
  case atStart => exact ⟨0, m, Nat.zero_le _, rfl, ⟨rfl, fun u _ => by simp [negL]⟩, HC1.out, Hg1.out⟩
  case round =>
    clear HC1 Hg1
    obtain ⟨i, M, hi, rfl, hW, hC, hg⟩ := hrel
    have HW := Lib.hid hW
    have HC := Lib.hid hC
    have Hg := Lib.hid hg
    clear hW hC hg
    by_cases hlt : i < m.length
    · go_wp2
      go_loopw [7] (fun v7 wr => ∃ (k : Nat) (M : List (List Int)), k ≤ t ∧ v7 = .int .i64 k ∧ widW m M (fun u => if u < i then t else if u = i then k else 0) ∧ CpP wr w.heap.size (.slice q1 m.length co1) M ∧ Grew w wr) (fun v7 _ => t - (intOf v7).toNat)
      case atStart =>
        refine ⟨0, M, Nat.zero_le _, rfl, ⟨HW.out.1, fun u hu => ?_⟩, HC.out, Hg.out⟩
        rw [HW.out.2 u hu]
        simp
      case round =>
        clear HC Hg HW
        obtain ⟨k, M, hk, rfl, hW, hC, hg⟩ := hrel
        have HW := Lib.hid hW
        have HC := Lib.hid hC
        have Hg := Lib.hid hg
        clear hW hC hg
        have hsz := Hg.out.below.size
        by_cases hkt : k < t
        · have hML := HW.out.1
          rcases HC.out.shape with ⟨_, h2⟩ | ⟨go, co, h1, _, _, _⟩
          · exfalso; omega
          simp only [Value.slice.injEq] at h1
          obtain ⟨rfl, -, rfl⟩ := h1
          have hC2 := HC.out
          rw [← hML] at hC2
          obtain ⟨vals, g, c, hO, hvl, hvr, hc, hsg, hrow⟩ := hC2.open (u := i) (by omega)
          have hrm := HW.out.2 i hlt
          have hlm := HV.out.sq i hlt
          have hk64 := HV.out.k64 (by omega)
          obtain ⟨L, hL⟩ : ∃ L, (rowOf M i).length = L := ⟨_, rfl⟩
          have hL67 : L ≤ 100 := by
            rw [← hL, hrm, List.length_append, hlm]
            simp [negL]
            omega
          rw [hL] at hc hrow
          have Hrow := Lib.hid hrow
          have Hlt := Lib.hid (List.getElem?_eq_some_iff.1 hrow).1
          have HO := Lib.hid hO
          have Hvl := Lib.hid hvl
          have Hvr := Lib.hid hvr
          have HL := Lib.hid hL
          have HML := Lib.hid hML
          obtain ⟨v0, hv0, _⟩ := hvr i (by omega)
          have Hv0 := Lib.hid hv0
          clear hC2 hrow hO hvl hvr hrm hlm hL hv0 HC
          go_wp2_with (at_builtin; refine wp_append_owns rfl _ _ 23 rfl 3 1 8 (.int .i64 0) Try.underlying23 Try.infoInt rfl (by decide) w.heap.size _ (i + 1) _ _ _ (HO.out.grew (by (repeat (first | exact Grew.refl _ | refine Grew.over ?_ _ | refine Grew.alloc ?_ _ | refine Grew.drew ?_ | refine Grew.drewN ?_ _)))) Hrow.out rfl _ 1 1 rfl [.int .i64 (-1)] rfl (fun h => by cases h) (one_news _ (by (simp [go_sem, ↓IntWalk.iteOmega]))) (by simp [Value.oneCell']) (by simp only [maxLen]; omega) (by omega) (by first | rfl | omega | (simp <;> omega)) ?_; intro v2 w2 hO2 hg2 hb2 _; obtain ⟨g2, c2, rfl, _⟩ := hO2.some (k := i + 1) (List.getElem?_set_self Hlt.out) (by omega); have Hg2 := Lib.hid (Grew.grownBy (w0 := w) (Hg.out.trans (by (repeat (first | exact Grew.refl _ | refine Grew.over ?_ _ | refine Grew.alloc ?_ _ | refine Grew.drew ?_ | refine Grew.drewN ?_ _)))) hg2 hb2); have hbk := own_blk hO2 (j := 0) rfl; have d2 := hbk.2.2.2.2 i _ Hv0.out; have f2 := hbk.2.2.2.1 i; have s2 := hbk.2.2.1; have HO2 := Lib.hid hO2; clear hO2 hg2 hb2 hbk)
          go_roundw
          case rel =>
            refine ⟨k + 1, M.set i (rowOf M i ++ [-1]), by omega, by go_num, ⟨by rw [List.length_set]; exact HML.out, fun u hu => ?_⟩, ?_, HO2.out.setGrew (w0 := w) (Nat.le_refl _) Hg2.out (k := 0) rfl i _⟩
            · rw [rowOf_set M (by rw [HML.out]; exact hlt)]
              by_cases e : u = i
              · subst e
                rw [if_pos rfl, HW.out.2 u hu]
                simp only [Nat.lt_irrefl, if_false, if_true]
                exact negL_snoc _ _
              · rw [if_neg e, HW.out.2 u hu]
                simp [e]
            · have h := CpP.widen (m := M) (go := go) (co := co1) (u := i) (v' := .slice (some ⟨g2, 0, none⟩) (L + 1) c2) Hvl.out Hvr.out (by rw [HML.out]; exact hlt) ⟨g2, c2, by rw [List.length_append, HL.out]; rfl⟩ (by rw [HL.out]; exact HO2.out)
              rw [HML.out] at h
              exact h
          case measure => simp [intOf]; omega
        · have hke : k = t := by omega
          have HW2 : Hid (widW m M (fun u => if u < i + 1 then t else 0)) := Lib.hid ⟨HW.out.1, fun u hu => by
            rw [HW.out.2 u hu]
            by_cases e : u < i
            · simp [e, show u < i + 1 by omega]
            · by_cases e2 : u = i
              · simp [e2, hke]
              · simp [e, e2, show ¬ u < i + 1 by omega]⟩
          go_wp2
          go_roundw
          case rel => exact ⟨i + 1, M, by omega, by go_num, HW2.out, HC.out, Hg.out⟩
          case measure => simp [intOf]; omega
    · have hie : i = m.length := by omega
      have Hf : Hid (M = wid m t) := Lib.hid (HW.out.full (fun u hu => by rw [if_pos (by omega)]))
      have HC2 := HC
      rw [Hf.out] at HC2
      clear hie HC HW
      have hrng : ∀ u, u < (wid m t).length → (rowOf (wid m t) u).length ≤ 1000 ∧ ∀ x ∈ rowOf (wid m t) u, -9223372036854775808 ≤ x ∧ x ≤ 9223372036854775807 := fun u hu => by
        rw [wid_length] at hu
        have h1 := HV.out.sq u hu
        have h2 := HV.out.k64 (by omega)
        rw [rowOf_wid m t hu]
        refine ⟨?_, fun x hx => ?_⟩
        · rw [List.length_append, h1]
          simp [negL]
          omega
        · rcases List.mem_append.1 hx with hx | hx
          · exact row_rng HV.out hu x hx
          · rw [List.eq_of_mem_replicate hx]; omega
      obtain ⟨q2, co2, he, hM2⟩ := HC2.out.mat (by rw [wid_length]; omega) (fun u hu => (hrng u hu).1) (fun u hu => (hrng u hu).2)
      simp only [Value.slice.injEq] at he
      obtain ⟨rfl, -, rfl⟩ := he
      have Hlen := Lib.hid (wid_length m t)
      have hb := best_or m
      clear hrng HC2
      cases hv2 : vB (wid m t)
      case false =>
        have Hv2 := Lib.hid hv2
        clear hv2 hb
        go_wp2_with (first
          | (go_at_call 13; apply Calls.mono; (with_reducible exact validr_e Hv2.out (hM2.grew (by (repeat (first | exact Grew.refl _ | refine Grew.over ?_ _ | refine Grew.alloc ?_ _ | refine Grew.drew ?_ | refine Grew.drewN ?_ _)))) Hlen.out); rintro e w' ⟨rfl, x, rfl⟩)
          | (go_at_call 8; apply Calls.mono; (with_reducible exact awake_l _); rintro e w' ⟨rfl, x, rfl⟩))
        go_ret
        exact ⟨rfl, Hg.out.trans (by (repeat (first | exact Grew.refl _ | refine Grew.over ?_ _ | refine Grew.alloc ?_ _ | refine Grew.drew ?_ | refine Grew.drewN ?_ _)))⟩
      case true =>
        have Hv2 := Lib.hid hv2
        clear hv2
        rcases hb with ⟨o, ho⟩ | hno
        · have ho2 : BestA (wid m t) o := best_same (wid_length _ _) 0 (asg_wid HV.out t) (fun a h => cost_wid HV.out t h) ho
          have hc2 := cost_wid HV.out t ho.asg
          have Hl := Lib.hid (intL_length o)
          obtain ⟨c, hc⟩ : ∃ c, costN m o = c := ⟨_, rfl⟩
          rw [hc, Int.add_zero] at hc2
          have Hc := Lib.hid hc
          have Hc2 := Lib.hid hc2
          have Ho := Lib.hid ho
          have Ho2 := Lib.hid ho2
          have Hs1 : Hid (∀ (p' : Option Addr) (cp' : Nat) (w1 : World), Mat w1 p' m → Calls Try.prog 9 #[.slice p' m.length cp'] w1 fun e w' => Grew w1 w' ∧ ∃ q c', e = .returned (.tuple #[.slice q o.length c', .int .i64 c, .int .i64 0]) ∧ Ints w' q (intL o) ∧ o.length ≤ c') := Lib.hid (fun p' cp' w1 hM => by
            have := solve_ok (cp := cp') hM rfl Hv.out Ho.out
            rw [Hc.out] at this
            exact this)
          have Hs2 : Hid (∀ (p' : Option Addr) (cp' : Nat) (w1 : World), Mat w1 p' (wid m t) → Calls Try.prog 9 #[.slice p' m.length cp'] w1 fun e w' => Grew w1 w' ∧ ∃ q c', e = .returned (.tuple #[.slice q o.length c', .int .i64 c, .int .i64 0]) ∧ Ints w' q (intL o) ∧ o.length ≤ c') := Lib.hid (fun p' cp' w1 hM => by
            have := solve_ok (cp := cp') hM Hlen.out Hv2.out Ho2.out
            rw [Hc2.out] at this
            exact this)
          clear ho ho2 hc hc2
          go_wp2_with (first
            | (go_at_call 13; apply Calls.mono; (with_reducible exact validr_e Hv2.out (hM2.grew (by (repeat (first | exact Grew.refl _ | refine Grew.over ?_ _ | refine Grew.alloc ?_ _ | refine Grew.drew ?_ | refine Grew.drewN ?_ _)))) Hlen.out); rintro e w' ⟨rfl, x, rfl⟩)
            | (go_at_call 9; apply Calls.mono; (with_reducible exact Hs1.out _ _ _ (hM.grew (Hg.out.trans (by (repeat (first | exact Grew.refl _ | refine Grew.over ?_ _ | refine Grew.alloc ?_ _ | refine Grew.drew ?_ | refine Grew.drewN ?_ _)))))); rintro e w' ⟨⟨x2, rfl⟩, q3, cap2, rfl, hI2, hcap2⟩)
            | (go_at_call 9; apply Calls.mono; (with_reducible exact Hs2.out _ _ _ (hM2.grew (by (repeat (first | exact Grew.refl _ | refine Grew.over ?_ _ | refine Grew.alloc ?_ _ | refine Grew.drew ?_ | refine Grew.drewN ?_ _))))); rintro e w' ⟨⟨x3, rfl⟩, q4, cap3, rfl, hI3, hcap3⟩)
            | (go_at_call 11; apply Calls.mono; (with_reducible exact same_e rfl (hI2.grew (by (repeat (first | exact Grew.refl _ | refine Grew.over ?_ _ | refine Grew.alloc ?_ _ | refine Grew.drew ?_ | refine Grew.drewN ?_ _)))) (hI3.grew (by (repeat (first | exact Grew.refl _ | refine Grew.over ?_ _ | refine Grew.alloc ?_ _ | refine Grew.drew ?_ | refine Grew.drewN ?_ _)))) Hl.out Hl.out); rintro e w' ⟨rfl, x, rfl⟩)
            | (go_at_call 8; apply Calls.mono; (with_reducible exact awake_l _); rintro e w' ⟨rfl, x, rfl⟩))
          go_ret
          exact ⟨rfl, Hg.out.trans (by (repeat (first | exact Grew.refl _ | refine Grew.over ?_ _ | refine Grew.alloc ?_ _ | refine Grew.drew ?_ | refine Grew.drewN ?_ _)))⟩
        · have Hno := Lib.hid hno
          have Hno2 : Hid (∀ a, ¬ Asg (wid m t) a) := Lib.hid (fun a ha => Hno.out a ((asg_wid HV.out t a).1 ha))
          clear hno
          go_wp2_with (first
            | (go_at_call 13; apply Calls.mono; (with_reducible exact validr_e Hv2.out (hM2.grew (by (repeat (first | exact Grew.refl _ | refine Grew.over ?_ _ | refine Grew.alloc ?_ _ | refine Grew.drew ?_ | refine Grew.drewN ?_ _)))) Hlen.out); rintro e w' ⟨rfl, x, rfl⟩)
            | (go_at_call 9; apply Calls.mono; (with_reducible exact solve_no (hM.grew (Hg.out.trans (by (repeat (first | exact Grew.refl _ | refine Grew.over ?_ _ | refine Grew.alloc ?_ _ | refine Grew.drew ?_ | refine Grew.drewN ?_ _))))) rfl Hv.out Hno.out); rintro e w' ⟨rfl, x, rfl⟩)
            | (go_at_call 9; apply Calls.mono; (with_reducible exact solve_no (hM2.grew (by (repeat (first | exact Grew.refl _ | refine Grew.over ?_ _ | refine Grew.alloc ?_ _ | refine Grew.drew ?_ | refine Grew.drewN ?_ _)))) Hlen.out Hv2.out Hno2.out); rintro e w' ⟨rfl, x, rfl⟩)
            | (go_at_call 11; apply Calls.mono; (with_reducible exact same_e rfl (Ints.nil _ _) (Ints.nil _ _) rfl rfl); rintro e w' ⟨rfl, x, rfl⟩)
            | (go_at_call 8; apply Calls.mono; (with_reducible exact awake_l _); rintro e w' ⟨rfl, x, rfl⟩))
          go_ret
          exact ⟨rfl, Hg.out.trans (by (repeat (first | exact Grew.refl _ | refine Grew.over ?_ _ | refine Grew.alloc ?_ _ | refine Grew.drew ?_ | refine Grew.drewN ?_ _)))⟩
end Go.Proofs.Ytjodkhcgibabpaa
