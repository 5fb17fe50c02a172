/- The program's check of a statement: attributes, names, levels. -/
import Derived.Test.YtbamckfjikpjlaaTreG
set_option linter.unusedSimpArgs false
set_option linter.unusedVariables false
namespace Go.Proofs.Ytbamckfjikpjlaa
open Go.RowKit
attribute [local go_sem ↓] Go.wp_at_zero Go.wp_at_succ

/-- A box of five cells. -/
def Bx5 (w : World) (b : Nat) (v0 v1 v2 v3 v4 : Value) : Prop := b < w.heap.size ∧ w.cell? ⟨b, 0, none⟩ = some v0 ∧ w.cell? ⟨b, 1, none⟩ = some v1 ∧ w.cell? ⟨b, 2, none⟩ = some v2 ∧ w.cell? ⟨b, 3, none⟩ = some v3 ∧ w.cell? ⟨b, 4, none⟩ = some v4
theorem Bx5.grew {w w' : World} {b : Nat} {v0 v1 v2 v3 v4 : Value} (h : Bx5 w b v0 v1 v2 v3 v4) (hg : Grew w w') : Bx5 w' b v0 v1 v2 v3 v4 :=
  ⟨Nat.lt_of_lt_of_le h.1 hg.below.size, hg.cellEq h.2.1, hg.cellEq h.2.2.1, hg.cellEq h.2.2.2.1, hg.cellEq h.2.2.2.2.1, hg.cellEq h.2.2.2.2.2⟩
theorem Bx5.box (w : World) (v0 v1 v2 v3 v4 : Value) (t : TypeId) : Bx5 (w.alloc (.cells #[v0, v1, v2, v3, v4] t)) w.heap.size v0 v1 v2 v3 v4 := by
  refine ⟨by simp [go_sem], ?_, ?_, ?_, ?_, ?_⟩ <;> simp [go_sem]
theorem SlAt.take {α : Type} {R : World → List Value → α → Prop} {sz : Nat} {w : World} {p : Option Addr} {cap : Nat} {xs : List α} (h : SlAt R sz w p cap xs) (i : Nat) : SlAt R sz w p cap (xs.take i) := by
  obtain ⟨h1, h2, h3, h4⟩ := h
  refine ⟨by simp; omega, h2, h3, fun j x hx => h4 j x ?_⟩
  rw [List.getElem?_take] at hx
  split at hx
  · exact hx
  · cases hx

def vlB (v : ByteArray) : Bool := decide (∀ k, k < v.size → 32 ≤ ch v k ∧ ch v k ≤ 126)
def atE (k : Int) (ats : List P2) (i : Nat) : Int :=
  if k ≠ 4 ∧ nameB (p2K ats i).1 = false then 5 else if ((ats.take i).any fun b => sq b.1 (p2K ats i).1) = true then 6 else if 32 < (p2K ats i).2.size then 2 else if vlB (p2K ats i).2 = false then 7 else 0
def atsE (k : Int) (ats : List P2) : Int := if 16 < ats.length then 2 else fst0 ((List.range ats.length).map (atE k ats))
theorem atE_1 {k : Int} {ats : List P2} {i : Nat} {x y : ByteArray} (hx : ats[i]? = some (x, y)) (hk : ¬ k = 4) (h : nameB x = false) : atE k ats i = 5 := by
  unfold atE; rw [p2K_eq hx]; exact if_pos ⟨hk, h⟩
theorem atE_2 {k : Int} {ats : List P2} {i : Nat} {x y : ByteArray} (hx : ats[i]? = some (x, y)) (h : k = 4 ∨ nameB x = true) (h2 : ((ats.take i).any fun b => sq b.1 x) = true) : atE k ats i = 6 := by
  unfold atE; rw [p2K_eq hx, if_neg (by rintro ⟨h3, h4⟩; rcases h with h | h; exact h3 h; rw [h] at h4; cases h4)]; exact if_pos h2
theorem atE_3 {k : Int} {ats : List P2} {i : Nat} {x y : ByteArray} (hx : ats[i]? = some (x, y)) (h : k = 4 ∨ nameB x = true) (h2 : ((ats.take i).any fun b => sq b.1 x) = false) (h3 : 32 < y.size) : atE k ats i = 2 := by
  unfold atE; rw [p2K_eq hx, if_neg (by rintro ⟨h3, h4⟩; rcases h with h | h; exact h3 h; rw [h] at h4; cases h4), if_neg (by rw [h2]; simp)]; exact if_pos h3
theorem atE_4 {k : Int} {ats : List P2} {i : Nat} {x y : ByteArray} (hx : ats[i]? = some (x, y)) (h : k = 4 ∨ nameB x = true) (h2 : ((ats.take i).any fun b => sq b.1 x) = false) (h3 : ¬ 32 < y.size) : atE k ats i = if vlB y = false then 7 else 0 := by
  unfold atE; rw [p2K_eq hx, if_neg (by rintro ⟨h3, h4⟩; rcases h with h | h; exact h3 h; rw [h] at h4; cases h4), if_neg (by rw [h2]; simp)]; exact if_neg h3
theorem vl_bad {v : ByteArray} {k : Nat} (hk : k < v.size) (h : ¬ (32 ≤ ch v k ∧ ch v k ≤ 126)) : vlB v = false := decide_eq_false fun hh => h (hh k hk)
theorem atsE_hit {k : Int} {ats : List P2} {i : Nat} {r : Int} (hl : ats.length ≤ 16) (hi : i < ats.length) (h : ∀ j, j < i → atE k ats j = 0) (hr : atE k ats i = r) (h0 : r ≠ 0) : atsE k ats = r := by
  unfold atsE
  rw [if_neg (by omega), fst0_map_hit (x := i) (List.getElem?_range hi) (fun j y hj hy => ?_) (by rw [hr]; exact h0), hr]
  rw [List.getElem?_range (by omega)] at hy
  cases hy
  exact h _ hj
theorem atsE_miss {k : Int} {ats : List P2} (hl : ats.length ≤ 16) (h : ∀ j, j < ats.length → atE k ats j = 0) : atsE k ats = 0 := by
  unfold atsE
  rw [if_neg (by omega)]
  refine fst0_map_miss fun j y hy => ?_
  have hj := (List.getElem?_eq_some_iff.1 hy).1
  rw [List.length_range] at hj
  rw [List.getElem?_range hj] at hy
  cases hy
  exact h _ hj

set_option maxHeartbeats 4000000 in
theorem attrs_p (k : Int) (nm : ByteArray) (rp ap bp : Option Addr) (rl rc al ac bl bc : Nat) (ats : List P2) (w : World) (hA : P2s w ap ac ats) (ha : ats.length = al) :
    Calls Try.prog 52 #[.agg #[.int .i64 k, .string nm, .slice rp rl rc, .slice ap al ac, .slice bp bl bc]] w fun e w' => e = .returned (.int .i64 (atsE k ats)) ∧ Grew w w' := by
  subst ha
  have hac := hA.1
  have HA := Lib.hid hA
  clear hA
  obtain ⟨r, hr⟩ : ∃ r, atsE k ats = r := ⟨_, rfl⟩
  rw [hr]
  have Hr := Lib.hid hr
  clear hr
  by_cases h16 : ats.length ≤ 16
  case neg =>
    have H := Lib.hid (Hr.out.symm.trans (if_pos (by omega)))
    go_enter Try.func52, Try.ntmps52
    go_wp2
    go_ret
    exact ⟨ret_int H.out.symm, by (repeat (first | exact Grew.refl _ | refine Grew.over ?_ _ | refine Grew.alloc ?_ _ | refine Grew.drew ?_ | refine Grew.drewN ?_ _))⟩
  have HW := Lib.hid (Bx5.box w (.int .i64 k) (.string nm) (.slice rp rl rc) (.slice ap ats.length ac) (.slice bp bl bc) 43)
  go_enter Try.func52, Try.ntmps52
  go_wp2
  go_loopw [13] (fun i wr => ∃ j : Nat, j ≤ ats.length ∧ i = .int .i64 j ∧ (∀ u, u < j → atE k ats u = 0) ∧ Grew (w.alloc (.cells #[.int .i64 k, .string nm, .slice rp rl rc, .slice ap ats.length ac, .slice bp bl bc] 43)) wr) (fun i _ => ats.length - (intOf i).toNat)
  case atStart => exact ⟨0, Nat.zero_le _, rfl, fun u hu => by omega, by (repeat (first | exact Grew.refl _ | refine Grew.over ?_ _ | refine Grew.alloc ?_ _ | refine Grew.drew ?_ | refine Grew.drewN ?_ _))⟩
  case round =>
    obtain ⟨j, hj, rfl, hall, hg⟩ := hrel
    have Hall := Lib.hid hall
    have Hg := Lib.hid hg
    obtain ⟨hb, c0, c1, c2, c3, c4⟩ := HW.out.grew hg
    have Hg0 := Lib.hid (Grew.trans (show Grew w _ by (repeat (first | exact Grew.refl _ | refine Grew.over ?_ _ | refine Grew.alloc ?_ _ | refine Grew.drew ?_ | refine Grew.drewN ?_ _))) hg)
    clear hall hg
    by_cases hlt : j < ats.length
    · obtain ⟨b, o, x, y, rfl, hb', hx, hxs, hys, d0, d1⟩ := p2_el (HA.out.grew stable_p2 Hg0.out) hlt
      have Hx := Lib.hid hx
      have hno : Hid (∀ r', atE k ats j = r' → r' ≠ 0 → r = r') := Lib.hid fun r' h h0 => Hr.out.symm.trans (atsE_hit h16 hlt Hall.out h h0)
      clear hx
      obtain ⟨nb, hnb⟩ : ∃ nb, nameB x = nb := ⟨_, rfl⟩
      have Hnb := Lib.hid hnb
      clear hnb
      by_cases hq : k = 4 ∨ nb = true
      case neg =>
        have hk4 : (k == 4) = false := beq_eq_false_iff_ne.2 (by omega)
        have hk4' : (k != 4) = true := bne_iff_ne.2 (by omega)
        cases nb
        case true => exact absurd (Or.inr rfl) hq
        have H := Lib.hid (hno.out 5 (atE_1 Hx.out (by omega) Hnb.out) (by decide))
        clear hq
        go_wp2_with (go_at_call 33; apply Calls.mono; (with_reducible exact isname_p _ _); rw [Hnb.out]; rintro e w' ⟨rfl, rfl⟩)
        go_ret
        exact ⟨ret_int H.out.symm, Hg0.out.trans (by (repeat (first | exact Grew.refl _ | refine Grew.over ?_ _ | refine Grew.alloc ?_ _ | refine Grew.drew ?_ | refine Grew.drewN ?_ _)))⟩
      obtain ⟨an, han⟩ : ∃ an, ((ats.take j).any fun b => sq b.1 x) = an := ⟨_, rfl⟩
      have Han := Lib.hid han
      have Hq := Lib.hid (show k = 4 ∨ nameB x = true by rw [Hnb.out]; exact hq)
      clear han
      have hq' : (k = 4 ∨ (((k != 4) = true ∧ (k == 4) = false) ∧ nb = true)) := by
        by_cases h : k = 4
        · exact Or.inl h
        · exact Or.inr ⟨⟨bne_iff_ne.2 h, beq_eq_false_iff_ne.2 h⟩, hq.resolve_left h⟩
      clear hq
      rcases hq' with rfl | ⟨⟨hk4, hk4'⟩, rfl⟩
      all_goals
        cases an
        case true =>
          have H := Lib.hid (hno.out 6 (atE_2 Hx.out Hq.out Han.out) (by decide))
          go_wp2_with (first
            | (go_at_call 33; apply Calls.mono; (with_reducible exact isname_p _ _); rw [Hnb.out]; rintro e w' ⟨rfl, rfl⟩)
            | (go_at_call 59; apply Calls.mono; (with_reducible exact contains_at _ _ _ (ats.take j) x wr.heap.size _ ((HA.out.grew stable_p2 (Hg0.out.trans (by (repeat (first | exact Grew.refl _ | refine Grew.over ?_ _ | refine Grew.alloc ?_ _ | refine Grew.drew ?_ | refine Grew.drewN ?_ _))))).take j) (by simp; omega) (by simp [go_sem]) (by simp [go_sem])); rw [Han.out]; rintro e w2 ⟨rfl, hg2⟩; have Hg2 := Lib.hid (Hg0.out.trans (Grew.trans (by (repeat (first | exact Grew.refl _ | refine Grew.over ?_ _ | refine Grew.alloc ?_ _ | refine Grew.drew ?_ | refine Grew.drewN ?_ _))) hg2)); have Hg3 := Lib.hid (Hg.out.trans (Grew.trans (by (repeat (first | exact Grew.refl _ | refine Grew.over ?_ _ | refine Grew.alloc ?_ _ | refine Grew.drew ?_ | refine Grew.drewN ?_ _))) hg2)); have e1 : w2.cell? ⟨wr.heap.size, 1, none⟩ = some (.string y) := hg2.cellEq (by simp [go_sem]); have e0 : wr.heap.size < w2.heap.size := Nat.lt_of_lt_of_le (by simp [go_sem]) hg2.below.size; clear hg2))
          go_ret
          exact ⟨ret_int H.out.symm, Hg2.out⟩
        by_cases h32 : 32 < y.size
        case pos =>
          have H := Lib.hid (hno.out 2 (atE_3 Hx.out Hq.out Han.out h32) (by decide))
          go_wp2_with (first
            | (go_at_call 33; apply Calls.mono; (with_reducible exact isname_p _ _); rw [Hnb.out]; rintro e w' ⟨rfl, rfl⟩)
            | (go_at_call 59; apply Calls.mono; (with_reducible exact contains_at _ _ _ (ats.take j) x wr.heap.size _ ((HA.out.grew stable_p2 (Hg0.out.trans (by (repeat (first | exact Grew.refl _ | refine Grew.over ?_ _ | refine Grew.alloc ?_ _ | refine Grew.drew ?_ | refine Grew.drewN ?_ _))))).take j) (by simp; omega) (by simp [go_sem]) (by simp [go_sem])); rw [Han.out]; rintro e w2 ⟨rfl, hg2⟩; have Hg2 := Lib.hid (Hg0.out.trans (Grew.trans (by (repeat (first | exact Grew.refl _ | refine Grew.over ?_ _ | refine Grew.alloc ?_ _ | refine Grew.drew ?_ | refine Grew.drewN ?_ _))) hg2)); have Hg3 := Lib.hid (Hg.out.trans (Grew.trans (by (repeat (first | exact Grew.refl _ | refine Grew.over ?_ _ | refine Grew.alloc ?_ _ | refine Grew.drew ?_ | refine Grew.drewN ?_ _))) hg2)); have e1 : w2.cell? ⟨wr.heap.size, 1, none⟩ = some (.string y) := hg2.cellEq (by simp [go_sem]); have e0 : wr.heap.size < w2.heap.size := Nat.lt_of_lt_of_le (by simp [go_sem]) hg2.below.size; clear hg2))
          go_ret
          exact ⟨ret_int H.out.symm, Hg2.out⟩
        have Hv := Lib.hid (atE_4 Hx.out Hq.out Han.out h32)
        have Hvb := Lib.hid (fun (u : Nat) (hu : u < y.size) (h : ¬ (32 ≤ ch y u ∧ ch y u ≤ 126)) => hno.out 7 (by rw [Hv.out, vl_bad hu h]; rfl) (by decide))
        go_wp2_with (first
          | (go_at_call 33; apply Calls.mono; (with_reducible exact isname_p _ _); rw [Hnb.out]; rintro e w' ⟨rfl, rfl⟩)
          | (go_at_call 59; apply Calls.mono; (with_reducible exact contains_at _ _ _ (ats.take j) x wr.heap.size _ ((HA.out.grew stable_p2 (Hg0.out.trans (by (repeat (first | exact Grew.refl _ | refine Grew.over ?_ _ | refine Grew.alloc ?_ _ | refine Grew.drew ?_ | refine Grew.drewN ?_ _))))).take j) (by simp; omega) (by simp [go_sem]) (by simp [go_sem])); rw [Han.out]; rintro e w2 ⟨rfl, hg2⟩; have Hg2 := Lib.hid (Hg0.out.trans (Grew.trans (by (repeat (first | exact Grew.refl _ | refine Grew.over ?_ _ | refine Grew.alloc ?_ _ | refine Grew.drew ?_ | refine Grew.drewN ?_ _))) hg2)); have Hg3 := Lib.hid (Hg.out.trans (Grew.trans (by (repeat (first | exact Grew.refl _ | refine Grew.over ?_ _ | refine Grew.alloc ?_ _ | refine Grew.drew ?_ | refine Grew.drewN ?_ _))) hg2)); have e1 : w2.cell? ⟨wr.heap.size, 1, none⟩ = some (.string y) := hg2.cellEq (by simp [go_sem]); have e0 : wr.heap.size < w2.heap.size := Nat.lt_of_lt_of_le (by simp [go_sem]) hg2.below.size; clear hg2))
        go_loop [5, 43] (fun _ i => ∃ u : Nat, u ≤ y.size ∧ i = .int .i64 u ∧ (∀ t, t < u → 32 ≤ ch y t ∧ ch y t ≤ 126)) (fun _ i => y.size - (intOf i).toNat)
        case atStart => exact ⟨0, Nat.zero_le _, rfl, fun t ht => by omega⟩
        case round =>
          obtain ⟨u, hu, rfl, hok⟩ := hrel
          have Hok := Lib.hid hok
          clear hok
          by_cases hult : u < y.size
          · have hc := ch_eq y hult
            have hcb := ch_bd y u
            have hvu := Hvb.out u hult
            have hok1 : Hid ((32 ≤ ch y u ∧ ch y u ≤ 126) → ∀ t, t < u + 1 → 32 ≤ ch y t ∧ ch y t ≤ 126) := Lib.hid fun h t ht => by
              rcases Nat.lt_succ_iff_lt_or_eq.1 ht with h' | h'
              · exact Hok.out t h'
              · rw [h']; exact h
            obtain ⟨c, hcc⟩ : ∃ c, ch y u = c := ⟨_, rfl⟩
            rw [hcc] at hc hcb hvu hok1
            have Hvu := Lib.hid hvu
            clear hcc hvu
            by_cases hc1 : c < 32
            · have H := Lib.hid (Hvu.out (by omega))
              go_wp2
              go_ret
              exact ⟨ret_int H.out.symm, Hg2.out⟩
            by_cases hc2 : 126 < c
            · have H := Lib.hid (Hvu.out (by omega))
              go_wp2
              go_ret
              exact ⟨ret_int H.out.symm, Hg2.out⟩
            go_wp2
            go_round
            case rel => exact ⟨u + 1, hult, by go_num, hok1.out ⟨by omega, by omega⟩⟩
            case measure => simp [intOf]; omega
          · have H : Hid (atE _ ats j = 0) := Lib.hid (Hv.out.trans (by rw [show vlB y = true from decide_eq_true fun t ht => Hok.out t (by omega)]; rfl))
            go_wp2
            go_roundw
            case rel => exact ⟨j + 1, hlt, by go_num, fun t ht => (by
              rcases Nat.lt_succ_iff_lt_or_eq.1 ht with h' | h'
              · exact Hall.out t h'
              · rw [h']; exact H.out), Hg3.out⟩
            case measure => simp [intOf]; omega
    · have H := Lib.hid (Hr.out.symm.trans (atsE_miss h16 (fun t ht => Hall.out t (by omega))))
      go_wp2
      go_ret
      exact ⟨ret_int H.out.symm, Hg0.out.trans (by (repeat (first | exact Grew.refl _ | refine Grew.over ?_ _ | refine Grew.alloc ?_ _ | refine Grew.drew ?_ | refine Grew.drewN ?_ _)))⟩

theorem isname_e {s : ByteArray} {b : Bool} {w : World} (h : nameB s = b) : Calls Try.prog 33 #[.string s] w fun e w' => e = .returned (.bool b) ∧ w = w' := h ▸ isname_p s w
def badR (x : P2) : Bool := !nameB x.1 || (decide (x.2.size ≠ 0) && !nameB x.2)
/-- The first error of a statement at a level. -/
def ckE (k : Int) (nm : ByteArray) (rs ats : List P2) (bl lv : Nat) : Int :=
  if fmB k nm rs.length ats bl = false then 1 else if k = 5 ∧ 6 ≤ lv then 2 else if nmB k = true ∧ nameB nm = false then 5 else if rs.any badR = true then 5 else atsE k ats
theorem ck_1 {k : Int} {nm : ByteArray} {rs ats : List P2} {bl lv : Nat} (h : fmB k nm rs.length ats bl = false) : ckE k nm rs ats bl lv = 1 := if_pos h
theorem ck_2 {k : Int} {nm : ByteArray} {rs ats : List P2} {bl lv : Nat} (h : fmB k nm rs.length ats bl = true) (h2 : k = 5 ∧ 6 ≤ lv) : ckE k nm rs ats bl lv = 2 := by
  unfold ckE; rw [if_neg (by rw [h]; simp)]; exact if_pos h2
theorem ck_3 {k : Int} {nm : ByteArray} {rs ats : List P2} {bl lv : Nat} (h : fmB k nm rs.length ats bl = true) (h2 : ¬ (k = 5 ∧ 6 ≤ lv)) (h3 : nmB k = true) (h4 : nameB nm = false) : ckE k nm rs ats bl lv = 5 := by
  unfold ckE; rw [if_neg (by rw [h]; simp), if_neg h2]; exact if_pos ⟨h3, h4⟩
theorem ck_4 {k : Int} {nm : ByteArray} {rs ats : List P2} {bl lv : Nat} (h : fmB k nm rs.length ats bl = true) (h2 : ¬ (k = 5 ∧ 6 ≤ lv)) (h3 : nmB k = false ∨ nameB nm = true) (h4 : rs.any badR = true) : ckE k nm rs ats bl lv = 5 := by
  unfold ckE; rw [if_neg (by rw [h]; simp), if_neg h2, if_neg (by rintro ⟨a, b⟩; rcases h3 with h3 | h3 <;> simp_all)]; exact if_pos h4
theorem ck_5 {k : Int} {nm : ByteArray} {rs ats : List P2} {bl lv : Nat} (h : fmB k nm rs.length ats bl = true) (h2 : ¬ (k = 5 ∧ 6 ≤ lv)) (h3 : nmB k = false ∨ nameB nm = true) (h4 : rs.any badR = false) : ckE k nm rs ats bl lv = atsE k ats := by
  unfold ckE; rw [if_neg (by rw [h]; simp), if_neg h2, if_neg (by rintro ⟨a, b⟩; rcases h3 with h3 | h3 <;> simp_all), if_neg (by rw [h4]; simp)]
theorem badR_y {x y : ByteArray} (h : nameB x = false ∨ (y.size ≠ 0 ∧ nameB y = false)) : badR (x, y) = true := by
  unfold badR
  rcases h with h | ⟨h, h'⟩
  · simp only [h]; rfl
  · simp only [h', decide_eq_true h]; simp
theorem badR_n {x y : ByteArray} (h : nameB x = true) (h' : y.size = 0 ∨ nameB y = true) : badR (x, y) = false := by
  unfold badR
  rcases h' with h' | h'
  · simp only [h, h']; rfl
  · simp only [h, h']; simp

set_option maxHeartbeats 4000000 in
theorem check_p (k : Int) (nm : ByteArray) (rp ap bp : Option Addr) (rl rc al ac bl bc lv : Nat) (rs ats : List P2) (w : World) (hR : P2s w rp rc rs) (hr : rs.length = rl) (hA : P2s w ap ac ats) (ha : ats.length = al) (hlv : lv ≤ 1000) :
    Calls Try.prog 39 #[.agg #[.int .i64 k, .string nm, .slice rp rl rc, .slice ap al ac, .slice bp bl bc], .int .i64 lv] w fun e w' => e = .returned (.int .i64 (ckE k nm rs ats bl lv)) ∧ Grew w w' := by
  subst ha hr
  have hrl := len_lt hR
  have HA := Lib.hid hA
  have HR := Lib.hid hR
  clear hA hR
  obtain ⟨r, hr⟩ : ∃ r, ckE k nm rs ats bl lv = r := ⟨_, rfl⟩
  rw [hr]
  have Hr := Lib.hid hr
  clear hr
  have HW := Lib.hid (Bx5.box w (.int .i64 k) (.string nm) (.slice rp rs.length rc) (.slice ap ats.length ac) (.slice bp bl bc) 43)
  obtain ⟨fm, hfm⟩ : ∃ fm, fmB k nm rs.length ats bl = fm := ⟨_, rfl⟩
  have Hfm := Lib.hid hfm
  clear hfm
  cases fm
  case false =>
    have H := Lib.hid (Hr.out.symm.trans (ck_1 Hfm.out))
    have Hf := Lib.hid (fmE_n Hfm.out)
    go_enter Try.func39, Try.ntmps39
    go_wp2_with (first
      | (go_at_call 50; apply Calls.mono; (with_reducible exact form_p _ _ _ _ _ _ _ _ _ _ _ ats _ (HA.out.grew stable_p2 (by (repeat (first | exact Grew.refl _ | refine Grew.over ?_ _ | refine Grew.alloc ?_ _ | refine Grew.drew ?_ | refine Grew.drewN ?_ _)))) rfl); rw [Hf.out]; rintro e w1 ⟨rfl, hg1⟩; have Hg1 := Lib.hid (show Grew w w1 from Grew.trans (by (repeat (first | exact Grew.refl _ | refine Grew.over ?_ _ | refine Grew.alloc ?_ _ | refine Grew.drew ?_ | refine Grew.drewN ?_ _))) hg1); obtain ⟨hb1, x0, x1, x2, x3, x4⟩ := HW.out.grew hg1; clear hg1)
      | (go_at_call 51; apply Calls.mono; (with_reducible exact named_p _ _); rw [Hnb.out]; rintro e w' ⟨rfl, rfl⟩)
      | (go_at_call 33; apply Calls.mono; (with_reducible exact isname_p _ _); rw [Hna.out]; rintro e w' ⟨rfl, rfl⟩))
    go_ret
    exact ⟨ret_int H.out.symm, Hg1.out⟩
  have Hf := Lib.hid (fmE_y Hfm.out)
  by_cases h5 : k = 5 ∧ 6 ≤ lv
  case pos =>
    have H := Lib.hid (Hr.out.symm.trans (ck_2 Hfm.out h5))
    obtain ⟨rfl, h6⟩ := h5
    go_enter Try.func39, Try.ntmps39
    go_wp2_with (first
      | (go_at_call 50; apply Calls.mono; (with_reducible exact form_p _ _ _ _ _ _ _ _ _ _ _ ats _ (HA.out.grew stable_p2 (by (repeat (first | exact Grew.refl _ | refine Grew.over ?_ _ | refine Grew.alloc ?_ _ | refine Grew.drew ?_ | refine Grew.drewN ?_ _)))) rfl); rw [Hf.out]; rintro e w1 ⟨rfl, hg1⟩; have Hg1 := Lib.hid (show Grew w w1 from Grew.trans (by (repeat (first | exact Grew.refl _ | refine Grew.over ?_ _ | refine Grew.alloc ?_ _ | refine Grew.drew ?_ | refine Grew.drewN ?_ _))) hg1); obtain ⟨hb1, x0, x1, x2, x3, x4⟩ := HW.out.grew hg1; clear hg1)
      | (go_at_call 51; apply Calls.mono; (with_reducible exact named_p _ _); rw [Hnb.out]; rintro e w' ⟨rfl, rfl⟩)
      | (go_at_call 33; apply Calls.mono; (with_reducible exact isname_p _ _); rw [Hna.out]; rintro e w' ⟨rfl, rfl⟩))
    go_ret
    exact ⟨ret_int H.out.symm, Hg1.out⟩
  have H5 := Lib.hid h5
  have h5' : (k = 5 ∧ lv < 6) ∨ (k == 5) = false := by
    by_cases h : k = 5
    · left; exact ⟨h, by omega⟩
    · right; exact beq_eq_false_iff_ne.2 h
  clear h5
  obtain ⟨nb, hnb⟩ : ∃ nb, nmB k = nb := ⟨_, rfl⟩
  have Hnb := Lib.hid hnb
  obtain ⟨na, hna⟩ : ∃ na, nameB nm = na := ⟨_, rfl⟩
  have Hna := Lib.hid hna
  clear hnb hna
  by_cases hq : nb = true ∧ na = false
  case pos =>
    obtain ⟨rfl, rfl⟩ := hq
    have H := Lib.hid (Hr.out.symm.trans (ck_3 Hfm.out H5.out Hnb.out Hna.out))
    rcases h5' with ⟨rfl, h6⟩ | h5'
    all_goals
      go_enter Try.func39, Try.ntmps39
      go_wp2_with (first
        | (go_at_call 50; apply Calls.mono; (with_reducible exact form_p _ _ _ _ _ _ _ _ _ _ _ ats _ (HA.out.grew stable_p2 (by (repeat (first | exact Grew.refl _ | refine Grew.over ?_ _ | refine Grew.alloc ?_ _ | refine Grew.drew ?_ | refine Grew.drewN ?_ _)))) rfl); rw [Hf.out]; rintro e w1 ⟨rfl, hg1⟩; have Hg1 := Lib.hid (show Grew w w1 from Grew.trans (by (repeat (first | exact Grew.refl _ | refine Grew.over ?_ _ | refine Grew.alloc ?_ _ | refine Grew.drew ?_ | refine Grew.drewN ?_ _))) hg1); obtain ⟨hb1, x0, x1, x2, x3, x4⟩ := HW.out.grew hg1; clear hg1)
        | (go_at_call 51; apply Calls.mono; (with_reducible exact named_p _ _); rw [Hnb.out]; rintro e w' ⟨rfl, rfl⟩)
        | (go_at_call 33; apply Calls.mono; (with_reducible exact isname_p _ _); rw [Hna.out]; rintro e w' ⟨rfl, rfl⟩))
      go_ret
      exact ⟨ret_int H.out.symm, Hg1.out⟩
  have Hq := Lib.hid (show nmB k = false ∨ nameB nm = true by rw [Hnb.out, Hna.out]; cases nb <;> cases na <;> simp_all)
  have hq' : nb = false ∨ (nb = true ∧ na = true) := by cases nb <;> cases na <;> simp_all
  clear hq
  have Hbad := Lib.hid (fun h => Hr.out.symm.trans (ck_4 Hfm.out H5.out Hq.out h))
  have Hok := Lib.hid (fun h => Hr.out.symm.trans (ck_5 Hfm.out H5.out Hq.out h))
  have hcmb : (k = 5 ∧ lv < 6 ∧ nb = true ∧ na = true) ∨ ((k == 5) = false ∧ nb = false) ∨ ((k == 5) = false ∧ nb = true ∧ na = true) := by
    rcases h5' with ⟨h, h6⟩ | h
    · left
      have hn : nb = true := by rw [← Hnb.out, h]; rfl
      refine ⟨h, h6, hn, ?_⟩
      rcases hq' with h' | h'
      · rw [h'] at hn; cases hn
      · exact h'.2
    · right
      exact hq'.imp (fun h' => ⟨h, h'⟩) (fun h' => ⟨h, h'⟩)
  clear h5' hq'
  rcases hcmb with ⟨rfl, h6, rfl, rfl⟩ | ⟨h5, rfl⟩ | ⟨h5, rfl, rfl⟩
  all_goals
    go_enter Try.func39, Try.ntmps39
    go_wp2_with (first
      | (go_at_call 50; apply Calls.mono; (with_reducible exact form_p _ _ _ _ _ _ _ _ _ _ _ ats _ (HA.out.grew stable_p2 (by (repeat (first | exact Grew.refl _ | refine Grew.over ?_ _ | refine Grew.alloc ?_ _ | refine Grew.drew ?_ | refine Grew.drewN ?_ _)))) rfl); rw [Hf.out]; rintro e w1 ⟨rfl, hg1⟩; have Hg1 := Lib.hid (show Grew w w1 from Grew.trans (by (repeat (first | exact Grew.refl _ | refine Grew.over ?_ _ | refine Grew.alloc ?_ _ | refine Grew.drew ?_ | refine Grew.drewN ?_ _))) hg1); obtain ⟨hb1, x0, x1, x2, x3, x4⟩ := HW.out.grew hg1; have Hg10 := Lib.hid hg1; clear hg1)
      | (go_at_call 51; apply Calls.mono; (with_reducible exact named_p _ _); rw [Hnb.out]; rintro e w' ⟨rfl, rfl⟩)
      | (go_at_call 33; apply Calls.mono; (with_reducible exact isname_p _ _); rw [Hna.out]; rintro e w' ⟨rfl, rfl⟩))
    go_loopw [32] (fun i wr => ∃ j : Nat, j ≤ rs.length ∧ i = .int .i64 j ∧ (∀ (u : Nat) x, u < j → rs[u]? = some x → badR x = false) ∧ Grew w1 wr) (fun i _ => rs.length - (intOf i).toNat)
    case atStart => exact ⟨0, Nat.zero_le _, rfl, fun u x hu => by omega, by (repeat (first | exact Grew.refl _ | refine Grew.over ?_ _ | refine Grew.alloc ?_ _ | refine Grew.drew ?_ | refine Grew.drewN ?_ _))⟩
    case round =>
      obtain ⟨j, hj, rfl, hall, hg⟩ := hrel
      have Hall := Lib.hid hall
      have Hg := Lib.hid (Hg1.out.trans hg)
      have Hg2 := Lib.hid hg
      clear hall hg
      by_cases hlt : j < rs.length
      · obtain ⟨b, o, x, y, rfl, hb', hx, -, -, d0, d1⟩ := p2_el (HR.out.grew stable_p2 Hg.out) hlt
        have hbd : Hid (badR (x, y) = true → r = 5) := Lib.hid fun h => Hbad.out (any_get hx h)
        have Hx := Lib.hid hx
        have hy0 := empty_iff y
        clear hx
        cases hnx : nameB x
        · have H := Lib.hid (hbd.out (badR_y (Or.inl hnx)))
          have Hnx := Lib.hid hnx
          clear hnx
          go_wp2_with (first
            | (go_at_call 33; apply Calls.mono; (with_reducible exact isname_e Hnx.out); rintro e w' ⟨rfl, rfl⟩)
            | (go_at_call 33; apply Calls.mono; (with_reducible exact isname_e Hny.out); rintro e w' ⟨rfl, rfl⟩))
          go_ret
          exact ⟨ret_int H.out.symm, Hg.out.trans (by (repeat (first | exact Grew.refl _ | refine Grew.over ?_ _ | refine Grew.alloc ?_ _ | refine Grew.drew ?_ | refine Grew.drewN ?_ _)))⟩
        by_cases hyz : y.size = 0
        · have H := Lib.hid (badR_n hnx (Or.inl hyz))
          have Hnx := Lib.hid hnx
          rw [decide_eq_true hyz] at hy0
          clear hnx
          go_wp2_with (first
            | (go_at_call 33; apply Calls.mono; (with_reducible exact isname_e Hnx.out); rintro e w' ⟨rfl, rfl⟩)
            | (go_at_call 33; apply Calls.mono; (with_reducible exact isname_e Hny.out); rintro e w' ⟨rfl, rfl⟩))
          go_roundw
          case rel => exact ⟨j + 1, hlt, by go_num, fun u z hu hz => (by
            rcases Nat.lt_succ_iff_lt_or_eq.1 hu with h' | h'
            · exact Hall.out u z h' hz
            · rw [h', Hx.out] at hz; cases hz; exact H.out), Hg2.out.trans (by (repeat (first | exact Grew.refl _ | refine Grew.over ?_ _ | refine Grew.alloc ?_ _ | refine Grew.drew ?_ | refine Grew.drewN ?_ _)))⟩
          case measure => simp [intOf]; omega
        rw [decide_eq_false hyz] at hy0
        cases hny : nameB y
        · have H := Lib.hid (hbd.out (badR_y (Or.inr ⟨hyz, hny⟩)))
          have Hnx := Lib.hid hnx
          have Hny := Lib.hid hny
          clear hnx hny
          go_wp2_with (first
            | (go_at_call 33; apply Calls.mono; (with_reducible exact isname_e Hnx.out); rintro e w' ⟨rfl, rfl⟩)
            | (go_at_call 33; apply Calls.mono; (with_reducible exact isname_e Hny.out); rintro e w' ⟨rfl, rfl⟩))
          go_ret
          exact ⟨ret_int H.out.symm, Hg.out.trans (by (repeat (first | exact Grew.refl _ | refine Grew.over ?_ _ | refine Grew.alloc ?_ _ | refine Grew.drew ?_ | refine Grew.drewN ?_ _)))⟩
        · have H := Lib.hid (badR_n hnx (Or.inr hny))
          have Hnx := Lib.hid hnx
          have Hny := Lib.hid hny
          clear hnx hny
          go_wp2_with (first
            | (go_at_call 33; apply Calls.mono; (with_reducible exact isname_e Hnx.out); rintro e w' ⟨rfl, rfl⟩)
            | (go_at_call 33; apply Calls.mono; (with_reducible exact isname_e Hny.out); rintro e w' ⟨rfl, rfl⟩))
          go_roundw
          case rel => exact ⟨j + 1, hlt, by go_num, fun u z hu hz => (by
            rcases Nat.lt_succ_iff_lt_or_eq.1 hu with h' | h'
            · exact Hall.out u z h' hz
            · rw [h', Hx.out] at hz; cases hz; exact H.out), Hg2.out.trans (by (repeat (first | exact Grew.refl _ | refine Grew.over ?_ _ | refine Grew.alloc ?_ _ | refine Grew.drew ?_ | refine Grew.drewN ?_ _)))⟩
          case measure => simp [intOf]; omega
      · have H := Lib.hid (Hok.out (any_not (fun u x hx => Hall.out u x (by have := (List.getElem?_eq_some_iff.1 hx).1; omega) hx)))
        obtain ⟨hb1, x0, x1, x2, x3, x4⟩ := (HW.out.grew Hg10.out).grew Hg2.out
        go_wp2_with (go_at_call 52; apply Calls.mono; (with_reducible exact attrs_p _ _ _ _ _ _ _ _ _ _ _ ats _ (HA.out.grew stable_p2 (Hg.out.trans (by (repeat (first | exact Grew.refl _ | refine Grew.over ?_ _ | refine Grew.alloc ?_ _ | refine Grew.drew ?_ | refine Grew.drewN ?_ _))))) rfl); rintro e w3 ⟨rfl, hg3⟩; have Hg3 := Lib.hid (Hg.out.trans (Grew.trans (by (repeat (first | exact Grew.refl _ | refine Grew.over ?_ _ | refine Grew.alloc ?_ _ | refine Grew.drew ?_ | refine Grew.drewN ?_ _))) hg3)); clear hg3)
        go_ret
        exact ⟨ret_int H.out.symm, Hg3.out⟩
end Go.Proofs.Ytbamckfjikpjlaa
