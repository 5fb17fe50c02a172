/- Same of the program. -/
import Derived.Test.YtcahceceeeaeoaaDoorSax
set_option linter.unusedSimpArgs false
set_option linter.unusedVariables false
namespace Go.Proofs.YtcahceceeeaeoaaDoor
open Go.RowKit
attribute [local go_sem ↓] Go.wp_at_zero Go.wp_at_succ

theorem eqAt_split {a b : List Int} {L k : Nat} (ha : a.length = L) (hb : b.length = L) (hk : k ≤ L) : eqAt a b k ↔ (a.drop k = b.take (L - k) ∧ a.take k = b.drop (L - k)) := by
  have gd : ∀ (l : List Int) (i t : Nat), ge (l.drop i) t = ge l (i + t) := fun l i t => by simp [ge, List.getElem?_drop]
  have gt : ∀ (l : List Int) (i t : Nat), t < i → ge (l.take i) t = ge l t := fun l i t h => by simp [ge, List.getElem?_take, h]
  constructor
  · intro h
    constructor
    · refine list_ext_ge (by simp; omega) fun t ht => ?_
      rw [List.length_drop] at ht
      rw [gd, gt _ _ _ (by omega), ← h t (by omega), ha, Nat.mod_eq_of_lt (by omega)]
    · refine list_ext_ge (by simp; omega) fun t ht => ?_
      rw [List.length_take] at ht
      rw [gd, gt _ _ _ (by omega), ← h (L - k + t) (by omega), ha]
      congr 1
      rw [show k + (L - k + t) = t + L by omega, Nat.add_mod_right, Nat.mod_eq_of_lt (by omega)]
  · rintro ⟨h1, h2⟩ t ht
    rw [ha] at ht ⊢
    rcases Nat.lt_or_ge t (L - k) with hl | hl
    · rw [Nat.mod_eq_of_lt (by omega), ← gd, h1, gt _ _ _ hl]
    · obtain ⟨u, rfl⟩ : ∃ u, t = L - k + u := ⟨t - (L - k), by omega⟩
      rw [show k + (L - k + u) = u + L by omega, Nat.add_mod_right, Nat.mod_eq_of_lt (by omega), ← gd, ← h2, gt _ _ _ (by omega)]
theorem eqAt_symm {a b : List Int} {L s : Nat} (ha : a.length = L) (hb : b.length = L) (hs : s < L) (h : eqAt a b s) : eqAt b a ((L - s) % L) := by
  intro t ht
  rw [hb] at ht ⊢
  have h1 := h (((L - s) % L + t) % L) (by rw [ha]; exact Nat.mod_lt _ (by omega))
  rw [ha] at h1
  rw [← h1]
  congr 1
  rw [Nat.mod_add_mod, Nat.add_mod_mod, show s + (L - s + t) = t + L by omega, Nat.add_mod_right, Nat.mod_eq_of_lt ht]
theorem cycP_symm {a b : List Int} (h : cycP a b) : cycP b a := by
  obtain ⟨hl, h | ⟨s, hs, h⟩⟩ := h
  · exact ⟨hl.symm, Or.inl (by omega)⟩
  · exact ⟨hl.symm, Or.inr ⟨(a.length - s) % a.length, by rw [← hl]; exact Nat.mod_lt _ (by omega), eqAt_symm rfl hl.symm hs h⟩⟩
theorem sameP_symm {N : Int} {E : List (Int × Int)} {A : List (List Int)} {N' : Int} {E' : List (Int × Int)} {A' : List (List Int)} (h : sameP N E A N' E' A') : sameP N' E' A' N E A :=
  ⟨h.1.symm, h.2.1.symm, h.2.2.1.symm, fun v hv => cycP_symm (h.2.2.2 v (by rw [h.2.2.1]; exact hv))⟩
theorem sameB_symm (N : Int) (E : List (Int × Int)) (A : List (List Int)) (N' : Int) (E' : List (Int × Int)) (A' : List (List Int)) : sameB N' E' A' N E A = sameB N E A N' E' A' := by
  by_cases h : sameP N E A N' E' A'
  · rw [sameB_yes h, sameB_yes (sameP_symm h)]
  · rw [sameB_no h, sameB_no (fun h2 => h (sameP_symm h2))]

/-- A matrix whose lists lie within their capacities. -/
def MatC (w : World) (p : Option Addr) (m : List (List Int)) : Prop :=
  m.length ≤ 9223372036854775807 ∧ ∃ b o, ∃ rp : Nat → Option Addr, ∃ rc : Nat → Nat, (0 < m.length → p = some ⟨b, o, none⟩ ∧ b < w.heap.size) ∧
    ∀ u, u < m.length → w.cell? ⟨b, o + u, none⟩ = some (.slice (rp u) (rowOf m u).length (rc u)) ∧ Ints w (rp u) (rowOf m u) ∧ (rowOf m u).length ≤ rc u ∧ rc u ≤ 9223372036854775807
theorem MatC.mat {w : World} {p : Option Addr} {m : List (List Int)} (h : MatC w p m) : Mat w p m := by
  obtain ⟨h1, b, o, rp, rc, h3, h4⟩ := h
  exact ⟨h1, b, o, rp, rc, h3, fun u hu => ⟨(h4 u hu).1, (h4 u hu).2.1⟩⟩
theorem MatC.grew {w w' : World} {p : Option Addr} {m : List (List Int)} (h : MatC w p m) (hg : Grew w w') : MatC w' p m := by
  obtain ⟨h1, b, o, rp, rc, h3, h4⟩ := h
  refine ⟨h1, b, o, rp, rc, fun hp => ⟨(h3 hp).1, Nat.lt_of_lt_of_le (h3 hp).2 hg.below.size⟩, fun u hu => ?_⟩
  exact ⟨hg.cellEq (h4 u hu).1, (h4 u hu).2.1.grew hg, (h4 u hu).2.2⟩
theorem MatC.rows {w : World} {p : Option Addr} {m : List (List Int)} (h : MatC w p m) (h0 : 0 < m.length) : ∃ b o, ∃ rp : Nat → Option Addr, ∃ rc : Nat → Nat, p = some ⟨b, o, none⟩ ∧ b < w.heap.size ∧
    ∀ w' : World, Grew w w' → ∀ u, u < m.length → w'.cell? ⟨b, o + u, none⟩ = some (.slice (rp u) (rowOf m u).length (rc u)) ∧ Ints w' (rp u) (rowOf m u) ∧ (rowOf m u).length ≤ rc u ∧ rc u ≤ 9223372036854775807 := by
  obtain ⟨_, b, o, rp, rc, h3, h4⟩ := h
  obtain ⟨e, hb⟩ := h3 h0
  exact ⟨b, o, rp, rc, e, hb, fun w' hg u hu => ⟨hg.cellEq (h4 u hu).1, (h4 u hu).2.1.grew hg, (h4 u hu).2.2⟩⟩

/-- A part of a list in memory. -/
theorem Ints.drop {w : World} {b o : Nat} {xs : List Int} (h : Ints w (some ⟨b, o, none⟩) xs) (k : Nat) : Ints w (some ⟨b, o + k, none⟩) (xs.drop k) := by
  obtain ⟨h1, h2, b', o', h3, h4⟩ := h
  refine ⟨by rw [List.length_drop]; omega, fun x hx => h2 x (List.mem_of_mem_drop hx), b', o' + k, fun hp => ?_, fun i hi => ?_⟩
  · rw [List.length_drop] at hp
    obtain ⟨e, hb⟩ := h3 (by omega)
    cases e
    exact ⟨rfl, hb⟩
  · rw [List.length_drop] at hi
    rw [show o' + k + i = o' + (k + i) by omega, h4 (k + i) (by omega)]
    simp [ge, List.getElem?_drop]
theorem Ints.take {w : World} {p : Option Addr} {xs : List Int} (h : Ints w p xs) (k : Nat) : Ints w p (xs.take k) := by
  obtain ⟨h1, h2, b, o, h3, h4⟩ := h
  refine ⟨by rw [List.length_take]; omega, fun x hx => h2 x (List.mem_of_mem_take hx), b, o, fun hp => h3 (by rw [List.length_take] at hp; omega), fun i hi => ?_⟩
  rw [List.length_take] at hi
  rw [h4 i (by omega)]
  have : i < k := by omega
  simp [ge, List.getElem?_take, this]
theorem Ints.none_nil {w : World} {xs : List Int} (h : Ints w none xs) : xs = [] := by
  cases xs with
  | nil => rfl
  | cons a l => obtain ⟨_, _, e, _⟩ := h.cells (by simp); cases e

set_option maxHeartbeats 2000000 in
theorem equal_i (p q : Option Addr) (n k cp cq : Nat) (a b : List Int) (w : World) (hI : Ints w p a) (hJ : Ints w q b) (hn : a.length = n) (hk : b.length = k) :
    Calls Tryd.prog 45 #[.slice p n cp, .slice q k cq] w fun e w' => e = .returned (.bool (decide (a = b))) ∧ Grew w w' := by
  subst hn hk
  have hm1 := hI.1
  by_cases hl : a.length = b.length
  case neg =>
    have Hf : Hid (decide (a = b) = false) := Lib.hid (decide_eq_false fun h => hl (by rw [h]))
    have hl' : ((a.length : Int) != (b.length : Int)) = true := by rw [bne_iff_ne]; omega
    clear hl hI hJ
    go_enter Tryd.func45, Tryd.ntmps45
    go_wp2
    go_ret
    exact ⟨by rw [Hf.out]; rfl, by (repeat (first | exact Grew.refl _ | refine Grew.over ?_ _ | refine Grew.alloc ?_ _ | refine Grew.drew ?_ | refine Grew.drewN ?_ _))⟩
  have HI := Lib.hid hI
  have HJ := Lib.hid hJ
  have Hl := Lib.hid hl
  obtain ⟨L, hL⟩ : ∃ L, a.length = L := ⟨_, rfl⟩
  have hL' : b.length = L := by omega
  have HL := Lib.hid hL
  have HL' := Lib.hid hL'
  rw [hL] at hm1
  rw [hL, hL']
  clear hl hI hJ hL hL'
  go_enter Tryd.func45, Tryd.ntmps45
  go_wp2
  go_loopw [13] (fun i wr => ∃ j : Nat, j ≤ L ∧ i = .int .i64 j ∧ (∀ t, t < j → ge a t = ge b t) ∧ Grew w wr) (fun i _ => L - (intOf i).toNat)
  case atStart => exact ⟨0, Nat.zero_le _, rfl, fun t ht => absurd ht (Nat.not_lt_zero _), Grew.refl _⟩
  case round =>
    obtain ⟨j, hj, rfl, hall, hg⟩ := hrel
    have Hall := Lib.hid hall
    have Hg := Lib.hid hg
    have hsz := hg.below.size
    clear hall hg
    by_cases hlt : j < L
    · obtain ⟨bI, oI, rfl, lI, cI⟩ := HI.out.cells (by rw [HL.out]; omega)
      obtain ⟨bJ, oJ, rfl, lJ, cJ⟩ := HJ.out.cells (by rw [HL'.out]; omega)
      have c1 := cI wr Hg.out j (by rw [HL.out]; exact hlt)
      have c2 := cJ wr Hg.out j (by rw [HL'.out]; exact hlt)
      clear cI cJ
      go_upto_region 6 with fail
      refine wp_region_over (by kernel_rfl) (by kernel_rfl) ?_; (repeat (go_big_quiet_step (fail))); refine wpQuiet_nil ?_; rintro _ ⟨x, rfl⟩
      by_cases he : ge a j = ge b j
      · have he' : (ge a j != ge b j) = false := by simp [he]
        have Hall2 : Hid (∀ t, t < j + 1 → ge a t = ge b t) := Lib.hid (fun t ht => by
          by_cases e : t = j
          · rw [e]; exact he
          · exact Hall.out t (by omega))
        clear he
        go_wp2
        go_roundw
        case rel => exact ⟨j + 1, by omega, by go_num, Hall2.out, Hg.out.trans (by (repeat (first | exact Grew.refl _ | refine Grew.over ?_ _ | refine Grew.alloc ?_ _ | refine Grew.drew ?_ | refine Grew.drewN ?_ _)))⟩
        case measure => simp [intOf]; omega
      · have he' : (ge a j != ge b j) = true := by rw [bne_iff_ne]; exact he
        have Hf : Hid (decide (a = b) = false) := Lib.hid (decide_eq_false fun h => he (by rw [h]))
        clear he
        go_wp2
        go_ret
        exact ⟨by rw [Hf.out]; rfl, Hg.out.trans (by (repeat (first | exact Grew.refl _ | refine Grew.over ?_ _ | refine Grew.alloc ?_ _ | refine Grew.drew ?_ | refine Grew.drewN ?_ _)))⟩
    · have Hf : Hid (decide (a = b) = true) := Lib.hid (decide_eq_true (list_ext_ge Hl.out fun t ht => Hall.out t (by rw [HL.out] at ht; omega)))
      go_wp2
      go_ret
      exact ⟨by rw [Hf.out]; rfl, Hg.out.trans (by (repeat (first | exact Grew.refl _ | refine Grew.over ?_ _ | refine Grew.alloc ?_ _ | refine Grew.drew ?_ | refine Grew.drewN ?_ _)))⟩

set_option maxHeartbeats 2000000 in
theorem equal_e (p q : Option Addr) (n k cp cq : Nat) (a b : List (Int × Int)) (w : World) (hI : Prs w p a) (hJ : Prs w q b) (hn : a.length = n) (hk : b.length = k) :
    Calls Tryd.prog 40 #[.slice p n cp, .slice q k cq] w fun e w' => e = .returned (.bool (decide (a = b))) ∧ Grew w w' := by
  subst hn hk
  have hm1 := hI.1
  by_cases hl : a.length = b.length
  case neg =>
    have Hf : Hid (decide (a = b) = false) := Lib.hid (decide_eq_false fun h => hl (by rw [h]))
    have hl' : ((a.length : Int) != (b.length : Int)) = true := by rw [bne_iff_ne]; omega
    clear hl hI hJ
    go_enter Tryd.func40, Tryd.ntmps40
    go_wp2
    go_ret
    exact ⟨by rw [Hf.out]; rfl, by (repeat (first | exact Grew.refl _ | refine Grew.over ?_ _ | refine Grew.alloc ?_ _ | refine Grew.drew ?_ | refine Grew.drewN ?_ _))⟩
  have HI := Lib.hid hI
  have HJ := Lib.hid hJ
  have Hl := Lib.hid hl
  obtain ⟨L, hL⟩ : ∃ L, a.length = L := ⟨_, rfl⟩
  have hL' : b.length = L := by omega
  have HL := Lib.hid hL
  have HL' := Lib.hid hL'
  rw [hL] at hm1
  rw [hL, hL']
  clear hl hI hJ hL hL'
  go_enter Tryd.func40, Tryd.ntmps40
  go_wp2
  go_loopw [13] (fun i wr => ∃ j : Nat, j ≤ L ∧ i = .int .i64 j ∧ (∀ t, t < j → pr a t = pr b t) ∧ Grew w wr) (fun i _ => L - (intOf i).toNat)
  case atStart => exact ⟨0, Nat.zero_le _, rfl, fun t ht => absurd ht (Nat.not_lt_zero _), Grew.refl _⟩
  case round =>
    obtain ⟨j, hj, rfl, hall, hg⟩ := hrel
    have Hall := Lib.hid hall
    have Hg := Lib.hid hg
    have hsz := hg.below.size
    clear hall hg
    by_cases hlt : j < L
    · obtain ⟨bI, oI, rfl, lI, cI⟩ := HI.out.cells (by rw [HL.out]; omega)
      obtain ⟨bJ, oJ, rfl, lJ, cJ⟩ := HJ.out.cells (by rw [HL'.out]; omega)
      obtain ⟨c1, c2⟩ := cI wr Hg.out j (by rw [HL.out]; exact hlt)
      obtain ⟨c3, c4⟩ := cJ wr Hg.out j (by rw [HL'.out]; exact hlt)
      obtain ⟨x1, hx1⟩ : ∃ x1, (pr a j).1 = x1 := ⟨_, rfl⟩
      obtain ⟨x2, hx2⟩ : ∃ x2, (pr a j).2 = x2 := ⟨_, rfl⟩
      obtain ⟨y1, hy1⟩ : ∃ y1, (pr b j).1 = y1 := ⟨_, rfl⟩
      obtain ⟨y2, hy2⟩ : ∃ y2, (pr b j).2 = y2 := ⟨_, rfl⟩
      rw [hx1] at c1
      rw [hx2] at c2
      rw [hy1] at c3
      rw [hy2] at c4
      clear cI cJ
      by_cases e1 : x1 = y1
      case neg =>
        have Hf : Hid (decide (a = b) = false) := Lib.hid (decide_eq_false fun h => e1 (by rw [← hx1, ← hy1, h]))
        clear hx1 hx2 hy1 hy2
        go_upto_region 6 with fail
        refine wp_region_over (by kernel_rfl) (by kernel_rfl) ?_; (repeat (go_big_quiet_step (fail))); refine wpQuiet_nil ?_; rintro _ ⟨x, rfl⟩
        go_wp2
        go_ret
        exact ⟨by rw [Hf.out]; rfl, Hg.out.trans (by (repeat (first | exact Grew.refl _ | refine Grew.over ?_ _ | refine Grew.alloc ?_ _ | refine Grew.drew ?_ | refine Grew.drewN ?_ _)))⟩
      subst e1
      by_cases e2 : x2 = y2
      case neg =>
        have Hf : Hid (decide (a = b) = false) := Lib.hid (decide_eq_false fun h => e2 (by rw [← hx2, ← hy2, h]))
        clear hx1 hx2 hy1 hy2
        go_upto_region 6 with fail
        refine wp_region_over (by kernel_rfl) (by kernel_rfl) ?_; (repeat (go_big_quiet_step (fail))); refine wpQuiet_nil ?_; rintro _ ⟨x, rfl⟩
        go_wp2
        go_ret
        exact ⟨by rw [Hf.out]; rfl, Hg.out.trans (by (repeat (first | exact Grew.refl _ | refine Grew.over ?_ _ | refine Grew.alloc ?_ _ | refine Grew.drew ?_ | refine Grew.drewN ?_ _)))⟩
      subst e2
      have Hall2 : Hid (∀ t, t < j + 1 → pr a t = pr b t) := Lib.hid (fun t ht => by
        by_cases e : t = j
        · subst e; exact Prod.ext (hx1.trans hy1.symm) (hx2.trans hy2.symm)
        · exact Hall.out t (by omega))
      clear hx1 hx2 hy1 hy2
      go_upto_region 6 with fail
      refine wp_region_over (by kernel_rfl) (by kernel_rfl) ?_; (repeat (go_big_quiet_step (fail))); refine wpQuiet_nil ?_; rintro _ ⟨x, rfl⟩
      go_wp2
      go_roundw
      case rel => exact ⟨j + 1, by omega, by go_num, Hall2.out, Hg.out.trans (by (repeat (first | exact Grew.refl _ | refine Grew.over ?_ _ | refine Grew.alloc ?_ _ | refine Grew.drew ?_ | refine Grew.drewN ?_ _)))⟩
      case measure => simp [intOf]; omega
    · have Hf : Hid (decide (a = b) = true) := Lib.hid (decide_eq_true (prs_ext Hl.out fun t ht => Hall.out t (by rw [HL.out] at ht; omega)))
      go_wp2
      go_ret
      exact ⟨by rw [Hf.out]; rfl, Hg.out.trans (by (repeat (first | exact Grew.refl _ | refine Grew.over ?_ _ | refine Grew.alloc ?_ _ | refine Grew.drew ?_ | refine Grew.drewN ?_ _)))⟩

end Go.Proofs.YtcahceceeeaeoaaDoor
