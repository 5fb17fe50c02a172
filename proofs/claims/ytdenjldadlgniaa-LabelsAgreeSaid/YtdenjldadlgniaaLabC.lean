/- Valid of the program and of the reference. -/
import Derived.Test.YtdenjldadlgniaaLabB
set_option linter.unusedSimpArgs false
set_option linter.unusedVariables false
namespace Go.Proofs.Ytdenjldadlgniaa
open Go.RowKit
attribute [local go_sem ↓] Go.wp_at_zero Go.wp_at_succ

/-- A row of candidates, of costs, is valid. -/
def rcB (l : List Bx) : Bool := decide (l.length ≤ 16) && !(l.any fun b => !bvB b)
def rpB (l : List Int) : Bool := decide (l.length ≤ 16) && !(l.any badP)
def cB (m : List (List Bx)) : Bool := decide (m.length ≤ 8 ∧ ∀ u, u < m.length → rcB (bRow m u) = true)
def pB (c : List (List Int)) : Bool := decide (c.length ≤ 8 ∧ ∀ u, u < c.length → rpB (rowOf c u) = true)
theorem cB_no {m : List (List Bx)} (h : ¬ (m.length ≤ 8 ∧ ∀ u, u < m.length → rcB (bRow m u) = true)) : cB m = false := decide_eq_false h
theorem pB_no {m : List (List Int)} (h : ¬ (m.length ≤ 8 ∧ ∀ u, u < m.length → rpB (rowOf m u) = true)) : pB m = false := decide_eq_false h
theorem rcB_long {l : List Bx} (h : ¬ l.length ≤ 16) : rcB l = false := by unfold rcB; rw [decide_eq_false h]; rfl
theorem rcB_any {l : List Bx} {r : Bool} (h : l.length ≤ 16) (hr : (l.any fun b => !bvB b) = r) : rcB l = !r := by unfold rcB; rw [decide_eq_true h, hr]; rfl
theorem rpB_long {l : List Int} (h : ¬ l.length ≤ 16) : rpB l = false := by unfold rpB; rw [decide_eq_false h]; rfl
theorem rpB_any {l : List Int} {r : Bool} (h : l.length ≤ 16) (hr : l.any badP = r) : rpB l = !r := by unfold rpB; rw [decide_eq_true h, hr]; rfl

set_option maxHeartbeats 4000000 in
theorem cands_p (p : Option Addr) (n cap : Nat) (m : List (List Bx)) (w : World) (hM : BMat w p m) (hn : m.length = n) :
    Calls Try.prog 22 #[.slice p n cap] w fun e w' => e = .returned (.bool (cB m)) ∧ Grew w w' := by
  subst hn
  have hml := hM.1
  by_cases h8 : m.length ≤ 8
  case neg =>
    have H := Lib.hid (cB_no (m := m) (fun h => h8 h.1))
    go_enter Try.func22, Try.ntmps22
    go_wp2; go_ret; exact ⟨ret_bool H.out.symm, by (repeat (first | exact Grew.refl _ | refine Grew.over ?_ _ | refine Grew.alloc ?_ _ | refine Grew.drew ?_ | refine Grew.drewN ?_ _))⟩
  have HM := Lib.hid hM
  clear hM
  go_enter Try.func22, Try.ntmps22
  go_wp2
  go_loopw [10] (fun i wr => ∃ u : Nat, u ≤ m.length ∧ i = .int .i64 u ∧ (∀ v, v < u → rcB (bRow m v) = true) ∧ Grew w wr) (fun i _ => m.length - (intOf i).toNat)
  case atStart => exact ⟨0, Nat.zero_le _, rfl, fun v hv => by omega, Grew.refl _⟩
  case round =>
    obtain ⟨u, hu, rfl, hall, hg⟩ := hrel
    have Hall := Lib.hid hall
    have Hg := Lib.hid hg
    clear hall hg
    by_cases hlt : u < m.length
    · obtain ⟨b, o, rp, rc, rfl, hb, c0, hR⟩ := (HM.out.grew Hg.out).row1 hlt
      have hno : Hid (rcB (bRow m u) = false → cB m = false) := Lib.hid (fun h => cB_no fun hh => by rw [hh.2 u hlt] at h; cases h)
      obtain ⟨l, hl⟩ : ∃ l, bRow m u = l := ⟨_, rfl⟩
      rw [hl] at c0 hR hno
      have Hl := Lib.hid hl
      have HR := Lib.hid hR
      have hll := hR.1
      clear hl hR
      by_cases h16 : l.length ≤ 16
      case neg =>
        have H := Lib.hid (hno.out (rcB_long h16))
        go_wp2; go_ret; exact ⟨ret_bool H.out.symm, Hg.out.trans (by (repeat (first | exact Grew.refl _ | refine Grew.over ?_ _ | refine Grew.alloc ?_ _ | refine Grew.drew ?_ | refine Grew.drewN ?_ _)))⟩
      obtain ⟨r, hr⟩ : ∃ r, (l.any fun b => !bvB b) = r := ⟨_, rfl⟩
      have Hr := Lib.hid hr
      have Hrc := Lib.hid (rcB_any h16 hr)
      clear hr
      cases r
      · go_wp2_with (go_at_call 33; apply Calls.mono; (with_reducible exact contains_cand _ _ _ l (fun b => !bvB b) _ (HR.out.grew (by (repeat (first | exact Grew.refl _ | refine Grew.over ?_ _ | refine Grew.alloc ?_ _ | refine Grew.drew ?_ | refine Grew.drewN ?_ _)))) rfl (fun a b c d W _ => cand1_p a b c d W)); rw [Hr.out]; rintro e w2 ⟨rfl, hg2⟩; have Hg2 := Lib.hid (Hg.out.trans (Grew.trans (by (repeat (first | exact Grew.refl _ | refine Grew.over ?_ _ | refine Grew.alloc ?_ _ | refine Grew.drew ?_ | refine Grew.drewN ?_ _))) hg2)); clear hg2)
        go_roundw
        case rel => exact ⟨u + 1, by omega, by go_num, fun v hv => (by
          by_cases e : v = u
          · rw [e, Hl.out, Hrc.out]; rfl
          · exact Hall.out v (by omega)), Hg2.out⟩
        case measure => simp [intOf]; omega
      · have H := Lib.hid (hno.out (by rw [Hrc.out]; rfl))
        go_wp2_with (go_at_call 33; apply Calls.mono; (with_reducible exact contains_cand _ _ _ l (fun b => !bvB b) _ (HR.out.grew (by (repeat (first | exact Grew.refl _ | refine Grew.over ?_ _ | refine Grew.alloc ?_ _ | refine Grew.drew ?_ | refine Grew.drewN ?_ _)))) rfl (fun a b c d W _ => cand1_p a b c d W)); rw [Hr.out]; rintro e w2 ⟨rfl, hg2⟩; have Hg2 := Lib.hid (Hg.out.trans (Grew.trans (by (repeat (first | exact Grew.refl _ | refine Grew.over ?_ _ | refine Grew.alloc ?_ _ | refine Grew.drew ?_ | refine Grew.drewN ?_ _))) hg2)); clear hg2)
        go_ret
        exact ⟨ret_bool H.out.symm, Hg2.out⟩
    · have H : Hid (cB m = true) := Lib.hid (decide_eq_true ⟨h8, fun v hv => Hall.out v (by omega)⟩)
      go_wp2; go_ret; exact ⟨ret_bool H.out.symm, Hg.out⟩
theorem candsp_e {p : Option Addr} {n cap : Nat} {m : List (List Bx)} {w : World} {b : Bool} (h : cB m = b) (hM : BMat w p m) (hn : m.length = n) :
    Calls Try.prog 22 #[.slice p n cap] w fun e w' => e = .returned (.bool b) ∧ Grew w w' := h ▸ cands_p p n cap m w hM hn

theorem Mat.row2 {w : World} {p : Option Addr} {m : List (List Int)} (h : Mat w p m) {u : Nat} (hu : u < m.length) : ∃ b o rp rc, p = some ⟨b, o, none⟩ ∧ b < w.heap.size ∧ w.cell? ⟨b, o + u, none⟩ = some (.slice rp (rowOf m u).length rc) ∧ Ints w rp (rowOf m u) := by
  obtain ⟨_, b, o, rp, rc, h3, h4⟩ := h
  exact ⟨b, o, rp u, rc u, (h3 (by omega)).1, (h3 (by omega)).2, (h4 u hu).1, (h4 u hu).2⟩
set_option maxHeartbeats 4000000 in
theorem priced_p (p : Option Addr) (n cap : Nat) (m : List (List Int)) (w : World) (hM : Mat w p m) (hn : m.length = n) :
    Calls Try.prog 23 #[.slice p n cap] w fun e w' => e = .returned (.bool (pB m)) ∧ w = w' := by
  subst hn
  have hml := hM.1
  by_cases h8 : m.length ≤ 8
  case neg =>
    have H := Lib.hid (pB_no (m := m) (fun h => h8 h.1))
    go_enter Try.func23, Try.ntmps23
    go_wp2; go_ret; exact ⟨ret_bool H.out.symm, rfl⟩
  have HM := Lib.hid hM
  clear hM
  go_enter Try.func23, Try.ntmps23
  go_wp2
  go_loop [10] (fun i => ∃ u : Nat, u ≤ m.length ∧ i = .int .i64 u ∧ (∀ v, v < u → rpB (rowOf m v) = true)) (fun i => m.length - (intOf i).toNat)
  case atStart => exact ⟨0, Nat.zero_le _, rfl, fun v hv => by omega⟩
  case round =>
    obtain ⟨u, hu, rfl, hall⟩ := hrel
    have Hall := Lib.hid hall
    clear hall
    by_cases hlt : u < m.length
    · obtain ⟨b, o, rp, rc, rfl, hb, c0, hR⟩ := HM.out.row2 hlt
      have hno : Hid (rpB (rowOf m u) = false → pB m = false) := Lib.hid (fun h => pB_no fun hh => by rw [hh.2 u hlt] at h; cases h)
      obtain ⟨l, hl⟩ : ∃ l, rowOf m u = l := ⟨_, rfl⟩
      rw [hl] at c0 hR hno
      have Hl := Lib.hid hl
      have HR := Lib.hid hR
      have hll := hR.1
      clear hl hR
      by_cases h16 : l.length ≤ 16
      case neg =>
        have H := Lib.hid (hno.out (rpB_long h16))
        go_wp2; go_ret; exact ⟨ret_bool H.out.symm, rfl⟩
      obtain ⟨r, hr⟩ : ∃ r, l.any badP = r := ⟨_, rfl⟩
      have Hr := Lib.hid hr
      have Hrc := Lib.hid (rpB_any h16 hr)
      clear hr
      cases r
      · go_wp2_with (go_at_call 45; apply Calls.mono; (with_reducible exact contains_pri _ _ _ l badP _ HR.out rfl (fun c => priced1_p c _)); rw [Hr.out]; rintro e w2 ⟨rfl, rfl⟩)
        go_round
        case rel => exact ⟨u + 1, by omega, by go_num, fun v hv => (by
          by_cases e : v = u
          · rw [e, Hl.out, Hrc.out]; rfl
          · exact Hall.out v (by omega))⟩
        case measure => simp [intOf]; omega
      · have H := Lib.hid (hno.out (by rw [Hrc.out]; rfl))
        go_wp2_with (go_at_call 45; apply Calls.mono; (with_reducible exact contains_pri _ _ _ l badP _ HR.out rfl (fun c => priced1_p c _)); rw [Hr.out]; rintro e w2 ⟨rfl, rfl⟩)
        go_ret
        exact ⟨ret_bool H.out.symm, rfl⟩
    · have H : Hid (pB m = true) := Lib.hid (decide_eq_true ⟨h8, fun v hv => Hall.out v (by omega)⟩)
      go_wp2; go_ret; exact ⟨ret_bool H.out.symm, rfl⟩
theorem pricedp_e {p : Option Addr} {n cap : Nat} {m : List (List Int)} {w : World} {b : Bool} (h : pB m = b) (hM : Mat w p m) (hn : m.length = n) :
    Calls Try.prog 23 #[.slice p n cap] w fun e w' => e = .returned (.bool b) ∧ w = w' := h ▸ priced_p p n cap m w hM hn

set_option maxHeartbeats 4000000 in
theorem boxes_r (p : Option Addr) (n cap : Nat) (m : List (List Bx)) (w : World) (hM : BMat w p m) (hn : m.length = n) :
    Calls Try.prog 26 #[.slice p n cap] w fun e w' => e = .returned (.bool (cB m)) ∧ Grew w w' := by
  subst hn
  have hml := hM.1
  by_cases h8 : m.length ≤ 8
  case neg =>
    have H := Lib.hid (cB_no (m := m) (fun h => h8 h.1))
    go_enter Try.func26, Try.ntmps26
    go_wp2; go_ret; exact ⟨ret_bool H.out.symm, by (repeat (first | exact Grew.refl _ | refine Grew.over ?_ _ | refine Grew.alloc ?_ _ | refine Grew.drew ?_ | refine Grew.drewN ?_ _))⟩
  have HM := Lib.hid hM
  clear hM
  go_enter Try.func26, Try.ntmps26
  go_wp2
  go_loopw [3] (fun i wr => ∃ u : Nat, u ≤ m.length ∧ i = .int .i64 u ∧ (∀ v, v < u → rcB (bRow m v) = true) ∧ Grew w wr) (fun i _ => m.length - (intOf i).toNat)
  case atStart => exact ⟨0, Nat.zero_le _, rfl, fun v hv => by omega, Grew.refl _⟩
  case round =>
    obtain ⟨u, hu, rfl, hall, hg⟩ := hrel
    have Hall := Lib.hid hall
    have Hg := Lib.hid hg
    clear hall hg
    by_cases hlt : u < m.length
    · obtain ⟨b, o, rp, rc, rfl, hb, c0, hR⟩ := HM.out.row1 hlt
      have hno : Hid (rcB (bRow m u) = false → cB m = false) := Lib.hid (fun h => cB_no fun hh => by rw [hh.2 u hlt] at h; cases h)
      obtain ⟨l, hl⟩ : ∃ l, bRow m u = l := ⟨_, rfl⟩
      rw [hl] at c0 hR hno
      have Hl := Lib.hid hl
      have HR := Lib.hid hR
      have hll := hR.1
      have Hc0 := Lib.hid c0
      have Hb := Lib.hid hb
      replace c0 := Hg.out.cellEq c0
      replace hb := Nat.lt_of_lt_of_le hb Hg.out.below.size
      clear hl hR
      by_cases h16 : l.length ≤ 16
      case neg =>
        have H := Lib.hid (hno.out (rcB_long h16))
        go_wp2; go_ret; exact ⟨ret_bool H.out.symm, Hg.out.trans (by (repeat (first | exact Grew.refl _ | refine Grew.over ?_ _ | refine Grew.alloc ?_ _ | refine Grew.drew ?_ | refine Grew.drewN ?_ _)))⟩
      go_wp2
      clear c0 hb
      go_loopw [4] (fun i wr => ∃ k : Nat, k ≤ l.length ∧ i = .int .i64 k ∧ (∀ j, j < k → (!bvB (bK l j)) = false) ∧ Grew w wr) (fun i _ => l.length - (intOf i).toNat)
      case atStart => exact ⟨0, Nat.zero_le _, rfl, fun v hv => by omega, Hg.out⟩
      case round =>
        clear Hg
        obtain ⟨k, hk, rfl, hin, hg⟩ := hrel
        have Hin := Lib.hid hin
        have Hg := Lib.hid hg
        have c0 := hg.cellEq Hc0.out
        have hb := Nat.lt_of_lt_of_le Hb.out hg.below.size
        clear hin hg
        by_cases hlk : k < l.length
        · obtain ⟨_, bb, oo, h3, h4⟩ := HR.out.grew Hg.out
          obtain ⟨rfl, hbb⟩ := h3 (by omega)
          obtain ⟨c1, c2, c3, c4⟩ := h4 k hlk
          obtain ⟨⟨xa, xb, xc, xd⟩, hx⟩ : ∃ x, bK l k = x := ⟨_, rfl⟩
          rw [hx] at c1 c2 c3 c4
          dsimp only at c1 c2 c3 c4
          have Hx := Lib.hid hx
          clear h3 h4 hx
          cases he : bvB ⟨xa, xb, xc, xd⟩
          · have He := Lib.hid he
            have H := Lib.hid (hno.out (by rw [rcB_any h16 (any_bK.2 ⟨k, hlk, by rw [Hx.out, he]; rfl⟩)]; rfl))
            go_wp2_with (go_at_call 41; apply Calls.mono; (with_reducible exact box_r_e He.out); rintro e w' ⟨rfl, x, rfl⟩)
            go_ret
            exact ⟨ret_bool H.out.symm, Hg.out.trans (by (repeat (first | exact Grew.refl _ | refine Grew.over ?_ _ | refine Grew.alloc ?_ _ | refine Grew.drew ?_ | refine Grew.drewN ?_ _)))⟩
          · have He := Lib.hid he
            go_wp2_with (go_at_call 41; apply Calls.mono; (with_reducible exact box_r_e He.out); rintro e w' ⟨rfl, x, rfl⟩)
            go_roundw
            case rel => exact ⟨k + 1, by omega, by go_num, fun j hj => (by
              by_cases e : j = k
              · rw [e, Hx.out, He.out]; rfl
              · exact Hin.out j (by omega)), Hg.out.trans (by (repeat (first | exact Grew.refl _ | refine Grew.over ?_ _ | refine Grew.alloc ?_ _ | refine Grew.drew ?_ | refine Grew.drewN ?_ _)))⟩
            case measure => simp [intOf]; omega
        · have Hrow : Hid (rcB l = true) := Lib.hid (by rw [rcB_any h16 (any_none fun j hj => Hin.out j (by omega))]; rfl)
          go_wp2
          go_roundw
          case rel => exact ⟨u + 1, by omega, by go_num, fun v hv => (by
            by_cases e : v = u
            · rw [e, Hl.out]; exact Hrow.out
            · exact Hall.out v (by omega)), Hg.out⟩
          case measure => simp [intOf]; omega
    · have H : Hid (cB m = true) := Lib.hid (decide_eq_true ⟨h8, fun v hv => Hall.out v (by omega)⟩)
      go_wp2; go_ret; exact ⟨ret_bool H.out.symm, Hg.out⟩
theorem boxesr_e {p : Option Addr} {n cap : Nat} {m : List (List Bx)} {w : World} {b : Bool} (h : cB m = b) (hM : BMat w p m) (hn : m.length = n) :
    Calls Try.prog 26 #[.slice p n cap] w fun e w' => e = .returned (.bool b) ∧ Grew w w' := h ▸ boxes_r p n cap m w hM hn

theorem anyI {l : List Int} {pr : Int → Bool} : l.any pr = true ↔ ∃ k, k < l.length ∧ pr (ge l k) = true := by
  rw [List.any_eq_true]
  constructor
  · rintro ⟨b, hb, h⟩
    obtain ⟨k, hk, rfl⟩ := List.getElem_of_mem hb
    exact ⟨k, hk, by rw [ge_eq l hk]; exact h⟩
  · rintro ⟨k, hk, h⟩
    rw [ge_eq l hk] at h
    exact ⟨_, List.getElem_mem hk, h⟩
theorem anyI_none {l : List Int} {pr : Int → Bool} (h : ∀ k, k < l.length → pr (ge l k) = false) : l.any pr = false := by
  rw [← Bool.not_eq_true, anyI]
  rintro ⟨k, hk, h2⟩
  rw [h k hk] at h2
  cases h2
set_option maxHeartbeats 4000000 in
theorem numbers_r (p : Option Addr) (n cap : Nat) (m : List (List Int)) (w : World) (hM : Mat w p m) (hn : m.length = n) :
    Calls Try.prog 27 #[.slice p n cap] w fun e w' => e = .returned (.bool (pB m)) ∧ w = w' := by
  subst hn
  have hml := hM.1
  by_cases h8 : m.length ≤ 8
  case neg =>
    have H := Lib.hid (pB_no (m := m) (fun h => h8 h.1))
    go_enter Try.func27, Try.ntmps27
    go_wp2; go_ret; exact ⟨ret_bool H.out.symm, rfl⟩
  have HM := Lib.hid hM
  clear hM
  go_enter Try.func27, Try.ntmps27
  go_wp2
  go_loop [3] (fun i => ∃ u : Nat, u ≤ m.length ∧ i = .int .i64 u ∧ (∀ v, v < u → rpB (rowOf m v) = true)) (fun i => m.length - (intOf i).toNat)
  case atStart => exact ⟨0, Nat.zero_le _, rfl, fun v hv => by omega⟩
  case round =>
    obtain ⟨u, hu, rfl, hall⟩ := hrel
    have Hall := Lib.hid hall
    clear hall
    by_cases hlt : u < m.length
    · obtain ⟨b, o, rp, rc, rfl, hb, c0, hR⟩ := HM.out.row2 hlt
      have hno : Hid (rpB (rowOf m u) = false → pB m = false) := Lib.hid (fun h => pB_no fun hh => by rw [hh.2 u hlt] at h; cases h)
      obtain ⟨l, hl⟩ : ∃ l, rowOf m u = l := ⟨_, rfl⟩
      rw [hl] at c0 hR hno
      have Hl := Lib.hid hl
      have HR := Lib.hid hR
      have hll := hR.1
      clear hl hR
      by_cases h16 : l.length ≤ 16
      case neg =>
        have H := Lib.hid (hno.out (rpB_long h16))
        go_wp2; go_ret; exact ⟨ret_bool H.out.symm, rfl⟩
      go_wp2
      go_loop [4] (fun i => ∃ k : Nat, k ≤ l.length ∧ i = .int .i64 k ∧ (∀ j, j < k → badP (ge l j) = false)) (fun i => l.length - (intOf i).toNat)
      case atStart => exact ⟨0, Nat.zero_le _, rfl, fun v hv => by omega⟩
      case round =>
        obtain ⟨k, hk, rfl, hin⟩ := hrel
        have Hin := Lib.hid hin
        clear hin
        by_cases hlk : k < l.length
        · obtain ⟨bb, oo, h3, h4⟩ := HR.out.open
          obtain ⟨rfl, hbb⟩ := h3 (by omega)
          have c1 := h4 k hlk
          obtain ⟨x, hx⟩ : ∃ x, ge l k = x := ⟨_, rfl⟩
          rw [hx] at c1
          have Hx := Lib.hid hx
          clear h3 h4 hx
          have hbad : Hid (badP x = true → pB m = false) := Lib.hid (fun h => hno.out (by rw [rpB_any h16 (anyI.2 ⟨k, hlk, by rw [Hx.out]; exact h⟩)]; rfl))
          by_cases e1 : x < 0
          · have H := Lib.hid (hbad.out (decide_eq_true (Or.inl e1)))
            go_wp2; go_ret; exact ⟨ret_bool H.out.symm, rfl⟩
          by_cases e2 : 1000000 < x
          · have H := Lib.hid (hbad.out (decide_eq_true (Or.inr e2)))
            go_wp2; go_ret; exact ⟨ret_bool H.out.symm, rfl⟩
          have Hok : Hid (badP x = false) := Lib.hid (decide_eq_false (by omega))
          go_wp2
          go_round
          case rel => exact ⟨k + 1, by omega, by go_num, fun j hj => (by
            by_cases e : j = k
            · rw [e, Hx.out]; exact Hok.out
            · exact Hin.out j (by omega))⟩
          case measure => simp [intOf]; omega
        · have Hrow : Hid (rpB l = true) := Lib.hid (by rw [rpB_any h16 (anyI_none fun j hj => Hin.out j (by omega))]; rfl)
          go_wp2
          go_round
          case rel => exact ⟨u + 1, by omega, by go_num, fun v hv => (by
            by_cases e : v = u
            · rw [e, Hl.out]; exact Hrow.out
            · exact Hall.out v (by omega))⟩
          case measure => simp [intOf]; omega
    · have H : Hid (pB m = true) := Lib.hid (decide_eq_true ⟨h8, fun v hv => Hall.out v (by omega)⟩)
      go_wp2; go_ret; exact ⟨ret_bool H.out.symm, rfl⟩
theorem numbersr_e {p : Option Addr} {n cap : Nat} {m : List (List Int)} {w : World} {b : Bool} (h : pB m = b) (hM : Mat w p m) (hn : m.length = n) :
    Calls Try.prog 27 #[.slice p n cap] w fun e w' => e = .returned (.bool b) ∧ w = w' := h ▸ numbers_r p n cap m w hM hn
end Go.Proofs.Ytdenjldadlgniaa
