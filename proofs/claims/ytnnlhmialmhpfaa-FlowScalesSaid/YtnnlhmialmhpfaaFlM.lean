/- cycle and Optimal of the program. -/
import Derived.Test.YtnnlhmialmhpfaaFlK
import Derived.Test.YtnnlhmialmhpfaaFlL
set_option linter.unusedSimpArgs false
set_option linter.unusedVariables false
namespace Go.Proofs.Ytnnlhmialmhpfaa
open Go.RowKit
attribute [local go_sem ↓] Go.wp_at_zero Go.wp_at_succ

/-- The steps in memory. -/
def Stps (w : World) (p : Option Addr) (A : List Ark) (f : List Int) (L : List (Nat × Bool)) : Prop :=
  ∃ g, (0 < L.length → p = some ⟨g, 0, none⟩ ∧ g < w.heap.size) ∧ ∀ t i b, L[t]? = some (i, b) → w.cell? ⟨g, t * 6, none⟩ = some (.int .i64 (sF A i b : Int)) ∧ w.cell? ⟨g, t * 6 + 1, none⟩ = some (.int .i64 (sT A i b : Int)) ∧
    w.cell? ⟨g, t * 6 + 2, none⟩ = some (.int .i64 (cst A i)) ∧ w.cell? ⟨g, t * 6 + 3, none⟩ = some (.int .i64 (sR A f i b)) ∧ w.cell? ⟨g, t * 6 + 4, none⟩ = some (.int .i64 (i : Int)) ∧ w.cell? ⟨g, t * 6 + 5, none⟩ = some (.bool b)
theorem Stps.grew {w w' : World} {p : Option Addr} {A : List Ark} {f : List Int} {L : List (Nat × Bool)} (h : Stps w p A f L) (hg : Grew w w') : Stps w' p A f L := by
  obtain ⟨g, h1, h2⟩ := h
  refine ⟨g, fun h0 => ⟨(h1 h0).1, Nat.lt_of_lt_of_le (h1 h0).2 hg.below.size⟩, fun t i b ht => ?_⟩
  obtain ⟨a, b, c, d, e, f⟩ := h2 t i b ht
  exact ⟨hg.cellEq a, hg.cellEq b, hg.cellEq c, hg.cellEq d, hg.cellEq e, hg.cellEq f⟩
theorem own_stps {w : World} {B : Nat} {rs : List Row} {k : Nat} {v : Value} {A : List Ark} {f : List Int} {L : List (Nat × Bool)} (h : Owns w B rs) (hk : rs[k]? = some (stRow v A f L)) : ∃ p c, v = .slice p L.length c ∧ Stps w p A f L := by
  rcases (h.get hk).2 with ⟨g1, g2⟩ | ⟨g, cap, g1, g2, g3, g4, _, _, g6⟩
  · refine ⟨none, 0, by rw [g1, g2], 0, fun h0 => by omega, fun t i b ht => ?_⟩
    have := (List.getElem?_eq_some_iff.1 ht).1
    omega
  · refine ⟨_, cap, g1, g, fun _ => ⟨rfl, g3⟩, fun t i b ht => ?_⟩
    have key : ∀ j x, j < 6 → (st1 A f i b)[j]? = some x → w.cell? ⟨g, t * 6 + j, none⟩ = some x := fun j x hj hx => g6 (t * 6 + j) x (by rw [stVs_get A f ht j hj]; exact hx)
    exact ⟨key 0 _ (by omega) rfl, key 1 _ (by omega) rfl, key 2 _ (by omega) rfl, key 3 _ (by omega) rfl, key 4 _ (by omega) rfl, key 5 _ (by omega) rfl⟩
theorem price_e {fr te co ro ar c : Int} {b : Bool} {w : World} (h : (if b then -co else co) = c) (hc : -1000 ≤ co ∧ co ≤ 1000) :
    Calls Try.prog 32 #[.agg #[.int .i64 fr, .int .i64 te, .int .i64 co, .int .i64 ro, .int .i64 ar, .bool b]] w fun e w' => e = .returned (.int .i64 c) ∧ Grew w w' := h ▸ price_p fr te co ro ar b w hc

set_option maxHeartbeats 16000000 in
theorem cycle_p (pv : Option Addr) (nl cv V : Nat) (s : List Int) (A : List Ark) (f : List Int) (w : World) (hV : vN s A) (hS : Stps w pv A f (resL A f A.length)) (hl : (resL A f A.length).length = nl) (hn : s.length = V) :
    Calls Try.prog 26 #[.agg #[.slice pv nl cv, .func (.func 32) #[] #[]], .int .i64 V] w fun e w' => (∃ c : Bool, e = .returned (.bool c) ∧ (c = false ↔ ∃ π, Pot A f π)) ∧ Grew w w' := by
  subst hl hn
  have h256 := hV.n
  have hl4096 : (resL A f A.length).length ≤ 4096 := by have := resL_len A f A.length; have := hV.m; omega
  have HV := Lib.hid hV
  have HS := Lib.hid hS
  obtain ⟨L, hL⟩ : ∃ L, resL A f A.length = L := ⟨_, rfl⟩
  rw [hL] at HS hl4096 ⊢
  have HL := Lib.hid hL
  have hmk := make_ints s.length (by omega)
  have Hm : Hid (∀ t i b, L[t]? = some (i, b) → i < A.length) := Lib.hid (fun t i b ht => by rw [← HL.out] at ht; exact (mem_resL.1 (List.mem_of_getElem? ht)).1)
  clear hV hS hL
  go_enter Try.func26, Try.ntmps26
  go_wp2
  obtain ⟨w0, hw0⟩ : ∃ w0, ((w.alloc (.cells #[.slice pv L.length cv, .func (.func 32) #[] #[]] 44)).alloc (.cells (Array.replicate s.length (.int .i64 0)) 3)) = w0 := ⟨_, rfl⟩
  have x0 : w0.cell? ⟨w.heap.size, 0, none⟩ = some (.slice pv L.length cv) := by rw [← hw0]; simp [go_sem]
  have x1 : w0.cell? ⟨w.heap.size, 1, none⟩ = some (.func (.func 32) #[] #[]) := by rw [← hw0]; simp [go_sem]
  have hO0 : Owns w0 (w.heap.size + 1) [rI (w.heap.size + 1) s.length (List.replicate s.length 0)] := by
    rw [← hw0]
    exact own_newI (Owns.nil _ _) (by simp) s.length _ (by omega) (by simp)
  have hg0 : Grew w w0 := by rw [← hw0]; (repeat (first | exact Grew.refl _ | refine Grew.over ?_ _ | refine Grew.alloc ?_ _ | refine Grew.drew ?_ | refine Grew.drewN ?_ _))
  obtain ⟨g, hg⟩ : ∃ g, w.heap.size + 1 = g := ⟨_, rfl⟩
  rw [hg] at hO0
  have hgw : w.heap.size < g := by omega
  have HO0 := Lib.hid hO0
  have Hg0 := Lib.hid hg0
  have HC0 : Hid (CyO s.length A f L (List.replicate s.length 0) 0) := Lib.hid (CyO.begin _ _ _ _)
  have hbw : w.heap.size < w0.heap.size := by rw [← hw0]; simp; omega
  rw [hw0, hg]
  clear hw0 hO0 hg0 hg hmk
  go_loopw [13] (fun v13 wr => ∃ (k : Nat) (d : List Int), k ≤ s.length ∧ v13 = .int .i64 k ∧ CyO s.length A f L d k ∧ Owns wr g [rI g s.length d] ∧ Grew w wr ∧ w.heap.size < wr.heap.size ∧ wr.cell? ⟨w.heap.size, 0, none⟩ = some (.slice pv L.length cv) ∧ wr.cell? ⟨w.heap.size, 1, none⟩ = some (.func (.func 32) #[] #[])) (fun v13 _ => s.length - (intOf v13).toNat)
  case atStart => exact ⟨0, _, Nat.zero_le _, rfl, HC0.out, HO0.out, Hg0.out, hbw, x0, x1⟩
  case round =>
    clear HC0 HO0 Hg0 hbw x0 x1
    obtain ⟨k, d, hk, rfl, hC, hO, hg, hbw, x0, x1⟩ := hrel
    have HC := Lib.hid hC
    have HO := Lib.hid hO
    have Hg := Lib.hid hg
    clear hC hO hg
    by_cases hkV : k < s.length
    · have HS0 := Lib.hid HC.out.start
      clear HC
      go_wp2
      go_loopw [6, 18] (fun v6 v18 wr => ∃ (j : Nat) (d : List Int) (c : Bool), j ≤ L.length ∧ v18 = .int .i64 j ∧ v6 = .bool c ∧ CyS s.length A f L d k j c ∧ Owns wr g [rI g s.length d] ∧ Grew w wr ∧ w.heap.size < wr.heap.size ∧ wr.cell? ⟨w.heap.size, 0, none⟩ = some (.slice pv L.length cv) ∧ wr.cell? ⟨w.heap.size, 1, none⟩ = some (.func (.func 32) #[] #[])) (fun _ v18 _ => L.length - (intOf v18).toNat)
      case atStart => exact ⟨0, d, false, Nat.zero_le _, rfl, rfl, HS0.out, HO.out, Hg.out, hbw, x0, x1⟩
      case round =>
        clear HS0 HO Hg hbw x0 x1
        obtain ⟨j, d, c, hj, rfl, rfl, hC, hO, hg, hbw, x0, x1⟩ := hrel
        have HC := Lib.hid hC
        have HO := Lib.hid hO
        have Hg := Lib.hid hg
        clear hC hO hg
        by_cases hlt : j < L.length
        · obtain ⟨⟨i, b⟩, hib⟩ : ∃ x, L[j]? = some x := ⟨_, List.getElem?_eq_getElem hlt⟩
          have hi := Hm.out j i b hib
          have hibL := hib
          rw [← HL.out] at hibL
          obtain ⟨gS, g1, g2⟩ := HS.out.grew Hg.out
          obtain ⟨rfl, hgS⟩ := g1 (by omega)
          obtain ⟨c0, c1, c2, c3, c4, c5⟩ := g2 j i b hib
          have hu := sF_lt HV.out hi b
          have hv := sT_lt HV.out hi b
          have hcb := (HV.out.a i hi).2.2.2
          have hsc := sC_bd HV.out hi b
          have hbu := HC.out.bd _ hu
          obtain ⟨u, eu⟩ : ∃ u, sF A i b = u := ⟨_, rfl⟩
          obtain ⟨v, ev⟩ : ∃ v, sT A i b = v := ⟨_, rfl⟩
          obtain ⟨co, eco⟩ : ∃ x, cst A i = x := ⟨_, rfl⟩
          obtain ⟨sc, esc⟩ : ∃ x, sC A i b = x := ⟨_, rfl⟩
          obtain ⟨ro, ero⟩ : ∃ x, sR A f i b = x := ⟨_, rfl⟩
          have hpr : (if b then -co else co) = sc := by rw [← eco, ← esc]; rfl
          have Hpr := Lib.hid hpr
          obtain ⟨du, edu⟩ : ∃ x, ge d u = x := ⟨_, rfl⟩
          obtain ⟨dv, edv⟩ : ∃ x, ge d v = x := ⟨_, rfl⟩
          have hsame := fun h => HC.out.same hib h
          have hrel2 : ge d (sF A i b) + sC A i b < ge d (sT A i b) → CyS s.length A f L (d.set (sT A i b) (ge d (sF A i b) + sC A i b)) k (j + 1) true := fun h => by
            have h1 := HC.out
            rw [← HL.out] at h1 ⊢
            exact CyS.relax HV.out (by omega) (by omega) h1 hibL h
          rw [eu] at c0 hu hbu
          rw [ev] at c1 hv
          rw [eco] at c2 hcb
          rw [ero] at c3
          rw [esc] at hsc
          rw [eu, ev, esc, edu, edv] at hsame hrel2
          rw [edu] at hbu
          have hbu2 : -1100000000 ≤ du ∧ du ≤ 1100000000 := by omega
          obtain ⟨hbu3, hbu4⟩ := hbu2
          have hwr : IntKind.i64.wrap (du + sc) = du + sc := IntWalk.i64_in _ ⟨by omega, by omega⟩
          have Hedv := Lib.hid edv
          have Hsame := Lib.hid hsame
          have Hrel2 := Lib.hid hrel2
          have hdl := HC.out.len
          have e0 := own_atI HO.out (j := 0) rfl (i := u) hu
          have e1 := own_atI HO.out (j := 0) rfl (i := v) hv
          rw [edu] at e0
          rw [edv] at e1
          clear hsame hrel2 eu ev eco esc ero hpr edu edv hib hibL g1 g2 hbu
          go_upto_region 8 with fail
          obtain ⟨w3, hw3⟩ : ∃ w3, wr.alloc (.cells #[.int .i64 (u : Int), .int .i64 (v : Int), .int .i64 co, .int .i64 ro, .int .i64 (i : Int), .bool b] 54) = w3 := ⟨_, rfl⟩
          obtain ⟨aw, haw⟩ : ∃ aw, wr.heap.size = aw := ⟨_, rfl⟩
          have z0 : w3.cell? ⟨aw, 0, none⟩ = some (.int .i64 (u : Int)) := by rw [← hw3, ← haw]; simp [go_sem]
          have z1 : w3.cell? ⟨aw, 1, none⟩ = some (.int .i64 (v : Int)) := by rw [← hw3, ← haw]; simp [go_sem]
          have z2 : w3.cell? ⟨aw, 2, none⟩ = some (.int .i64 co) := by rw [← hw3, ← haw]; simp [go_sem]
          have z3 : w3.cell? ⟨aw, 3, none⟩ = some (.int .i64 ro) := by rw [← hw3, ← haw]; simp [go_sem]
          have z4 : w3.cell? ⟨aw, 4, none⟩ = some (.int .i64 (i : Int)) := by rw [← hw3, ← haw]; simp [go_sem]
          have z5 : w3.cell? ⟨aw, 5, none⟩ = some (.bool b) := by rw [← hw3, ← haw]; simp [go_sem]
          have hg3 : Grew wr w3 := by rw [← hw3]; (repeat (first | exact Grew.refl _ | refine Grew.over ?_ _ | refine Grew.alloc ?_ _ | refine Grew.drew ?_ | refine Grew.drewN ?_ _))
          have ha3 : aw < w3.heap.size := by rw [← hw3, ← haw]; simp
          have hga : g < aw := by rw [← haw]; exact own_lt HO.out (j := 0) rfl
          have hba : w.heap.size < aw := by rw [← haw]; exact hbw
          have HO3 := Lib.hid (HO.out.grew hg3)
          have Hg3 := Lib.hid (Hg.out.trans hg3)
          replace x0 := hg3.cellEq x0
          replace x1 := hg3.cellEq x1
          replace e0 := hg3.cellEq e0
          rw [hw3, haw]
          clear hw3 haw hg3 c0 c1 c2 c3 c4 c5 HO Hg hgS e1
          refine wp_region_over (by kernel_rfl) (by kernel_rfl) ?_; (repeat (go_big_quiet_step ((go_at_call 32; apply over_call; with_reducible exact price_e Hpr.out hcb)))); refine wpQuiet_nil ?_; intro w4 hW; replace hW : Grew _ w4 := hW
          have HO4 := Lib.hid (HO3.out.grew hW)
          have Hg4 := Lib.hid (Hg3.out.trans hW)
          replace x0 := hW.cellEq x0
          replace x1 := hW.cellEq x1
          replace z1 := hW.cellEq z1
          have ha4 := Nat.lt_of_lt_of_le ha3 hW.below.size
          clear hW z0 z2 z3 z4 z5 e0 HO3 Hg3 ha3
          have e1 := own_atI HO4.out (j := 0) rfl (i := v) hv
          rw [Hedv.out] at e1
          have b1 := own_lt HO4.out (j := 0) rfl
          have f1 := own_fr HO4.out (j := 0) rfl
          replace f1 := f1 v
          by_cases hlt2 : du + sc < dv
          · have HC5 := Lib.hid (Hrel2.out hlt2)
            have HO5 := Lib.hid (own_setI HO4.out (j := 0) rfl v (du + sc))
            have Hg5 := Lib.hid (HO4.out.setGrew (w0 := w) (Nat.le_of_lt hgw) Hg4.out (k := 0) rfl v (.int .i64 (du + sc)))
            have y0 : (w4.setCell ⟨g, v, none⟩ (.int .i64 (du + sc))).cell? ⟨w.heap.size, 0, none⟩ = some (.slice (some ⟨gS, 0, none⟩) L.length cv) := by
              rw [World.cell?_setCell_other _ _ _ _ (fun e => by have := congrArg Addr.block e; simp at this; omega)]; exact x0
            have y1 : (w4.setCell ⟨g, v, none⟩ (.int .i64 (du + sc))).cell? ⟨w.heap.size, 1, none⟩ = some (.func (.func 32) #[] #[]) := by
              rw [World.cell?_setCell_other _ _ _ _ (fun e => by have := congrArg Addr.block e; simp at this; omega)]; exact x1
            have Hy0 := Lib.hid y0
            have Hy1 := Lib.hid y1
            have hb5 : w.heap.size < (w4.setCell ⟨g, v, none⟩ (.int .i64 (du + sc))).heap.size := by simp; omega
            clear y0 y1
            go_wp2
            go_roundw
            case rel => exact ⟨j + 1, _, true, by omega, by go_num, rfl, HC5.out, HO5.out, Hg5.out, hb5, Hy0.out, Hy1.out⟩
            case measure => simp [intOf]; omega
          · have HC5 := Lib.hid (Hsame.out (by omega))
            have hb5 : w.heap.size < w4.heap.size := by omega
            go_wp2
            go_roundw
            case rel => exact ⟨j + 1, d, c, by omega, by go_num, rfl, HC5.out, HO4.out, Hg4.out, hb5, x0, x1⟩
            case measure => simp [intOf]; omega
        · have hje : j = L.length := by omega
          cases c
          · have Hp : Hid (∃ π, Pot A f π) := Lib.hid (by
              have h := HC.out
              rw [← HL.out] at h hje
              rw [hje] at h
              exact h.pot)
            go_wp2
            go_ret
            exact ⟨⟨false, rfl, fun _ => Hp.out, fun _ => rfl⟩, Hg.out⟩
          · have HC2 : Hid (CyO s.length A f L d (k + 1)) := Lib.hid (by
              have h := HC.out
              rw [hje] at h
              exact h.next hl4096)
            clear HC
            go_wp2
            go_roundw
            case rel => exact ⟨k + 1, d, by omega, by go_num, HC2.out, HO.out, Hg.out, hbw, x0, x1⟩
            case measure => simp [intOf]; omega
    · have hke : k = s.length := by omega
      subst hke
      by_cases h0 : 0 < s.length
      · have Hn := Lib.hid (HC.out.none (Nat.le_refl _) h0)
        go_wp2
        go_ret
        exact ⟨⟨true, rfl, fun h => by (cases h), fun h => absurd h Hn.out⟩, Hg.out⟩
      · have Hp := Lib.hid (pot_empty HV.out f (by omega))
        go_wp2
        go_ret
        exact ⟨⟨false, rfl, fun _ => Hp.out, fun _ => rfl⟩, Hg.out⟩
end Go.Proofs.Ytnnlhmialmhpfaa
