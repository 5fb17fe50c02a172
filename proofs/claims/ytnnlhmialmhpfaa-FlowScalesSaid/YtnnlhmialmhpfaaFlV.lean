/- The search of the reference. -/
import Derived.Test.YtnnlhmialmhpfaaFlT
set_option linter.unusedSimpArgs false
set_option linter.unusedVariables false
namespace Go.Proofs.Ytnnlhmialmhpfaa
open Go.RowKit
attribute [local go_sem ↓] Go.wp_at_zero Go.wp_at_succ

abbrev farR : Int := 1125899906842624
/-- The loop that begins the search. -/
structure Dr (V : Nat) (d pr : List Int) (v : Nat) : Prop where
  dl : d.length = V
  pl : pr.length = V
  dv : ∀ u, u < V → u < v → ge d u = farR
  pv : ∀ u, u < V → u < v → ge pr u = -1
theorem Dr.begin (V : Nat) : Dr V (List.replicate V 0) (List.replicate V 0) 0 :=
  ⟨by simp, by simp, fun u _ h => by omega, fun u _ h => by omega⟩
theorem Dr.next {V : Nat} {d pr : List Int} {v : Nat} (h : Dr V d pr v) (hv : v < V) : Dr V (d.set v farR) (pr.set v (-1)) (v + 1) := by
  refine ⟨by rw [List.length_set]; exact h.dl, by rw [List.length_set]; exact h.pl, fun u hu huv => ?_, fun u hu huv => ?_⟩
  · rw [ge_set d (by rw [h.dl]; exact hv)]
    split
    · rfl
    · exact h.dv u hu (by omega)
  · rw [ge_set pr (by rw [h.pl]; exact hv)]
    split
    · rfl
    · exact h.pv u hu (by omega)
theorem Dr.done {V : Nat} {d pr : List Int} (h : Dr V d pr V) {a : Nat} (ha : a < V) (A : List Ark) (L : List (Nat × Bool)) (π : Nat → Int) : ∃ ch, Se V farR (fun v => v = a) A L π (d.set a 0) pr ch :=
  ⟨_, Se.begin (by decide) (by rw [List.length_set]; exact h.dl) h.pl (fun v hv => ⟨fun hs => by rw [ge_set d (by rw [h.dl]; exact ha), if_pos hs], fun hs => by rw [ge_set d (by rw [h.dl]; exact ha), if_neg hs]; exact h.dv v hv hv⟩) (fun v hv => h.pv v hv hv)⟩

set_option maxRecDepth 8000 in
set_option maxHeartbeats 16000000 in
theorem paths_r (pv : Option Addr) (nl cv V a : Nat) (s : List Int) (A : List Ark) (f : List Int) (π : Nat → Int) (w : World) (hV : vN s A) (hp : Pot A f π) (hS : StpR w pv A f (resL A f A.length)) (hl : (resL A f A.length).length = nl) (hn : s.length = V) (ha : a < V) :
    Calls Try.prog 36 #[.slice pv nl cv, .int .i64 V, .int .i64 a] w fun e w' => Grew w w' ∧ ∃ g6 g7 d pr, e = .returned (.tuple #[.slice (some ⟨g6, 0, none⟩) V V, .slice (some ⟨g7, 0, none⟩) V V]) ∧
      Owns w' w.heap.size [rI g6 V d, rI g7 V pr] ∧ OutS V farR (fun v => v = a) A (resL A f A.length) π d pr := by
  subst hl hn
  have h256 := hV.n
  have hl4096 : (resL A f A.length).length ≤ 4096 := by have := resL_len A f A.length; have := hV.m; omega
  have HV := Lib.hid hV
  have HP := Lib.hid hp
  have HS := Lib.hid hS
  obtain ⟨L, hL⟩ : ∃ L, resL A f A.length = L := ⟨_, rfl⟩
  rw [hL] at HS hl4096 ⊢
  have HL := Lib.hid hL
  have hmk := make_ints s.length (by omega)
  have Hm : Hid (∀ (t i : Nat) (b : Bool), L[t]? = some (i, b) → i < A.length) := Lib.hid (fun t i b ht => by rw [← HL.out] at ht; exact (mem_resL.1 (List.mem_of_getElem? ht)).1)
  clear hV hp hS hL
  go_enter Try.func36, Try.ntmps36
  go_upto_region 3 with fail
  obtain ⟨wz, hwz⟩ : ∃ wz, (w.alloc (.cells (Array.replicate s.length (.int .i64 0)) 3)).alloc (.cells (Array.replicate s.length (.int .i64 0)) 3) = wz := ⟨_, rfl⟩
  obtain ⟨g6, hg6⟩ : ∃ g6, w.heap.size = g6 := ⟨_, rfl⟩
  obtain ⟨g7, hg7⟩ : ∃ g7, w.heap.size + 1 = g7 := ⟨_, rfl⟩
  have HO0 : Hid (Owns wz w.heap.size [rI g6 s.length (List.replicate s.length 0), rI g7 s.length (List.replicate s.length 0)]) := Lib.hid (by rw [← hwz, ← hg6, ← hg7]; exact (own_two (Nat.le_refl _) s.length s.length (by omega) (by omega)).1)
  have Hg0 : Hid (Grew w wz) := Lib.hid (by rw [← hwz]; (repeat (first | exact Grew.refl _ | refine Grew.over ?_ _ | refine Grew.alloc ?_ _ | refine Grew.drew ?_ | refine Grew.drewN ?_ _)))
  have n67 : g6 ≠ g7 := by omega
  have n76 : g7 ≠ g6 := by omega
  have HB6 : Hid (w.heap.size ≤ g6) := Lib.hid (by omega)
  have HB7 : Hid (w.heap.size ≤ g7) := Lib.hid (by omega)
  rw [hwz]
  try rw [hg7]
  try rw [hg6]
  clear hwz hmk hg6 hg7
  go_wp2
  go_loopw [10] (fun v10 wr => ∃ (v : Nat) (d pr : List Int), v ≤ s.length ∧ v10 = .int .i64 v ∧ Dr s.length d pr v ∧ Owns wr w.heap.size [rI g6 s.length d, rI g7 s.length pr] ∧ Grew w wr) (fun v10 _ => s.length - (intOf v10).toNat)
  case atStart => exact ⟨0, _, _, Nat.zero_le _, rfl, Dr.begin _, HO0.out, Hg0.out⟩
  case round =>
    clear HO0 Hg0
    obtain ⟨v, d, pr, hv, rfl, hD, hO, hg⟩ := hrel
    have HD := Lib.hid hD
    have HO := Lib.hid hO
    have Hg := Lib.hid hg
    clear hD hO hg
    by_cases hlt : v < s.length
    · have HD2 := Lib.hid (HD.out.next hlt)
      have b6 := own_lt HO.out (j := 0) rfl
      have f6 := own_fr HO.out (j := 0) rfl
      replace f6 := f6 v
      have e6 := own_atI HO.out (j := 0) rfl (i := v) hlt
      have HO2 := Lib.hid (own_setI HO.out (j := 0) rfl v farR)
      have Hg2 := Lib.hid (HO.out.setGrew (w0 := w) (Nat.le_refl _) Hg.out (k := 0) rfl v (.int .i64 farR))
      go_upto_region 7 with fail
      obtain ⟨w2, hw2⟩ : ∃ w2, wr.setCell ⟨g6, v, none⟩ (.int .i64 farR) = w2 := ⟨_, rfl⟩
      have HO3 : Hid (Owns w2 w.heap.size [rI g6 s.length (d.set v farR), rI g7 s.length pr]) := Lib.hid (by rw [← hw2]; exact HO2.out)
      have Hg3 : Hid (Grew w w2) := Lib.hid (by rw [← hw2]; exact Hg2.out)
      rw [hw2]
      clear hw2 HO2 Hg2 HO Hg b6 f6 e6
      have e7 := own_atI HO3.out (j := 1) rfl (i := v) hlt
      have b7 := own_lt HO3.out (j := 1) rfl
      have f7 := own_fr HO3.out (j := 1) rfl
      replace f7 := f7 v
      have HO4 := Lib.hid (own_setI HO3.out (j := 1) rfl v (-1))
      have Hg4 := Lib.hid (HO3.out.setGrew (w0 := w) (Nat.le_refl _) Hg3.out (k := 1) rfl v (.int .i64 (-1)))
      go_wp2
      go_roundw
      case rel => exact ⟨v + 1, _, _, by omega, by go_num, HD2.out, HO4.out, Hg4.out⟩
      case measure => simp [intOf]; omega
    · have hve : v = s.length := by omega
      subst hve
      obtain ⟨ch0, hch0⟩ := HD.out.done ha A L π
      have HH0 : Hid (HdS s.length farR (fun v => v = a) A L π (d.set a 0) pr true (mea s.length (d.set a 0) + 1)) := Lib.hid (Or.inl ⟨rfl, ⟨ch0, hch0⟩, Nat.le_refl _⟩)
      clear HD hch0
      have b6 := own_lt HO.out (j := 0) rfl
      have f6 := own_fr HO.out (j := 0) rfl
      replace f6 := f6 a
      have e6 := own_atI HO.out (j := 0) rfl (i := a) ha
      have HO2 := Lib.hid (own_setI HO.out (j := 0) rfl a 0)
      have Hg2 := Lib.hid (HO.out.setGrew (w0 := w) (Nat.le_refl _) Hg.out (k := 0) rfl a (.int .i64 0))
      go_upto_region 9 with fail
      obtain ⟨w2, hw2⟩ : ∃ w2, wr.setCell ⟨g6, a, none⟩ (.int .i64 0) = w2 := ⟨_, rfl⟩
      have HO3 : Hid (Owns w2 w.heap.size [rI g6 s.length (d.set a 0), rI g7 s.length pr]) := Lib.hid (by rw [← hw2]; exact HO2.out)
      have Hg3 : Hid (Grew w w2) := Lib.hid (by rw [← hw2]; exact Hg2.out)
      rw [hw2]
      clear hw2 HO2 Hg2 HO Hg b6 f6 e6
      obtain ⟨d0, hd0⟩ : ∃ d0, d.set a 0 = d0 := ⟨_, rfl⟩
      rw [hd0] at HO3 HH0
      clear hd0
      go_wp2
      go_loopg [11] (mea s.length d0 + 1) (fun gk v11 wr => ∃ (more : Bool) (d pr : List Int), v11 = .bool more ∧ HdS s.length farR (fun v => v = a) A L π d pr more gk ∧ Owns wr w.heap.size [rI g6 s.length d, rI g7 s.length pr] ∧ Grew w wr)
      case atStart => exact ⟨true, d0, pr, rfl, HH0.out, HO3.out, Hg3.out⟩
      case round =>
        clear HH0 HO3 Hg3
        obtain ⟨more, d, pr, rfl, hH, hO, hg⟩ := hrel
        have HO := Lib.hid hO
        have Hg := Lib.hid hg
        clear hO hg
        cases more
        · have HH := Lib.hid hH.out
          clear hH
          go_wp2
          go_ret2
          exact ⟨Hg.out, g6, g7, d, pr, rfl, HO.out, HH.out⟩
        · obtain ⟨hI, hM⟩ := hH.start
          have HI := Lib.hid hI
          have HM := Lib.hid hM
          clear hI hM hH
          obtain ⟨M, hMe⟩ : ∃ M, mea s.length d = M := ⟨_, rfl⟩
          rw [hMe] at HI HM
          clear hMe
          go_wp2
          go_loopw [11, 12] (fun v11 v12 wr => ∃ (j : Nat) (d pr : List Int) (c : Bool), j ≤ L.length ∧ v12 = .int .i64 j ∧ v11 = .bool c ∧ InS s.length farR (fun v => v = a) A L π d pr j c M ∧ Owns wr w.heap.size [rI g6 s.length d, rI g7 s.length pr] ∧ Grew w wr) (fun _ v12 _ => L.length - (intOf v12).toNat)
          case atStart => exact ⟨0, d, pr, false, Nat.zero_le _, rfl, rfl, HI.out, HO.out, Hg.out⟩
          case round =>
            clear HI HO Hg
            obtain ⟨j, d, pr, c, hj, rfl, rfl, hI, hO, hg⟩ := hrel
            have HI := Lib.hid hI
            have HO := Lib.hid hO
            have Hg := Lib.hid hg
            clear hI hO hg
            by_cases hlt : j < L.length
            · obtain ⟨⟨i, b⟩, hib⟩ : ∃ x, L[j]? = some x := ⟨_, List.getElem?_eq_getElem hlt⟩
              have hi := Hm.out j i b hib
              have hibL := hib
              rw [← HL.out] at hibL
              obtain ⟨gS, g1, g2⟩ := HS.out
              obtain ⟨rfl, hgS0⟩ := g1 (by omega)
              have hgS := Nat.lt_of_lt_of_le hgS0 Hg.out.below.size
              have n6S : gS ≠ g6 := by have := HB6.out; omega
              have n7S : gS ≠ g7 := by have := HB7.out; omega
              have nS6 : g6 ≠ gS := Ne.symm n6S
              have nS7 : g7 ≠ gS := Ne.symm n7S
              obtain ⟨_, _, c2, c3, c4, _⟩ := g2 j i b hib
              replace c2 := Hg.out.cellEq c2
              replace c3 := Hg.out.cellEq c3
              replace c4 := Hg.out.cellEq c4
              have hu := sF_lt HV.out hi b
              have hv := sT_lt HV.out hi b
              have hsc := sC_bd HV.out hi b
              have hbu := HI.out.lo h256 (by decide) hu
              obtain ⟨u, eu⟩ : ∃ u, sF A i b = u := ⟨_, rfl⟩
              obtain ⟨v, ev⟩ : ∃ v, sT A i b = v := ⟨_, rfl⟩
              obtain ⟨sc, esc⟩ : ∃ x, sC A i b = x := ⟨_, rfl⟩
              obtain ⟨du, edu⟩ : ∃ x, ge d u = x := ⟨_, rfl⟩
              obtain ⟨dv, edv⟩ : ∃ x, ge d v = x := ⟨_, rfl⟩
              have hbv := HI.out.lo h256 (by decide) hv
              have hsame := fun h => HI.out.same hib h
              have hrel2 := fun (h1 : ge d (sF A i b) ≠ farR) (h2 : ge d (sF A i b) + sC A i b < ge d (sT A i b)) => (by
                have h := HI.out
                rw [← HL.out] at h
                have := h.relax HV.out HP.out (by decide) hibL h1 h2
                rw [HL.out] at this
                exact this : InS s.length farR (fun v => v = a) A L π (d.set (sT A i b) (ge d (sF A i b) + sC A i b)) (pr.set (sT A i b) (j : Int)) (j + 1) true M)
              rw [eu] at c2 hu hbu
              rw [ev] at c3 hv hbv
              rw [esc] at hsc c4
              rw [eu, ev, esc, edu, edv] at hsame hrel2
              rw [edu] at hbu
              rw [edv] at hbv
              have Hsame := Lib.hid hsame
              have Hrel2 := Lib.hid hrel2
              have Hbv := Lib.hid hbv
              have e0 := own_atI HO.out (j := 0) rfl (i := u) hu
              have e1 := own_atI HO.out (j := 0) rfl (i := v) hv
              rw [edu] at e0
              rw [edv] at e1
              have b1 := own_lt HO.out (j := 0) rfl
              have f1 := own_fr HO.out (j := 0) rfl
              replace f1 := f1 v
              clear hsame hrel2 eu ev esc edu edv hib hibL g1 g2 hbv hgS0
              go_upto_region 15 with fail
              by_cases hfa : du = farR
              · subst hfa
                have HI2 := Lib.hid (Hsame.out (Or.inl rfl))
                refine wp_region_over (by kernel_rfl) (by kernel_rfl) ?_; (repeat (go_big_quiet_step (fail))); refine wpQuiet_nil ?_; intro w3 hW; replace hW : Grew _ w3 := hW
                have HO3 := Lib.hid (HO.out.grew hW)
                have Hg3 := Lib.hid (Hg.out.trans hW)
                clear hW
                go_wp2
                go_roundw
                case rel => exact ⟨j + 1, d, pr, c, by omega, by go_num, rfl, HI2.out, HO3.out, Hg3.out⟩
                case measure => simp [intOf]; omega
              obtain ⟨hb1, hb2⟩ := hbu.resolve_left hfa
              have hq2 : Hid (¬ du = farR) := Lib.hid hfa
              have hdu : du < 1125899906842624 := by omega
              have hwr : IntKind.i64.wrap (du + sc) = du + sc := IntWalk.i64_in _ ⟨by omega, by omega⟩
              clear hbu hfa
              refine wp_region_over (by kernel_rfl) (by kernel_rfl) ?_; (repeat (go_big_quiet_step (fail))); refine wpQuiet_nil ?_; intro w3 hW; replace hW : Grew _ w3 := hW
              have HO3 := Lib.hid (HO.out.grew hW)
              have Hg3 := Lib.hid (Hg.out.trans hW)
              replace e0 := hW.cellEq e0
              replace c2 := hW.cellEq c2
              replace c3 := hW.cellEq c3
              replace c4 := hW.cellEq c4
              replace f1 := hW.frozenEq b1 f1
              replace e1 := hW.cellEq e1
              have b3 := Nat.lt_of_lt_of_le b1 hW.below.size
              have hgS3 := Nat.lt_of_lt_of_le hgS hW.below.size
              clear hW HO Hg b1 hgS
              by_cases hlt2 : du + sc < dv
              · have HI5 := Lib.hid (Hrel2.out hq2.out hlt2)
                have HO5 := Lib.hid (own_setI HO3.out (j := 0) rfl v (du + sc))
                have Hg5 := Lib.hid (HO3.out.setGrew (w0 := w) (Nat.le_refl _) Hg3.out (k := 0) rfl v (.int .i64 (du + sc)))
                go_upto_region 16 with fail
                refine wp_region_lex (One 21 (fun b => if b then w3.setCell ⟨g6, v, none⟩ (.int .i64 (du + sc)) else w3)) (by kernel_rfl) (by kernel_rfl) ?_ ?_
                · (repeat (first | exact Grew.refl _ | refine Grew.over ?_ _ | refine Grew.alloc ?_ _ | refine Grew.drew ?_ | refine Grew.drewN ?_ _))
                repeat (first
                  | (refine lex_skip rfl ?_ ?_
                     · exact One.keep (by decide)
                     (try simp only [Act.put, List.setIfInBounds_toArray, List.set_cons_zero, List.set_cons_succ]))
                  | (refine lex_pure (v := ?_) rfl ?_ (fun d w hd hr hC => ?_) ?_
                     rotate_left
                     · exact One.keep (by decide)
                     · ((try (have hs := closed_undone (s := 21) hr.2 rfl (by decide +kernel) hd; unfold One at hC; rw [hs] at hC)); obtain ⟨x, rfl⟩ := hC; simp [go_sem, ↓IntWalk.iteOmega, c2, c3, c4, e0, e1, f1, hwr]; try rfl)
                     (try simp only [Act.put, List.setIfInBounds_toArray, List.set_cons_zero, List.set_cons_succ]))
                  | (refine lex_call (v := ?_) (f := ?_) (args := ?_) rfl ?_ One.grew (fun d w hd hr hC => ?_) (fun d w hd hr hC => ?_) ?_
                     rotate_left 3
                     · exact One.keep (by decide)
                     · ((try (have hs := closed_undone (s := 21) hr.2 rfl (by decide +kernel) hd; unfold One at hC; rw [hs] at hC)); obtain ⟨x, rfl⟩ := hC; simp [go_sem, ↓IntWalk.iteOmega, c2, c3, c4, e0, e1, f1, hwr]; (refine ⟨?_, ?_⟩ <;> rfl))
                     · ((try (have hs := closed_undone (s := 21) hr.2 rfl (by decide +kernel) hd; unfold One at hC; rw [hs] at hC)); obtain ⟨x, rfl⟩ := hC; (fail))
                     (try simp only [Act.put, List.setIfInBounds_toArray, List.set_cons_zero, List.set_cons_succ]))
                  | (refine lex_store rfl (fun d w hd hr hC => ?_) ?_
                     · (unfold One at hC ⊢; rw [hd] at hC; rw [mark_same]; obtain ⟨x, rfl⟩ := hC; refine ⟨?_, ?_, ?_⟩; rotate_left; (simp [go_sem, ↓IntWalk.iteOmega, c2, c3, c4, e0, e1, f1, hwr]; try rfl); (simp; exact ⟨_, rfl⟩))
                     (try simp only [Act.put, List.setIfInBounds_toArray, List.set_cons_zero, List.set_cons_succ])))
                refine lex_nil ?_
                intro dLx w4 hd hw4
                unfold One at hw4; rw [hd 21 (by decide)] at hw4; simp only [if_true] at hw4
                have HO6 : Hid (Owns w4 w.heap.size [rI g6 s.length (d.set v (du + sc)), rI g7 s.length pr]) := Lib.hid (HO5.out.grew hw4)
                have Hg6 := Lib.hid (Hg5.out.trans hw4)
                have y3 : w4.cell? ⟨gS, j * 6 + 3, none⟩ = some (.int .i64 (v : Int)) := hw4.cellEq (by
                  rw [World.cell?_setCell_other _ _ _ _ (fun e => by have := congrArg Addr.block e; simp at this; omega)]; exact c3)
                have hgS4 : gS < w4.heap.size := cell_lt y3
                clear hw4 HO5 Hg5 c2 c3 c4 e0 e1 f1 b3 hgS3 HO3 Hg3
                have e7 := own_atI HO6.out (j := 1) rfl (i := v) hv
                have b7 := own_lt HO6.out (j := 1) rfl
                have f7 := own_fr HO6.out (j := 1) rfl
                replace f7 := f7 v
                have HO7 := Lib.hid (own_setI HO6.out (j := 1) rfl v (j : Int))
                have Hg7 := Lib.hid (HO6.out.setGrew (w0 := w) (Nat.le_refl _) Hg6.out (k := 1) rfl v (.int .i64 (j : Int)))
                go_wp2
                go_roundw
                case rel => exact ⟨j + 1, _, _, true, by omega, by go_num, rfl, HI5.out, HO7.out, Hg7.out⟩
                case measure => simp [intOf]; omega
              · have HI5 := Lib.hid (Hsame.out (Or.inr ⟨fun e => (by rw [e] at hlt2; exact hlt2 (by have : (1125899906842624 : Int) = farR := rfl; omega)), by omega⟩))
                go_wp2
                go_roundw
                case rel => exact ⟨j + 1, d, pr, c, by omega, by go_num, rfl, HI5.out, HO3.out, Hg3.out⟩
                case measure => simp [intOf]; omega
            · have hje : j = L.length := by omega
              subst hje
              obtain ⟨g', hg', hH'⟩ := HI.out.next HM.out
              have HH' := Lib.hid hH'
              clear hH' HI
              go_wp2
              go_roundg g'
              case rel => exact ⟨c, d, pr, rfl, HH'.out, HO.out, Hg.out⟩
              case measure => omega
end Go.Proofs.Ytnnlhmialmhpfaa
