/- place. -/
import Derived.Test.YtgodoeefgmfpfaaTidyH
import Derived.Deep.DeepCutAuto
set_option linter.unusedSimpArgs false
set_option linter.unusedVariables false
namespace Go.Proofs.Ytgodoeefgmfpfaa
open Go.RowKit
attribute [local go_sem ↓] Go.wp_at_zero Go.wp_at_succ

theorem Try.run_ext (v : Value) (w : World) : (Instr.field 61 (.agg #[v]) 0).run Try.prog w = .ok v w := by kernel_rfl
theorem XAt.ints {w : World} {gx : Nat} {X : List Int} (h : XAt w gx X) (hl : X.length ≤ 64) (hb : ∀ x ∈ X, -300000000 ≤ x ∧ x ≤ 300000000) : Ints w (some ⟨gx, 0, none⟩) X :=
  ⟨by omega, fun x hx => by have := hb x hx; omega, gx, 0, fun _ => ⟨rfl, h.lt⟩, fun i hi => by have := h.cell hi; simpa using this⟩
theorem place_bounds {P W X0 X1 X2 : List Int} {sep t l : Int} (hP : vFor P) (hW : wOK W sep) (hX0 : X0.length = P.length) (hz : SpanZ W (forD P W sep) t) (hl : -134217728 ≤ l ∧ l ≤ 134217728) (h1 : WrAt X0 (forD P W sep) t X1)
    (h2 : MvR P X1 (-l) (kids P (-1)).length X2) : ∀ x ∈ X2, -300000000 ≤ x ∧ x ≤ 300000000 := by
  intro x hx
  obtain ⟨i, hi, rfl⟩ := List.getElem_of_mem hx
  have hi' : i < P.length := by rw [h2.1, h1.1, hX0] at hi; exact hi
  obtain ⟨q, hq⟩ := mem_verts.1 ((forD_all (W := W) (sep := sep) hP i).2 hi')
  have e1 := h1.2.1 _ hq
  have e2 := hz.bd hW ((forD_ok hP).len hP (fun c hc => (mem_kids.1 hc).1)) _ hq
  have e3 := h2.2.1 i (by rw [List.take_length]; exact all_root hP i hi')
  have e4 : X2[i] = ge X2 i := by simp [ge, hi]
  dsimp only at e1 e2
  omega

set_option maxRecDepth 8000 in
set_option maxHeartbeats 16000000 in
theorem place_good (p q : Option Addr) (n k cp cq : Nat) (P W : List Int) (sep : Int) (w : World) (hI : Ints w p P) (hJ : Ints w q W) (hn : P.length = n) (hk : W.length = k) (hb : okA P W sep = true) :
    Calls Try.prog 24 #[.slice p n cp, .slice q k cq, .int .i64 sep] w (PlacePost P W sep w) := by
  obtain ⟨hP, hWl, hW, ha, hs⟩ := okA_facts hb
  rw [hWl] at hk
  subst hn hk
  have hm1 := hI.1
  have Hv := Lib.hid (vForB_iff.2 hP)
  have HP := Lib.hid hP
  have HW := Lib.hid hW
  have Hok := Lib.hid hb
  have h64 := hP.1
  have Ha := Lib.hid (show ∀ W1 : World, Grew w W1 → Calls Try.prog 31 #[.slice q P.length cq, .func (.func 30) #[] #[]] W1 fun e w' => e = .returned (.bool false) ∧ W1 = w' from fun W1 hg => by
    have := containsFunc_v q P.length cq W wrongB W1 (hJ.grew hg) hWl (fun c => wrong_p c W1)
    rw [ha] at this
    exact this)
  have Hs := Lib.hid (show ∀ W1 : World, Calls Try.prog 30 #[.int .i64 sep] W1 fun e w' => e = .returned (.bool false) ∧ W1 = w' from fun W1 => by
    have := wrong_p sep W1
    rw [hs] at this
    exact this)
  have HI := Lib.hid hI
  have HJ := Lib.hid hJ
  have HWl := Lib.hid hWl
  clear hb ha hs hP hW hI hJ hWl
  go_enter Try.func24, Try.ntmps24
  go_upto_region 4 with (first | (go_at_call 19; apply Calls.mono; (with_reducible exact validp_e Hv.out HI.out rfl); rintro e w' ⟨rfl, rfl⟩) | (go_at_call 31; apply Calls.mono; (with_reducible exact Ha.out _ (by (repeat (first | exact Grew.refl _ | refine Grew.over ?_ _ | refine Grew.alloc ?_ _ | refine Grew.drew ?_ | refine Grew.drewN ?_ _)))); rintro e w' ⟨rfl, rfl⟩) | (go_at_call 30; apply Calls.mono; (with_reducible exact Hs.out _); rintro e w' ⟨rfl, rfl⟩))
  go_cut [10] (fun v10 wx => ∃ S gc gx : Nat, v10 = .pointer (some ⟨S, 0, none⟩) ∧ Grew w wx ∧ Owns wx w.heap.size (plRows S gc gx P.length (.slice q P.length cq) sep (List.replicate P.length (.slice none 0 0)) (tab P.length (fun _ => 0)) []))
  case first =>
    have hmk1 := make_rows P.length h64
    have hmk2 := make_ints P.length h64
    go_region
    · go_wp2_with fail
      go_meet
      exact ⟨w.heap.size + 1 + 1, w.heap.size, w.heap.size + 1, rfl, by (repeat (first | exact Grew.refl _ | refine Grew.over ?_ _ | refine Grew.alloc ?_ _ | refine Grew.drew ?_ | refine Grew.drewN ?_ _)), (place_start1 w P.length h64 (.slice q P.length cq) sep).grew (by (repeat (first | exact Grew.refl _ | refine Grew.over ?_ _ | refine Grew.alloc ?_ _ | refine Grew.drew ?_ | refine Grew.drewN ?_ _)))⟩
    · go_wp2_with fail
      go_meet
      exact ⟨w.heap.size + 1 + 1, w.heap.size + 1, w.heap.size, rfl, by (repeat (first | exact Grew.refl _ | refine Grew.over ?_ _ | refine Grew.alloc ?_ _ | refine Grew.drew ?_ | refine Grew.drewN ?_ _)), (place_start2 w P.length h64 (.slice q P.length cq) sep).grew (by (repeat (first | exact Grew.refl _ | refine Grew.over ?_ _ | refine Grew.alloc ?_ _ | refine Grew.drew ?_ | refine Grew.drewN ?_ _)))⟩
  case rest =>
    obtain ⟨S, gc, gx, rfl, hg0, hOw0⟩ := hcut
    have Hg0 := Lib.hid hg0
    have Hst0 := Lib.hid (inner_start (P := P) hOw0 P.length)
    have hsz0 := hg0.below.size
    clear hg0 hOw0
    go_wp2_with fail
    go_loopw [11, 53] (fun v11 i wq => ∃ k : Nat, k ≤ P.length ∧ i = .int .i64 k ∧ Grew w wq ∧ ∃ vals : List Value, vals.length = P.length ∧ Owns wq w.heap.size (plRows S gc gx P.length (.slice q P.length cq) sep vals (tab P.length (fun _ => 0)) (kRow v11 P (-1) k :: inner vals P k))) (fun _ i _ => P.length - (intOf i).toNat)
    case atStart =>
      refine ⟨0, Nat.zero_le _, rfl, Hg0.out, List.replicate P.length (.slice none 0 0), by simp, ?_⟩
      exact (Hst0.out.none 3 1).perm (place_perm _ _ _ _ _)
    case round =>
      obtain ⟨k, hk, rfl, hgq, vals, hvl, hOq⟩ := hrel
      have Hgq := Lib.hid hgq
      have HOq := Lib.hid hOq
      have hszq := hgq.below.size
      have Hvl := Lib.hid hvl
      clear hgq hOq hvl
      by_cases hlt : k < P.length
      · obtain ⟨b, o, h3, h4⟩ := (HI.out.grew Hgq.out).open
        obtain ⟨rfl, hb⟩ := h3 (by omega)
        have hc := h4 k hlt
        clear h3 h4
        have hpk := HP.out.2 k hlt
        obtain ⟨hpk1, hpk2⟩ := hpk
        by_cases he : ge P k < 0
        · have Hek : Hid (ge P k = -1) := Lib.hid (by omega)
          have hlen := kidsK_len P (-1) k
          go_wp2_with (at_builtin; refine wp_append_owns rfl _ _ 22 rfl 3 1 8 (.int .i64 0) Try.underlying22 Try.infoInt rfl (by decide) w.heap.size _ 3 _ _ _ (HOq.out.grew (by (repeat (first | exact Grew.refl _ | refine Grew.over ?_ _ | refine Grew.alloc ?_ _ | refine Grew.drew ?_ | refine Grew.drewN ?_ _)))) rfl rfl _ 1 1 rfl [.int .i64 (k : Int)] rfl (fun h => by cases h) (one_news _ (by (simp [go_sem, ↓IntWalk.iteOmega]))) (by simp [Value.oneCell']) (by simp only [maxLen]; omega) (by omega) (by first | rfl | omega | (simp <;> omega)) ?_; intro v1 w1 hO1 hg1 hb1 _; have Hg1 := Lib.hid (Grew.grownBy (w0 := w) (Hgq.out.trans (by (repeat (first | exact Grew.refl _ | refine Grew.over ?_ _ | refine Grew.alloc ?_ _ | refine Grew.drew ?_ | refine Grew.drewN ?_ _)))) hg1 hb1); have HO1 := Lib.hid hO1; clear hO1 hg1 hb1)
          go_roundw
          case rel =>
            refine ⟨k + 1, by omega, by go_num, Hg1.out, vals, Hvl.out, ?_⟩
            rw [inner_root he]
            have := HO1.out
            simp only [plRows, List.set_cons_succ, List.set_cons_zero] at this
            unfold plRows
            have e : kRow v1 P (-1) (k + 1) = ⟨v1, 3, 1, (kidsK P (-1) k).length + 1, intVs (intL (kidsK P (-1) k)) ++ [.int .i64 (k : Int)]⟩ := by
              unfold kRow
              rw [kidsK_hit Hek.out]
              simp [intVs, intL]
            rw [e]
            exact this
          case measure => simp [intOf]; omega
        · obtain ⟨u, hu⟩ : ∃ u : Nat, ge P k = (u : Int) := ⟨(ge P k).toNat, by omega⟩
          have huk : u < k := by omega
          have huP : u < P.length := by omega
          rw [hu] at hc
          obtain ⟨V, hV⟩ : ∃ V, vals[u]? = some V := ⟨vals[u]'(by rw [Hvl.out]; exact huP), List.getElem?_eq_getElem _⟩
          have Hrow : Hid ((plRows S gc gx P.length (.slice q P.length cq) sep vals (tab P.length (fun _ => 0)) (kRow u11 P (-1) k :: inner vals P k))[u + 4]? = some ⟨V, 3, 1, (kidsK P u k).length, intVs (intL (kidsK P u k))⟩) := Lib.hid (by
            show (inner vals P k)[u]? = _
            rw [inner_get _ _ _ huP, List.getD_eq_getElem?_getD, hV]
            exact rfl)
          have Hset : Hid (∀ r, ((plRows S gc gx P.length (.slice q P.length cq) sep vals (tab P.length (fun _ => 0)) (kRow u11 P (-1) k :: inner vals P k)).set (u + 4) r)[u + 4]? = some r) := Lib.hid (fun r => by
            rw [List.getElem?_set, if_pos rfl, if_pos (List.getElem?_eq_some_iff.1 Hrow.out).1])
          have HV := Lib.hid hV
          have Hu := Lib.hid hu
          have Hmiss : Hid (kRow u11 P (-1) (k + 1) = kRow u11 P (-1) k) := Lib.hid (by unfold kRow; rw [kidsK_miss (by omega)])
          have hlen := kidsK_len P u k
          obtain ⟨gS, cS, eS, hS1, hS2, _, _, hfS, hcS⟩ := HOq.out.some (k := 0) rfl (by omega)
          cases eS
          obtain ⟨gC, cC, eC, hC1, hC2, _, _, hfC, hcC⟩ := HOq.out.some (k := 1) rfl (by omega)
          cases eC
          have c0 := hcS 0 _ rfl
          have c1 := hcC u V hV
          have f0 := hfS 0
          have f1 := hfC u
          clear hV hu hcS hcC hfS hfC
          go_wp2
          go_region_law
            ((refine step_append_owns rfl _ _ 22 (by rfl) 3 1 8 (.int .i64 0) Try.underlying22 Try.infoInt rfl (by decide) w.heap.size _ (u + 4) _ _ _ (HOq.out.grew (by (repeat (first | exact Grew.refl _ | refine Grew.over ?_ _ | refine Grew.alloc ?_ _ | refine Grew.drew ?_ | refine Grew.drewN ?_ _)))) Hrow.out (by rfl) _ 1 1 (by rfl) [.int .i64 (k : Int)] rfl (fun h => by cases h) (one_news _ (by (simp [go_sem, ↓IntWalk.iteOmega]))) (by simp [Value.oneCell']) (by simp only [maxLen]; omega) (by omega) (by first | rfl | omega | (simp <;> omega)) ?_; intro v1 w1 hO1 hg1 hb1 _; obtain ⟨gv, cv, rfl, _, _, _, _, _, _⟩ := hO1.some (Hset.out _) (by omega); obtain ⟨gS1, cS1, eS1, _, hS3, _, _, _, hcS1⟩ := hO1.some (k := 0) rfl (by omega); cases eS1; obtain ⟨gC1, cC1, eC1, _, hC3, _, _, hfC1, hcC1⟩ := hO1.some (k := 1) rfl (by omega); cases eC1; have s0 := hcS1 0 _ rfl; have f2 := hfC1 u; have s1 := hcC1 u V HV.out; have Hg1 := Lib.hid (Grew.grownBy (w0 := w) (Hgq.out.trans (by (repeat (first | exact Grew.refl _ | refine Grew.over ?_ _ | refine Grew.alloc ?_ _ | refine Grew.drew ?_ | refine Grew.drewN ?_ _)))) hg1 hb1); have HO1 := Lib.hid hO1; clear hcS1 hcC1 hfC1 hg1 hb1 hO1))
          all_goals
            go_wp2
            go_roundw
            case rel =>
              refine ⟨k + 1, by omega, by go_num, ?_, vals.set u (.slice (some ⟨gv, 0, none⟩) ((kidsK P u k).length + 1) cv), by rw [List.length_set]; exact Hvl.out, ?_⟩
              · exact Owns.setGrew HO1.out (Nat.le_refl _) Hg1.out (k := 1) rfl _ _
              · have h := HO1.out.set (k := 1) rfl u (.slice (some ⟨gv, 0, none⟩) ((kidsK P u k).length + 1) cv)
                rw [Hmiss.out, ← inner_set Hvl.out huP Hu.out]
                simp only [plRows, List.set_cons_succ, List.set_cons_zero] at h
                have e : kRow (.slice (some ⟨gv, 0, none⟩) ((kidsK P u k).length + 1) cv) P u (k + 1) = ⟨.slice (some ⟨gv, 0, none⟩) ((kidsK P u k).length + 1) cv, 3, 1, (kidsK P u k).length + 1, intVs (intL (kidsK P u k)) ++ [.int .i64 (k : Int)]⟩ := by
                  unfold kRow
                  rw [kidsK_hit Hu.out]
                  simp [intVs, intL]
                rw [e]
                exact h
            case measure => simp [intOf]; omega
      · have hkn : k = P.length := by omega
        subst hkn
        obtain ⟨hst, hX, rp, rc, rfl, hroots⟩ := place_stat h64 HWl.out Hvl.out Hgq.out HOq.out HJ.out
        have Hrow := Lib.hid (row_of_sub wr.heap.size S gc gx q cq P W sep HP.out HW.out P.length (all_rows wr.heap.size S gc gx q cq P W sep HP.out HW.out P.length) (-1) 0 rp rc _ wr (fun c _ => by omega) (fun c hc => by have h := (List.mem_filter.1 hc).2; rw [beq_iff_eq] at h; exact dep_root (by omega)) hst hX (by simp [tab]) hroots)
        have Hst := Lib.hid hst
        have Hroots := Lib.hid hroots
        clear hst hX hroots
        have hfd := Try.run_ext
        go_upto_region 14 with (go_at_call 32; apply Calls.mono; (with_reducible exact Hrow.out); rintro e w5 hpost; obtain ⟨vE, E, t, X1, rfl, hoE, hE, hz, hX1, hWr, hg5⟩ := hpost; obtain ⟨pE, cE, rfl, _, _, _, _⟩ := own_ext hoE; have HoE := Lib.hid hoE; have HE := Lib.hid hE; have Hz := Lib.hid hz; have HX1 := Lib.hid hX1; have HWr := Lib.hid hWr; have Hg5 := Lib.hid hg5; clear hoE hE hz hX1 hWr hg5)
        have Hgx : Hid (w.heap.size ≤ gx ∧ gx < wr.heap.size) := Lib.hid (by
          obtain ⟨g2, c2, e2, h1, h2, _⟩ := (HOq.out.get (k := 2) rfl).2.resolve_left (fun h => by cases h.1)
          cases e2
          exact ⟨h1, h2⟩)
        have Hgw5 : Hid (Gr (onX gx) w w5) := Lib.hid ((Gr.of_grew _ Hgq.out).trans Hg5.out)
        have HOe : Hid (Owns w5 wr.heap.size [⟨.slice pE E.length cE, 64, 2, E.length, flat E⟩]) := Lib.hid ((Owns.nil w5 wr.heap.size).cons HoE.out (fun k x h => by simp at h))
        by_cases h0 : P.length = 0
        · have hE0 := (forD_ext HP.out HE.out).2 h0
          have hE1 : ((E.length : Int) == 0) = true := by rw [hE0]; rfl
          clear hE0
          go_wp2_with fail
          go_ret3
          exact ⟨(Hgw5.out.mono (fun k hk e => by have := Hgx.out; unfold onX at e; omega)).grew, Or.inr (Or.inl ⟨Hok.out, h0, rfl⟩)⟩
        · have hEn : 0 < E.length := by
            rcases Nat.eq_zero_or_pos E.length with h | h
            · exact absurd ((forD_ext HP.out HE.out).1 h) h0
            · exact h
          obtain ⟨gE, cE', eE, hgE1, hgE2, hcE1, hcE2, _, hcE⟩ := HOe.out.some (k := 0) rfl hEn
          cases eE
          have hE1 : ((E.length : Int) == 0) = false := by rw [beq_eq_false_iff_ne]; omega
          have t0 : w5.cell? ⟨gE, 0, none⟩ = some (.int .i64 (ex E 0).1) := hcE 0 _ (by have := (flat_get E 0 hEn).1; simpa using this)
          have t1 : w5.cell? ⟨gE, 1, none⟩ = some (.int .i64 (ex E 0).2) := hcE 1 _ (by have := (flat_get E 0 hEn).2; simpa using this)
          have HcE := Lib.hid hcE
          clear hcE
          go_upto_region 16 with fail
          refine wp_region_over (by kernel_rfl) (by kernel_rfl) ?_; (repeat (go_big_quiet_step (fail))); refine wpQuiet_nil ?_; rintro _ ⟨x, rfl⟩
          have hfne : forD P W sep ≠ [] := fun e => h0 ((forD_nil HP.out).1 e)
          have HzE : Hid (SpanZ W (forD P W sep) t) := Lib.hid (Hz.out hfne)
          have HbE := Lib.hid (fun d (hd : d < E.length) => HE.out.bd HW.out HzE.out ((forD_ok HP.out).len HP.out (fun c hc => (mem_kids.1 hc).1)) hd)
          have hEl : E.length ≤ 64 := HE.out.len HP.out (fun q hq => (forD_all HP.out q.1).1 (mem_verts.2 ⟨q.2, hq⟩))
          have Hst5 := Lib.hid (Hst.out.onX Hg5.out)
          have Hall := Lib.hid (move_all wr.heap.size S gc gx q cq P W sep HP.out P.length)
          have Hroots5 := Lib.hid (Hroots.out.gr Hg5.out (fun k _ hne => hne))
          have Hpos := Lib.hid h0
          clear hfne h0
          clear hfd
          go_wp2
          go_loopw [15, 16, 98] (fun v15 v16 i wq => ∃ (j : Nat) (l r : Int), j ≤ E.length ∧ v15 = .int .i64 l ∧ v16 = .int .i64 r ∧ i = .int .i64 j ∧ Grew w5 wq ∧ LR E j l r) (fun _ _ i _ => E.length - (intOf i).toNat)
          case atStart => exact ⟨0, _, _, Nat.zero_le _, rfl, rfl, rfl, by (repeat (first | exact Grew.refl _ | refine Grew.over ?_ _ | refine Grew.alloc ?_ _ | refine Grew.drew ?_ | refine Grew.drewN ?_ _)), LR.start hEn⟩
          case round =>
            obtain ⟨j, l, r, hj, rfl, rfl, rfl, hgq, hL⟩ := hrel
            have Hgq2 := Lib.hid hgq
            have HL := Lib.hid hL
            have hszq := hgq.below.size
            obtain ⟨⟨bl1, bl2⟩, br1, br2⟩ := hL.bd HbE.out
            clear hL
            by_cases hlt : j < E.length
            · have o1 : wr.cell? ⟨gE, j * 2, none⟩ = some (.int .i64 (ex E j).1) := hgq.cellEq (v := .int .i64 (ex E j).1) (by have := HcE.out _ _ (flat_get E j hlt).1; simpa using this)
              have o2 : wr.cell? ⟨gE, j * 2 + 1, none⟩ = some (.int .i64 (ex E j).2) := hgq.cellEq (v := .int .i64 (ex E j).2) (by have := HcE.out _ _ (flat_get E j hlt).2; simpa using this)
              have q4 : gE < wr.heap.size := by omega
              obtain ⟨m1, hm1, hm1'⟩ : ∃ m, (if (ex E j).1 < l then (ex E j).1 else l) = m ∧ m = min l (ex E j).1 := ⟨_, rfl, by split <;> omega⟩
              obtain ⟨m2, hm2, hm2'⟩ : ∃ m, (if r < (ex E j).2 then (ex E j).2 else r) = m ∧ m = max r (ex E j).2 := ⟨_, rfl, by split <;> omega⟩
              have Hm : Hid (LR E (j + 1) m1 m2) := Lib.hid (HL.out.step hlt hm1' hm2')
              clear hm1' hm2' hgq
              go_wp2
              refine wp_region_over (by kernel_rfl) (by kernel_rfl) ?_; (repeat (go_big_quiet_step (fail))); refine wpQuiet_nil ?_; rintro _ ⟨x, rfl⟩
              clear hm1 hm2
              go_wp2
              go_roundw
              case rel => exact ⟨j + 1, m1, m2, by omega, rfl, rfl, by go_num, Hgq2.out.trans (by (repeat (first | exact Grew.refl _ | refine Grew.over ?_ _ | refine Grew.alloc ?_ _ | refine Grew.drew ?_ | refine Grew.drewN ?_ _))), Hm.out⟩
              case measure => simp [intOf]; omega
            · have hje : j = E.length := by omega
              have HLE : Hid (LR E E.length l r) := Lib.hid (by rw [← hje]; exact HL.out)
              have HX1q := Lib.hid (HX1.out.grew hgq)
              clear hgq hje
              go_wp2
              go_loopw [20, 113] (fun _ i wq => ∃ j : Nat, j ≤ (kids P (-1)).length ∧ i = .int .i64 j ∧ Gr (onX gx) w5 wq ∧ ∃ X, XAt wq gx X ∧ MvR P X1 (-l) j X) (fun _ i _ => (kids P (-1)).length - (intOf i).toNat)
              case atStart => exact ⟨0, Nat.zero_le _, rfl, Gr.of_grew _ Hgq2.out, X1, HX1q.out, MvR.start P X1 (-l)⟩
              case round =>
                obtain ⟨i, hi, rfl, hg, X, hX, hM⟩ := hrel
                have Hg := Lib.hid hg
                have HX := Lib.hid hX
                have HM := Lib.hid hM
                clear hg hX hM
                by_cases hlr : i < (kids P (-1)).length
                · have hI := Hroots5.out.gr Hg.out (fun k _ hne => hne)
                  obtain ⟨bk, ok, h3, h4⟩ := hI.1.open
                  obtain ⟨rfl, hbk⟩ := h3 (by rw [intL_length]; omega)
                  have e1 := h4 i (by rw [intL_length]; exact hlr)
                  obtain ⟨c, hc⟩ : ∃ c, (kids P (-1))[i]? = some c := ⟨_, List.getElem?_eq_getElem hlr⟩
                  rw [ge_intL' hc] at e1
                  have hcn := (mem_kids.1 (List.mem_of_getElem? hc)).1
                  have Hc := Lib.hid hc
                  have hkl := kids_len P (-1)
                  clear h3 h4 hI hc
                  have Hst2 := Lib.hid (Hst5.out.gr Hg.out (fun k _ hne => hne))
                  have Hl2 : Hid (X.length = P.length) := Lib.hid (by rw [HM.out.1, HWr.out.1, tab_length])
                  have Hbd2 : Hid (∀ u, Bel P c u → -1000000000000 ≤ ge X u ∧ ge X u ≤ 1000000000000) := Lib.hid (fun u hu => by
                    rw [HM.out.old HP.out Hc.out hu]
                    obtain ⟨x, hx⟩ := mem_verts.1 ((forD_all (W := W) (sep := sep) HP.out u).2 (hu.lt hcn))
                    have h1 := HWr.out.2.1 _ hx
                    have h2 := HzE.out.bd HW.out ((forD_ok HP.out).len HP.out (fun c hc => (mem_kids.1 hc).1)) _ hx
                    dsimp only at h1 h2
                    omega)
                  have Hmove := Lib.hid (Hall.out c (-l) X wr hcn (by omega) Hst2.out HX.out Hl2.out Hbd2.out (by omega) (by omega))
                  go_wp2_with (go_at_call 33; apply Calls.mono; (with_reducible exact Hmove.out); rintro e w' hpost; obtain ⟨rfl, hg2, X2, hX2, hM2⟩ := hpost; have Hg2 := Lib.hid hg2; have HX2 := Lib.hid hX2; have HM2 := Lib.hid hM2; clear hg2 hX2 hM2)
                  go_roundw
                  case rel => exact ⟨i + 1, by omega, by go_num, Hg.out.trans Hg2.out, X2, HX2.out, HM.out.step HP.out Hc.out HM2.out⟩
                  case measure => simp [intOf]; omega
                · have hie : i = (kids P (-1)).length := by omega
                  have HMe : Hid (MvR P X1 (-l) (kids P (-1)).length X) := Lib.hid (by rw [← hie]; exact HM.out)
                  clear hie
                  have s3 := (Hst5.out.gr Hg.out (fun k _ hne => hne)).c3
                  have s4 : S < wr.heap.size := by have := (Hst5.out.gr Hg.out (fun k _ hne => hne)); have h1 := this.hS; have h2 := this.hB; omega
                  go_wp2
                  go_ret3
                  have hb := place_bounds HP.out HW.out (tab_length _ _) HzE.out ⟨bl1, bl2⟩ HWr.out HMe.out
                  have hG : Grew w wr := ((Hgw5.out.trans Hg.out).mono (fun k hk e => by have := Hgx.out; unfold onX at e; omega)).grew
                  refine ⟨hG, Or.inr (Or.inr ⟨Hok.out, Nat.pos_of_ne_zero Hpos.out, _, _, X, r - l, rfl, ?_, place_done HP.out HW.out (tab_length _ _) HE.out HLE.out HWr.out HMe.out, Nat.le_refl _, (fun h => by cases h), hb⟩)⟩
                  exact HX.out.ints (by rw [HMe.out.1, HWr.out.1, tab_length]; exact h64) hb

end Go.Proofs.Ytgodoeefgmfpfaa
