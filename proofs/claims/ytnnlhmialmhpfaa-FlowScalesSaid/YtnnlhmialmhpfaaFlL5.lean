/- The law FlowScales. -/
import Derived.Test.YtnnlhmialmhpfaaFlL4
set_option linter.unusedSimpArgs false
set_option linter.unusedVariables false
namespace Go.Proofs.Ytnnlhmialmhpfaa
open Go.RowKit
attribute [local go_sem ↓] Go.wp_at_zero Go.wp_at_succ

theorem Try.infoArk : (Try.prog.info? 36).map (fun i => (i.zero, i.size, i.bytes)) = some (some (.agg #[.int .i64 0, .int .i64 0, .int .i64 0, .int .i64 0]), 4, 32) := by kernel_rfl
abbrev bxR (mb : Nat) (v0 v1 : Value) : Row := ⟨.slice (some ⟨mb, 0, none⟩) 2 2, 25, 1, 2, [v0, v1]⟩
abbrev arR (v : Value) (n : Nat) (A : List Ark) : Row := ⟨v, 36, 4, n, arVs A⟩
theorem arVs_app (A B : List Ark) : arVs (A ++ B) = arVs A ++ arVs B := by simp [arVs]
theorem arVs_len (A : List Ark) : (arVs A).length = A.length * 4 := by
  induction A with
  | nil => rfl
  | cons a A ih =>
    show ([_, _, _, _] ++ arVs A).length = _
    rw [List.length_append, ih]
    simp
    omega
theorem intVs_app (xs ys : List Int) : intVs (xs ++ ys) = intVs xs ++ intVs ys := by simp [intVs]
theorem four_news {w : World} {g : Nat} {a b c d : Value} (h0 : w.cell? ⟨g, 0, none⟩ = some a) (h1 : w.cell? ⟨g, 1, none⟩ = some b) (h2 : w.cell? ⟨g, 2, none⟩ = some c) (h3 : w.cell? ⟨g, 3, none⟩ = some d) :
    ∀ q, some (⟨g, 0, none⟩ : Addr) = some q → ∀ j u, [a, b, c, d][j]? = some u → w.cell? (q.add j) = some u := by
  intro q hq j u hj
  cases hq
  rw [Addr.add_lit, Nat.zero_add]
  match j, hj with
  | 0, hj => simp at hj; subst hj; exact h0
  | 1, hj => simp at hj; subst hj; exact h1
  | 2, hj => simp at hj; subst hj; exact h2
  | 3, hj => simp at hj; subst hj; exact h3
theorem own_arks {w : World} {B : Nat} {rs : List Row} {k n c : Nat} {pl : Option Addr} {A : List Ark} (h : Owns w B rs) (hk : rs[k]? = some (arR (.slice pl n c) n A)) (hl : A.length = n) (hm : n ≤ 100000)
    (hw : ∀ i, i < A.length → w64 (aK A i).fr ∧ w64 (aK A i).ed ∧ w64 (aK A i).cap ∧ w64 (aK A i).cost) : Arks w pl A := by
  rcases (h.get hk).2 with ⟨g1, g2⟩ | ⟨g, cap, g1, g2, g3, g4, g5, g6, g7⟩
  · have : A = [] := List.eq_nil_of_length_eq_zero (by omega)
    subst this
    exact Arks.nil _ _
  · simp only [Value.slice.injEq, true_and] at g1
    obtain ⟨rfl, _⟩ := g1
    refine ⟨by omega, hw, g, 0, fun _ => ⟨rfl, g3⟩, fun i hi => ?_⟩
    have key : ∀ k x, k < 4 → [Value.int .i64 (aK A i).fr, .int .i64 (aK A i).ed, .int .i64 (aK A i).cap, .int .i64 (aK A i).cost][k]? = some x → w.cell? ⟨g, 0 + i * 4 + k, none⟩ = some x := fun k x hk hx => by
      rw [Nat.zero_add]
      exact g7 _ _ (by rw [arVs_get hi k hk]; exact hx)
    exact ⟨key 0 _ (by omega) rfl, key 1 _ (by omega) rfl, key 2 _ (by omega) rfl, key 3 _ (by omega) rfl⟩
theorem own_nil {w : World} {B : Nat} {rs : List Row} {k n c sz : Nat} {e : TypeId} {vs : List Value} {pl : Option Addr} (h : Owns w B rs) (hk : rs[k]? = some ⟨.slice pl n c, e, sz, n, vs⟩) : pl = none → n = 0 ∧ c = 0 := by
  intro hp
  subst hp
  rcases (h.get hk).2 with ⟨g1, g2⟩ | ⟨g, cap, g1, _⟩
  · simp only [Value.slice.injEq, true_and] at g1
    exact ⟨g2, g1.2⟩
  · simp only [Value.slice.injEq] at g1
    cases g1.1
/-- Solve of a valid network. -/
def Sol (s : List Int) (A : List Ark) (f : List Int) (z : Int) : Prop := (z = 15 ∧ f = [] ∧ Cut s A) ∨ (z = 0 ∧ isFlow s A f ∧ ∃ π, Pot A f π)
theorem solve_b {s : List Int} {A : List Ark} {n m : Nat} {p q : Option Addr} {cp cq : Nat} {W : World} (hV : vN s A) (hS : Ints W p s) (hA : Arks W q A) (hn : s.length = n) (hm : A.length = m) (hnil : p = none → n = 0 ∧ cp = 0) :
    Calls Try.prog 18 #[.agg #[.slice p n cp, .slice q m cq]] W fun e w' => Grew W w' ∧ ∃ r k c z f, e = .returned (.tuple #[.slice r k c, .int .i64 z]) ∧ f.length = k ∧ Ints w' r f ∧ Sol s A f z := by
  apply Calls.mono
  with_reducible exact solve_p p q n cp m cq s A W hS hA hn hm hnil
  rintro e w' ⟨hg, ⟨h1, _⟩ | ⟨_, h1, h2⟩ | ⟨_, g, f, h3, h4, h5, h6⟩⟩
  · exact absurd hV h1
  · exact ⟨hg, none, 0, 0, 15, [], h2, rfl, Ints.nil _ _, Or.inl ⟨rfl, rfl, h1⟩⟩
  · have hl := h3.1.l
    exact ⟨hg, _, _, _, 0, f, h5, hl.trans hm, own_intsG h6 (k := 0) rfl (hl.trans hm) (by have := hV.m; omega) (fit_ints hV h3.1), Or.inr ⟨rfl, h3, h4⟩⟩
theorem sol_both {s : List Int} {A : List Ark} (hV : vN s A) (hV2 : vN (dbl s) (dblA A)) {f g : List Int} {z y : Int} (h1 : Sol s A f z) (h2 : Sol (dbl s) (dblA A) g y) : z = y ∧ cosS (dbl s) (dblA A) g = 2 * cosS s A f := by
  rcases h1 with ⟨rfl, rfl, hc⟩ | ⟨rfl, hf, hp⟩
  · rcases h2 with ⟨rfl, rfl, _⟩ | ⟨_, hg, _⟩
    · exact ⟨rfl, by rw [cos_nil, cos_nil]; rfl⟩
    · exact absurd hg ((cut_dbl hc).no hV2 g)
  · rcases h2 with ⟨_, _, hc⟩ | ⟨rfl, hg, hq⟩
    · exact absurd (flow_dbl hf) (hc.no hV2 _)
    · exact ⟨rfl, by rw [cos_flow hV2 hg, cos_flow hV hf, scale_cost hV2 hf hp hg hq]⟩
theorem cosS_bd {s : List Int} {A : List Ark} {f : List Int} (hV : vN s A) : -2147483648000 ≤ cosS s A f ∧ cosS s A f ≤ 2147483648000 := by
  unfold cosS
  split
  · rename_i h
    have h2 := cos_bd (fitsS_zero h).2 (fun i hi => ⟨(hV.a i hi).2.2.1.2, (hV.a i hi).2.2.2⟩) A.length (Nat.le_refl _)
    have h3 := hV.m
    unfold costF
    omega
  · omega

set_option maxRecDepth 8000 in
set_option maxHeartbeats 16000000 in
theorem scales_l (p q : Option Addr) (n cp m cq : Nat) (s : List Int) (A : List Ark) (w : World) (hS : Ints w p s) (hA : Arks w q A) (hn : s.length = n) (hm : A.length = m) (hnil : p = none → n = 0 ∧ cp = 0) :
    Calls Try.prog 7 #[.agg #[.slice p n cp, .slice q m cq]] w fun e w' => e = .returned (.bool true) ∧ Grew w w' := by
  subst hn hm
  have hsm := hS.1
  have ham := hA.1
  have HS := Lib.hid hS
  have HA := Lib.hid hA
  have Hnil := Lib.hid hnil
  clear hS hA hnil
  cases hb : smB s.length A.length 8 16
  · have Hb := Lib.hid hb
    clear hb
    go_enter Try.func7, Try.ntmps7
    go_wp2_with (first | (go_at_call 8; apply Calls.mono; (with_reducible exact small_e Hb.out hsm ham); rintro e w' ⟨rfl, x, rfl⟩) | (go_at_call 9; apply Calls.mono; (with_reducible exact awake_p _); rintro e w' ⟨rfl, x, rfl⟩))
    go_ret
    exact ⟨rfl, by (repeat (first | exact Grew.refl _ | refine Grew.over ?_ _ | refine Grew.alloc ?_ _ | refine Grew.drew ?_ | refine Grew.drewN ?_ _))⟩
  have h8 : s.length ≤ 8 ∧ A.length ≤ 16 := by
    have := of_decide_eq_true hb
    omega
  obtain ⟨h8, h16⟩ := h8
  have Hb := Lib.hid hb
  clear hb
  by_cases hV : vN s A
  case neg =>
    have Hno := Lib.hid (nB_not hV)
    clear hV
    go_enter Try.func7, Try.ntmps7
    go_wp2_with (first | (go_at_call 8; apply Calls.mono; (with_reducible exact small_e Hb.out hsm ham); rintro e w' ⟨rfl, x, rfl⟩) | (go_at_call 11; apply Calls.mono; (with_reducible exact validr_e Hno.out (HS.out.grew (by (repeat (first | exact Grew.refl _ | refine Grew.over ?_ _ | refine Grew.alloc ?_ _ | refine Grew.drew ?_ | refine Grew.drewN ?_ _)))) (HA.out.grew (by (repeat (first | exact Grew.refl _ | refine Grew.over ?_ _ | refine Grew.alloc ?_ _ | refine Grew.drew ?_ | refine Grew.drewN ?_ _)))) rfl rfl); rintro e w' ⟨rfl, x, rfl⟩) | (go_at_call 9; apply Calls.mono; (with_reducible exact awake_p _); rintro e w' ⟨rfl, x, rfl⟩))
    go_ret
    exact ⟨rfl, by (repeat (first | exact Grew.refl _ | refine Grew.over ?_ _ | refine Grew.alloc ?_ _ | refine Grew.drew ?_ | refine Grew.drewN ?_ _))⟩
  have HV := Lib.hid hV
  have Hok := Lib.hid (nB_iff.2 hV)
  clear hV
  go_enter Try.func7, Try.ntmps7
  go_upto_region 3 with (first
    | (go_at_call 8; apply Calls.mono; (with_reducible exact small_e Hb.out hsm ham); rintro e w1 ⟨rfl, hg1⟩; have x0 : w1.cell? ⟨w.heap.size, 0, none⟩ = some (.slice p s.length cp) := Grew.cellEq hg1 (by simp [go_sem]); have x1 : w1.cell? ⟨w.heap.size, 1, none⟩ = some (.slice q A.length cq) := Grew.cellEq hg1 (by simp [go_sem]); have Hg1 : Hid (Grew w w1) := Lib.hid (Grew.trans (by (repeat (first | exact Grew.refl _ | refine Grew.over ?_ _ | refine Grew.alloc ?_ _ | refine Grew.drew ?_ | refine Grew.drewN ?_ _))) hg1); clear hg1)
    | (go_at_call 11; apply Calls.mono; (with_reducible exact validr_e Hok.out (HS.out.grew Hg1.out) (HA.out.grew Hg1.out) rfl rfl); rintro e w2 ⟨rfl, hg2⟩; have Hg2 := Lib.hid (Hg1.out.trans hg2); replace x0 := hg2.cellEq x0; replace x1 := hg2.cellEq x1; have hbw := cell_lt x0; clear hg2))
  go_upto_region 4 with fail
  obtain ⟨mb, hmb⟩ : ∃ mb, w2.heap.size = mb := ⟨_, rfl⟩
  obtain ⟨wa, hwa⟩ : ∃ wa, w2.alloc (.cells #[.slice none 0 0, .slice none 0 0] 25) = wa := ⟨_, rfl⟩
  have HOa : Hid (Owns wa mb [lR (.slice none 0 0) 0 (dbl (s.take 0)), bxR mb (.slice none 0 0) (.slice none 0 0)]) := Lib.hid (by
    rw [← hwa, ← hmb]
    exact Owns.none ((Owns.nil w2 w2.heap.size).made (Nat.le_refl _) #[.slice none 0 0, .slice none 0 0] 25 1 2 w2.heap.size rfl (by decide) rfl) _ _)
  have Hga : Hid (Grew w2 wa) := Lib.hid (by rw [← hwa]; (repeat (first | exact Grew.refl _ | refine Grew.over ?_ _ | refine Grew.alloc ?_ _ | refine Grew.drew ?_ | refine Grew.drewN ?_ _)))
  have Hmb := Lib.hid hmb
  rw [hwa]
  rw [hmb]
  have Hx0 := Lib.hid x0
  have Hx1 := Lib.hid x1
  have hbm : w.heap.size < mb := by omega
  clear hwa x0 x1 hbw hmb
  go_wp2
  go_loopw [4] (fun v4 wr => ∃ (k : Nat) (pv : Option Addr) (cv : Nat), k ≤ s.length ∧ v4 = .int .i64 k ∧ (∀ v, v < k → -1000 ≤ ge s v ∧ ge s v ≤ 1000) ∧ Owns wr mb [lR (.slice pv k cv) k (dbl (s.take k)), bxR mb (.slice pv k cv) (.slice none 0 0)] ∧ Grew w2 wr) (fun v4 _ => s.length - (intOf v4).toNat)
  case atStart => exact ⟨0, none, 0, Nat.zero_le _, rfl, fun v hv => (by omega), HOa.out, Hga.out⟩
  case round =>
    clear HOa Hga
    obtain ⟨k, pv, cv, hk, rfl, hall, hO, hg⟩ := hrel
    have Hall := Lib.hid hall
    have HO := Lib.hid hO
    have Hg := Lib.hid hg
    clear hall hO hg
    have x0 := Hg.out.cellEq Hx0.out
    have x1 := Hg.out.cellEq Hx1.out
    have hbw := cell_lt x0
    by_cases hlt : k < s.length
    · obtain ⟨bs, os, hs3, hs4⟩ := (HS.out.grew (Hg2.out.trans Hg.out)).open
      obtain ⟨hps, hbs⟩ := hs3 (by omega)
      have cs := hs4 k hlt
      obtain ⟨bs', os', hs3', hs4'⟩ := (HS.out.grew Hg2.out).open
      obtain ⟨hps', hbs'⟩ := hs3' (by omega)
      have hbsm : bs < mb := by
        rw [hps] at hps'
        cases hps'
        have := Hmb.out
        omega
      subst hps
      clear hps' hbs' hs3' hs4' hs3 hs4
      have Hdk := Lib.hid (dbl_take hlt)
      obtain ⟨x, hx⟩ : ∃ x, ge s k = x := ⟨_, rfl⟩
      rw [hx] at cs Hdk
      have Hx := Lib.hid hx
      clear hx
      by_cases hlo : x < -1000
      · go_wp2_with (go_at_call 9; apply Calls.mono; (with_reducible exact awake_p _); rintro e w' ⟨rfl, x, rfl⟩)
        go_ret
        exact ⟨rfl, Hg2.out.trans (Hg.out.trans (by (repeat (first | exact Grew.refl _ | refine Grew.over ?_ _ | refine Grew.alloc ?_ _ | refine Grew.drew ?_ | refine Grew.drewN ?_ _))))⟩
      by_cases hhi : 1000 < x
      · go_wp2_with (go_at_call 9; apply Calls.mono; (with_reducible exact awake_p _); rintro e w' ⟨rfl, x, rfl⟩)
        go_ret
        exact ⟨rfl, Hg2.out.trans (Hg.out.trans (by (repeat (first | exact Grew.refl _ | refine Grew.over ?_ _ | refine Grew.alloc ?_ _ | refine Grew.drew ?_ | refine Grew.drewN ?_ _))))⟩
      have hwr : IntKind.i64.wrap (2 * x) = 2 * x := IntWalk.i64_in _ ⟨by omega, by omega⟩
      have hbk := own_blk HO.out (j := 1) rfl
      have r0 := hbk.2.2.2.2 0 _ rfl
      have hmbw := hbk.2.2.1
      clear hbk
      have hsw := Hg.out.below.size
      go_upto_region 9 with fail
      refine wp_region_T (s := 11) (S := fun w' => w'.cell? ⟨mb, 0, none⟩ = some (.slice pv k cv) ∧ w'.cell? ⟨w.heap.size, 0, none⟩ = some (.slice (some ⟨bs, os, none⟩) s.length cp) ∧ w'.cell? ⟨bs, os + k, none⟩ = some (.int .i64 x)) (by kernel_rfl) ⟨r0, x0, cs⟩ (fun hH => ?_)
      refine wpAnyT_takeL (i := 0) (v := ?_) rfl (by kernel_rfl) (by kernel_rfl) (by kernel_rfl) (by kernel_rfl) (fun _ _ _ h => h) (Or.inl ⟨by rfl, ?_⟩) (by assumption) ?_
      rotate_left
      · (intro w hSw; (try dsimp only at hSw); go_simp; (try with_reducible rfl))
      (try simp only [Act.put, List.setIfInBounds_toArray, List.set_cons_zero, List.set_cons_succ])
      refine wpAnyT_takeL (i := 1) (v := ?_) rfl (by kernel_rfl) (by kernel_rfl) (by kernel_rfl) (by kernel_rfl) (fun _ _ _ h => h) (Or.inl ⟨by rfl, ?_⟩) (by assumption) ?_
      rotate_left
      · (intro w hSw; (try dsimp only at hSw); go_simp; (try with_reducible rfl))
      (try simp only [Act.put, List.setIfInBounds_toArray, List.set_cons_zero, List.set_cons_succ])
      refine wpAnyT_takeL (i := 2) (v := ?_) rfl (by kernel_rfl) (by kernel_rfl) (by kernel_rfl) (by kernel_rfl) (fun _ _ _ h => h) (Or.inl ⟨by rfl, ?_⟩) (by assumption) ?_
      rotate_left
      · (intro w hSw; (try dsimp only at hSw); go_simp; (try with_reducible rfl))
      (try simp only [Act.put, List.setIfInBounds_toArray, List.set_cons_zero, List.set_cons_succ])
      refine wpAnyT_takeL (i := 3) (v := ?_) rfl (by kernel_rfl) (by kernel_rfl) (by kernel_rfl) (by kernel_rfl) (fun _ _ _ h => h) (Or.inl ⟨by rfl, ?_⟩) (by assumption) ?_
      rotate_left
      · (intro w hSw; (try dsimp only at hSw); go_simp; (try with_reducible rfl))
      (try simp only [Act.put, List.setIfInBounds_toArray, List.set_cons_zero, List.set_cons_succ])
      refine wpAnyT_takeL (i := 4) (v := ?_) rfl (by kernel_rfl) (by kernel_rfl) (by kernel_rfl) (by kernel_rfl) (fun _ _ _ h => h) (Or.inl ⟨by rfl, ?_⟩) (by assumption) ?_
      rotate_left
      · (intro w hSw; (try dsimp only at hSw); go_simp; (try with_reducible rfl))
      (try simp only [Act.put, List.setIfInBounds_toArray, List.set_cons_zero, List.set_cons_succ])
      refine wpAnyT_takeL (i := 5) (v := ?_) rfl (by kernel_rfl) (by kernel_rfl) (by kernel_rfl) (by kernel_rfl) (fun _ _ _ h => h) (Or.inl ⟨by rfl, ?_⟩) (by assumption) ?_
      rotate_left
      · (intro w hSw; (try dsimp only at hSw); go_simp; (try with_reducible rfl))
      (try simp only [Act.put, List.setIfInBounds_toArray, List.set_cons_zero, List.set_cons_succ])
      refine wpAnyT_takeL (i := 6) (v := ?_) rfl (by kernel_rfl) (by kernel_rfl) (by kernel_rfl) (by kernel_rfl) (fun _ _ _ h => h) (Or.inl ⟨by rfl, ?_⟩) (by assumption) ?_
      rotate_left
      · (intro w hSw; (try dsimp only at hSw); go_simp; (try with_reducible rfl))
      (try simp only [Act.put, List.setIfInBounds_toArray, List.set_cons_zero, List.set_cons_succ])
      refine wpAnyT_takeL (i := 7) (v := ?_) rfl (by kernel_rfl) (by kernel_rfl) (by kernel_rfl) (by kernel_rfl) (fun _ _ _ h => h) (Or.inl ⟨by rfl, ?_⟩) (by assumption) ?_
      rotate_left
      · (intro w hSw; (try dsimp only at hSw); go_simp; (try with_reducible rfl))
      (try simp only [Act.put, List.setIfInBounds_toArray, List.set_cons_zero, List.set_cons_succ])
      refine wpAnyT_all (rs := [8]) (by kernel_rfl) (by simp) (AllT.consL (i := 8) rfl (fun K hK => ?_) AllT.nil)
      go_simp
      refine hK.out _ _ ?_ (fun hH => ?_)
      · (first | (simp [go_sem, ↓IntWalk.iteOmega, *]; done) | go_keep)
      clear hK K
      (try simp only [Act.put, List.setIfInBounds_toArray, List.set_cons_zero, List.set_cons_succ])
      refine wpAnyT_all (rs := [9]) (by kernel_rfl) (by simp) (AllT.consL (i := 9) rfl (fun K hK => ?_) AllT.nil)
      refine step_append_owns rfl _ _ 22 (by rfl) 3 1 8 (.int .i64 0) Try.underlying22 Try.infoInt rfl (by decide) mb _ 0 _ _ _ (HO.out.grew (by (repeat (first | exact Grew.refl _ | refine Grew.over ?_ _ | refine Grew.alloc ?_ _ | refine Grew.drew ?_ | refine Grew.drewN ?_ _)))) rfl (by rfl) _ 1 1 (by rfl) [.int .i64 (2 * x)] rfl (fun h => by cases h) (one_news _ (by rw [Addr.add_lit]; (simp [go_sem, ↓IntWalk.iteOmega]))) (by simp [Value.oneCell']) (by simp only [maxLen]; omega) (by omega) (by first | rfl | omega | (simp <;> omega)) ?_
      intro v1 w6 hO1 hg1 hb1 _
      obtain ⟨p1, c1, rfl⟩ := own_form hO1 (k := 0) rfl
      have hbk := own_blk hO1 (j := 1) rfl
      have q0 := hbk.2.2.2.2 0 _ rfl
      have q1 := hbk.2.2.2.1 0
      have q2 := hbk.2.2.1
      have hold : ∀ (b i : Nat) x, b < mb → wr.cell? ⟨b, i, none⟩ = some x → w6.cell? ⟨b, i, none⟩ = some x := fun b i x hb h => by
        rw [grownBy_cell hg1 i (by simp; omega) (fun g hg e => by have := hb1 g hg; omega)]
        exact Grew.cellEq (by (repeat (first | exact Grew.refl _ | refine Grew.over ?_ _ | refine Grew.alloc ?_ _ | refine Grew.drew ?_ | refine Grew.drewN ?_ _))) h
      have q3 := hold _ _ _ hbm x0
      have q4 := hold _ _ _ hbsm cs
      refine hK.out _ _ ⟨q0, q3, q4⟩ (fun hH => ?_)
      clear hK K
      (try simp only [Act.put, List.setIfInBounds_toArray, List.set_cons_zero, List.set_cons_succ])
      have Hg6 := Lib.hid (Grew.grownBy (w0 := w2) (Hg.out.trans (by (repeat (first | exact Grew.refl _ | refine Grew.over ?_ _ | refine Grew.alloc ?_ _ | refine Grew.drew ?_ | refine Grew.drewN ?_ _)))) hg1 (fun k hk => by have := hb1 k hk; have := Hmb.out; omega))
      have HO6 := Lib.hid hO1
      clear hO1 hg1 hb1 hold hbk x0 cs r0
      refine wpAnyT_takeL (i := 10) (v := ?_) rfl (by kernel_rfl) (by kernel_rfl) (by kernel_rfl) (by kernel_rfl) (fun _ _ _ h => h) (Or.inl ⟨by rfl, ?_⟩) (by assumption) ?_
      rotate_left
      · (intro w hSw; (try dsimp only at hSw); go_simp; (try with_reducible rfl))
      (try simp only [Act.put, List.setIfInBounds_toArray, List.set_cons_zero, List.set_cons_succ])
      refine wpAnyT_all (rs := [11]) (by kernel_rfl) (by simp) (AllT.lastL rfl (fun K hK => ?_))
      go_simp
      refine hK.out _ _ ?_
      clear hK K
      (try simp only [Act.put, List.setIfInBounds_toArray, List.set_cons_zero, List.set_cons_succ])
      refine wpAnyT_done (by kernel_rfl) ?_ _
      have HO7 := Lib.hid (HO6.out.set (k := 1) rfl 0 (.slice p1 (k + 1) c1))
      have Hg7 := Lib.hid (HO6.out.setGrew (w0 := w2) (by have := Hmb.out; omega) Hg6.out (k := 1) rfl 0 (.slice p1 (k + 1) c1))
      have Hal : Hid (∀ v, v < k + 1 → -1000 ≤ ge s v ∧ ge s v ≤ 1000) := Lib.hid (fun v hv => by
        by_cases e : v = k
        · rw [e, Hx.out]; omega
        · exact Hall.out v (by omega))
      go_wp2
      go_roundw
      case rel =>
        refine ⟨k + 1, p1, c1, by omega, by go_num, Hal.out, ?_, Hg7.out⟩
        have h := HO7.out
        rw [Hdk.out]
        unfold lR
        rw [intVs_app]
        exact h
      case measure => simp [intOf]; omega
    · have hke : k = s.length := by omega
      subst hke
      have HO2 : Hid (Owns wr mb [arR (.slice none 0 0) 0 (dblA (A.take 0)), lR (.slice pv s.length cv) s.length (dbl s), bxR mb (.slice pv s.length cv) (.slice none 0 0)]) := Lib.hid (by
        have h := HO.out
        rw [List.take_length] at h
        exact h.none _ _)
      clear HO
      go_wp2
      go_loopw [5] (fun v5 wr => ∃ (k : Nat) (pa : Option Addr) (ca : Nat), k ≤ A.length ∧ v5 = .int .i64 k ∧ (∀ i, i < k → cap A i ≤ 1000) ∧ Owns wr mb [arR (.slice pa k ca) k (dblA (A.take k)), lR (.slice pv s.length cv) s.length (dbl s), bxR mb (.slice pv s.length cv) (.slice pa k ca)] ∧ Grew w2 wr) (fun v5 _ => A.length - (intOf v5).toNat)
      case atStart => exact ⟨0, none, 0, Nat.zero_le _, rfl, fun v hv => (by omega), HO2.out, Hg.out⟩
      case round =>
        clear HO2 Hg x0 x1 hbw
        obtain ⟨k, pa, ca, hk, rfl, hcaps, hO, hg⟩ := hrel
        have Hcaps := Lib.hid hcaps
        have HO := Lib.hid hO
        have Hg := Lib.hid hg
        clear hcaps hO hg
        have x0 := Hg.out.cellEq Hx0.out
        have x1 := Hg.out.cellEq Hx1.out
        have hbw := cell_lt x0
        by_cases hlt : k < A.length
        · obtain ⟨b2, o2, rfl, hb2, c0, c1, c2, c3⟩ := (HA.out.grew (Hg2.out.trans Hg.out)).open hlt
          have hva := HV.out.a k hlt
          have Hdk := Lib.hid (dblA_take hlt)
          unfold cap cst at hva
          obtain ⟨fr, hfr⟩ : ∃ x, (aK A k).fr = x := ⟨_, rfl⟩
          obtain ⟨te, hte⟩ : ∃ x, (aK A k).ed = x := ⟨_, rfl⟩
          obtain ⟨cc, hcc⟩ : ∃ x, (aK A k).cap = x := ⟨_, rfl⟩
          obtain ⟨co, hco⟩ : ∃ x, (aK A k).cost = x := ⟨_, rfl⟩
          rw [hfr] at c0 hva Hdk
          rw [hte] at c1 hva Hdk
          rw [hcc] at c2 hva Hdk
          rw [hco] at c3 hva Hdk
          have Hcc := Lib.hid hcc
          clear hfr hte hcc hco
          obtain ⟨⟨v1, v2⟩, ⟨v3, v4⟩, ⟨v5, v6⟩, v7, v8⟩ := hva
          go_upto_region 14 with fail
          obtain ⟨w3, hw3⟩ : ∃ w3, wr.alloc (.cells #[.int .i64 fr, .int .i64 te, .int .i64 cc, .int .i64 co] 36) = w3 := ⟨_, rfl⟩
          obtain ⟨aw, haw⟩ : ∃ aw, wr.heap.size = aw := ⟨_, rfl⟩
          have hg3 : Grew wr w3 := by rw [← hw3]; (repeat (first | exact Grew.refl _ | refine Grew.over ?_ _ | refine Grew.alloc ?_ _ | refine Grew.drew ?_ | refine Grew.drewN ?_ _))
          have HO3 : Hid (Owns w3 mb [⟨.slice (some ⟨aw, 0, none⟩) 4 4, 36, 1, 4, [.int .i64 fr, .int .i64 te, .int .i64 cc, .int .i64 co]⟩, arR (.slice pa k ca) k (dblA (A.take k)), lR (.slice pv s.length cv) s.length (dbl s), bxR mb (.slice pv s.length cv) (.slice pa k ca)]) :=
            Lib.hid (by rw [← hw3]; exact HO.out.made (by rw [← Hmb.out]; exact Hg.out.below.size) #[.int .i64 fr, .int .i64 te, .int .i64 cc, .int .i64 co] 36 1 4 aw rfl (by decide) haw.symm)
          have Hg3 := Lib.hid (Hg.out.trans hg3)
          replace x0 := hg3.cellEq x0
          replace x1 := hg3.cellEq x1
          rw [hw3]
          try rw [haw]
          clear hw3 haw hg3 c0 c1 c2 c3 HO Hg hb2
          have hbz3 := own_blk HO3.out (j := 0) rfl
          have z2 := hbz3.2.2.2.2 2 _ rfl
          have zf := hbz3.2.2.2.1 2
          have ha3 := hbz3.2.2.1
          clear hbz3
          by_cases hhi : 1000 < cc
          · go_wp2_with (go_at_call 9; apply Calls.mono; (with_reducible exact awake_p _); rintro e w' ⟨rfl, x, rfl⟩)
            go_ret
            exact ⟨rfl, Hg2.out.trans (Hg3.out.trans (by (repeat (first | exact Grew.refl _ | refine Grew.over ?_ _ | refine Grew.alloc ?_ _ | refine Grew.drew ?_ | refine Grew.drewN ?_ _))))⟩
          have hwr : IntKind.i64.wrap (2 * cc) = 2 * cc := IntWalk.i64_in _ ⟨by omega, by omega⟩
          have HO4 := Lib.hid (HO3.out.set (k := 0) rfl 2 (.int .i64 (2 * cc)))
          have Hg4 := Lib.hid (HO3.out.setGrew (w0 := w2) (by have := Hmb.out; omega) Hg3.out (k := 0) rfl 2 (.int .i64 (2 * cc)))
          go_upto_region 17 with fail
          obtain ⟨w4, hw4⟩ : ∃ w4, w3.setCell ⟨aw, 2, none⟩ (.int .i64 (2 * cc)) = w4 := ⟨_, rfl⟩
          replace HO4 : Hid (Owns w4 mb [⟨.slice (some ⟨aw, 0, none⟩) 4 4, 36, 1, 4, [.int .i64 fr, .int .i64 te, .int .i64 (2 * cc), .int .i64 co]⟩, arR (.slice pa k ca) k (dblA (A.take k)), lR (.slice pv s.length cv) s.length (dbl s), bxR mb (.slice pv s.length cv) (.slice pa k ca)]) := Lib.hid (by rw [← hw4]; exact HO4.out)
          replace Hg4 : Hid (Grew w2 w4) := Lib.hid (by rw [← hw4]; exact Hg4.out)
          rw [hw4]
          clear hw4 z2 zf ha3 HO3 Hg3 hwr x0 x1 hbw
          have hbz4 := own_blk HO4.out (j := 0) rfl
          have z0 := hbz4.2.2.2.2 0 _ rfl
          have z1 := hbz4.2.2.2.2 1 _ rfl
          have z2 := hbz4.2.2.2.2 2 _ rfl
          have z3 := hbz4.2.2.2.2 3 _ rfl
          have ha4 := hbz4.2.2.1
          have hbk := own_blk HO4.out (j := 3) rfl
          have r1 := hbk.2.2.2.2 1 _ rfl
          have hmbw := hbk.2.2.1
          clear hbz4 hbk
          have hsw : mb ≤ w4.heap.size := by omega
          go_upto_region 12 with (at_builtin; refine wp_append_owns rfl _ _ 23 rfl 36 4 32 (.agg #[.int .i64 0, .int .i64 0, .int .i64 0, .int .i64 0]) Try.underlying23 Try.infoArk rfl (by decide) mb _ 1 _ _ _ (HO4.out.grew (by (repeat (first | exact Grew.refl _ | refine Grew.over ?_ _ | refine Grew.alloc ?_ _ | refine Grew.drew ?_ | refine Grew.drewN ?_ _)))) rfl rfl _ 1 1 rfl [.int .i64 fr, .int .i64 te, .int .i64 (2 * cc), .int .i64 co] rfl (fun h => by cases h) (four_news (by (simp [go_sem, ↓IntWalk.iteOmega])) (by (simp [go_sem, ↓IntWalk.iteOmega])) (by (simp [go_sem, ↓IntWalk.iteOmega])) (by (simp [go_sem, ↓IntWalk.iteOmega]))) (by simp [Value.oneCell']) (by simp only [maxLen]; omega) (by omega) (by first | rfl | omega | (simp <;> omega)) ?_; intro v1 w6 hO1 hg1 hb1 _; obtain ⟨p1, c1, rfl⟩ := own_form hO1 (k := 1) rfl; have Hg6 := Lib.hid (Grew.grownBy (w0 := w2) (Hg4.out.trans (by (repeat (first | exact Grew.refl _ | refine Grew.over ?_ _ | refine Grew.alloc ?_ _ | refine Grew.drew ?_ | refine Grew.drewN ?_ _)))) hg1 (fun k hk => by have := hb1 k hk; have := Hmb.out; omega)); have HO6 := Lib.hid hO1; have hbk := own_blk hO1 (j := 3) rfl; have q0 := hbk.2.2.2.2 1 _ rfl; have q1 := hbk.2.2.2.1 1; have q2 := hbk.2.2.1; clear hO1 hg1 hb1 hbk z0 z1 z2 z3 ha4 r1 hmbw hsw)
          have HO7 := Lib.hid (HO6.out.set (k := 3) rfl 1 (.slice p1 (k + 1) c1))
          have Hg7 := Lib.hid (HO6.out.setGrew (w0 := w2) (by have := Hmb.out; omega) Hg6.out (k := 3) rfl 1 (.slice p1 (k + 1) c1))
          have Hal : Hid (∀ i, i < k + 1 → cap A i ≤ 1000) := Lib.hid (fun i hi => by
            by_cases e : i = k
            · rw [e]; unfold cap; rw [Hcc.out]; omega
            · exact Hcaps.out i (by omega))
          go_wp2
          go_roundw
          case rel =>
            refine ⟨k + 1, p1, c1, by omega, by go_num, Hal.out, ?_, Hg7.out⟩
            have h := HO7.out.tail
            rw [Hdk.out]
            unfold arR
            rw [arVs_app]
            exact h
          case measure => simp [intOf]; omega
        · have hke : k = A.length := by omega
          subst hke
          have HV2 := Lib.hid (vN_dbl HV.out Hall.out Hcaps.out)
          have HO2 : Hid (Owns wr mb [arR (.slice pa A.length ca) A.length (dblA A), lR (.slice pv s.length cv) s.length (dbl s), bxR mb (.slice pv s.length cv) (.slice pa A.length ca)]) := Lib.hid (by
            have h := HO.out
            rwa [List.take_length] at h)
          have HS2 : Hid (Ints wr pv (dbl s)) := Lib.hid (own_intsG HO2.out (k := 1) rfl (dbl_len s) (by omega) (ints_mem (dbl_len s) (lo := -2000) (hi := 2000) (fun v hv => by have := Hall.out v hv; rw [ge_dbl]; omega) (by decide) (by decide)))
          have HA2 : Hid (Arks wr pa (dblA A)) := Lib.hid (own_arks HO2.out (k := 0) rfl (dblA_len A) (by omega) (fun i hi => by have := HV2.out.a i hi; have := HV2.out.n; unfold cap cst at *; unfold w64; omega))
          have Hnil2 := Lib.hid (own_nil HO2.out (k := 1) rfl)
          have hbk := own_blk HO2.out (j := 2) rfl
          have r0 := hbk.2.2.2.2 0 _ rfl
          have r1 := hbk.2.2.2.2 1 _ rfl
          have hmbw := hbk.2.2.1
          have HL1 := Lib.hid (dbl_len s)
          have HL2 := Lib.hid (dblA_len A)
          clear hbk HO HO2
          have HS1 := Lib.hid (HS.out.grew (Hg2.out.trans Hg.out))
          have HA1 := Lib.hid (HA.out.grew (Hg2.out.trans Hg.out))
          go_upto_region 19 with (go_at_call 18; apply Calls.mono; (with_reducible exact solve_b HV.out HS1.out HA1.out rfl rfl Hnil.out); rintro e w3 ⟨hg3, r, kk, c, z, f, rfl, hl1, hI1, hs1⟩; have Hg3 := Lib.hid hg3; replace x0 := hg3.cellEq x0; replace x1 := hg3.cellEq x1; replace r0 := hg3.cellEq r0; replace r1 := hg3.cellEq r1; have Hl1 := Lib.hid hl1; have HI1 := Lib.hid hI1; have Hs1 := Lib.hid hs1; replace hbw := cell_lt x0; replace hmbw := cell_lt r0; clear hg3 hl1 hI1 hs1)
          go_upto_region 20 with (go_at_call 18; apply Calls.mono; (with_reducible exact solve_b HV2.out (HS2.out.grew Hg3.out) (HA2.out.grew Hg3.out) HL1.out HL2.out Hnil2.out); rintro e w4 ⟨hg4, r', kk', c', z', f', rfl, hl2, hI2, hs2⟩; have Hg4 := Lib.hid (Hg3.out.trans hg4); have HI3 := Lib.hid (HI1.out.grew hg4); replace x0 := hg4.cellEq x0; replace x1 := hg4.cellEq x1; replace r0 := hg4.cellEq r0; replace r1 := hg4.cellEq r1; have Hl2 := Lib.hid hl2; have HI2 := Lib.hid hI2; have Hs2 := Lib.hid hs2; replace hbw := cell_lt x0; replace hmbw := cell_lt r0; clear hg4 hl2 hI2 hs2)
          have hsb := sol_both HV.out HV2.out Hs1.out Hs2.out
          obtain ⟨hz, hy⟩ := hsb
          subst hz
          have hyb := cosS_bd (f := f) HV.out
          obtain ⟨y, ey⟩ : ∃ y, cosS s A f = y := ⟨_, rfl⟩
          rw [ey] at hy hyb
          obtain ⟨y1, y2⟩ := hyb
          have hwr : IntKind.i64.wrap (2 * y) = 2 * y := IntWalk.i64_in _ ⟨by omega, by omega⟩
          have Ey := Lib.hid ey
          have Hy := Lib.hid hy
          have HS3 := Lib.hid (HS1.out.grew Hg4.out)
          have HA3 := Lib.hid (HA1.out.grew Hg4.out)
          have HS4 := Lib.hid (HS2.out.grew Hg4.out)
          have HA4 := Lib.hid (HA2.out.grew Hg4.out)
          clear ey hy
          refine wp_region_over (by kernel_rfl) (by kernel_rfl) ?_; (repeat (go_big_quiet_step (first
                      | (go_at_call 14; apply over_call; with_reducible exact cost_e Ey.out (HS3.out.grew (by (repeat (first | exact Grew.refl _ | refine Grew.over ?_ _ | refine Grew.alloc ?_ _ | refine Grew.drew ?_ | refine Grew.drewN ?_ _)))) (HA3.out.grew (by (repeat (first | exact Grew.refl _ | refine Grew.over ?_ _ | refine Grew.alloc ?_ _ | refine Grew.drew ?_ | refine Grew.drewN ?_ _)))) (HI3.out.grew (by (repeat (first | exact Grew.refl _ | refine Grew.over ?_ _ | refine Grew.alloc ?_ _ | refine Grew.drew ?_ | refine Grew.drewN ?_ _)))) rfl rfl Hl1.out)
                      | (go_at_call 14; apply over_call; with_reducible exact cost_e Hy.out (HS4.out.grew (by (repeat (first | exact Grew.refl _ | refine Grew.over ?_ _ | refine Grew.alloc ?_ _ | refine Grew.drew ?_ | refine Grew.drewN ?_ _)))) (HA4.out.grew (by (repeat (first | exact Grew.refl _ | refine Grew.over ?_ _ | refine Grew.alloc ?_ _ | refine Grew.drew ?_ | refine Grew.drewN ?_ _)))) (HI2.out.grew (by (repeat (first | exact Grew.refl _ | refine Grew.over ?_ _ | refine Grew.alloc ?_ _ | refine Grew.drew ?_ | refine Grew.drewN ?_ _)))) HL1.out HL2.out Hl2.out)
                      | (go_at_call 9; apply over_call; with_reducible exact awake_p _)))); refine wpQuiet_nil ?_; intro w5 hW; replace hW : Grew _ w5 := hW
          have Hg5 : Hid (Grew w w5) := Lib.hid (Hg2.out.trans (Hg.out.trans (Hg4.out.trans hW)))
          clear hW
          go_wp2
          go_ret
          exact ⟨rfl, Hg5.out⟩
end Go.Proofs.Ytnnlhmialmhpfaa
