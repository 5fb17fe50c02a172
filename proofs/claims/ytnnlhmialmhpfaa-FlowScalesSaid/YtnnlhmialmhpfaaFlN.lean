/- Optimal of the program. -/
import Derived.Test.YtnnlhmialmhpfaaFlM
set_option linter.unusedSimpArgs false
set_option linter.unusedVariables false
namespace Go.Proofs.Ytnnlhmialmhpfaa
open Go.RowKit
attribute [local go_sem ↓] Go.wp_at_zero Go.wp_at_succ

set_option maxHeartbeats 8000000 in
theorem optimal_p (p q r : Option Addr) (n cp m cq k cr : Nat) (s : List Int) (A : List Ark) (f : List Int) (w : World) (hS : Ints w p s) (hA : Arks w q A) (hF : Ints w r f) (hn : s.length = n) (hm : A.length = m) (hk : f.length = k) (hnil : p = none → n = 0 ∧ cp = 0) :
    Calls Try.prog 16 #[.agg #[.slice p n cp, .slice q m cq], .slice r k cr] w fun e w' => (∃ o : Bool, e = .returned (.bool o) ∧ (o = true ↔ chkS s A f = 0 ∧ ∃ π, Pot A f π)) ∧ Grew w w' := by
  subst hn hm hk
  have ham := hA.1
  have hsm := hS.1
  have HS := Lib.hid hS
  have HA := Lib.hid hA
  have HF := Lib.hid hF
  have Hnil := Lib.hid hnil
  clear hS hA hF hnil
  obtain ⟨z, hz⟩ : ∃ z, chkS s A f = z := ⟨_, rfl⟩
  have Hz := Lib.hid hz
  by_cases hz0 : z = 0
  case neg =>
    have hz1 : (z == 0) = false := by rw [beq_eq_false_iff_ne]; exact hz0
    have Hf : Hid (¬ (chkS s A f = 0 ∧ ∃ π, Pot A f π)) := Lib.hid (fun h => hz0 (by rw [← hz]; exact h.1))
    clear hz hz0
    go_enter Try.func16, Try.ntmps16
    go_wp2
    refine wp_region_over (by kernel_rfl) (by kernel_rfl) ?_; (repeat (go_big_quiet_step ((go_at_call 12; apply over_call; with_reducible exact checkp_e Hz.out (HS.out.grew (by (repeat (first | exact Grew.refl _ | refine Grew.over ?_ _ | refine Grew.alloc ?_ _ | refine Grew.drew ?_ | refine Grew.drewN ?_ _)))) (HA.out.grew (by (repeat (first | exact Grew.refl _ | refine Grew.over ?_ _ | refine Grew.alloc ?_ _ | refine Grew.drew ?_ | refine Grew.drewN ?_ _)))) (HF.out.grew (by (repeat (first | exact Grew.refl _ | refine Grew.over ?_ _ | refine Grew.alloc ?_ _ | refine Grew.drew ?_ | refine Grew.drewN ?_ _)))) rfl rfl rfl Hnil.out)))); refine wpQuiet_nil ?_; intro w3 hW; replace hW : Grew _ w3 := hW
    go_wp2
    go_ret
    exact ⟨⟨false, rfl, fun h => by (cases h), fun h => absurd h Hf.out⟩, Grew.trans (by (repeat (first | exact Grew.refl _ | refine Grew.over ?_ _ | refine Grew.alloc ?_ _ | refine Grew.drew ?_ | refine Grew.drewN ?_ _))) hW⟩
  subst hz0
  have hfz : fitsS s A f = 0 := by
    rcases chk_cases s A f with h | h
    · exact h.1
    · rw [hz] at h; omega
  have HV := Lib.hid (fitsS_zero hfz).1
  have Hfit := Lib.hid (fitsS_zero hfz).2
  clear hz hfz
  go_enter Try.func16, Try.ntmps16
  go_wp2
  obtain ⟨w0, hw0⟩ : ∃ w0, w.alloc (.cells #[.slice p s.length cp, .slice q A.length cq] 25) = w0 := ⟨_, rfl⟩
  have x0 : w0.cell? ⟨w.heap.size, 0, none⟩ = some (.slice p s.length cp) := by rw [← hw0]; simp [go_sem]
  have x1 : w0.cell? ⟨w.heap.size, 1, none⟩ = some (.slice q A.length cq) := by rw [← hw0]; simp [go_sem]
  have Hg0 : Hid (Grew w w0) := Lib.hid (by rw [← hw0]; (repeat (first | exact Grew.refl _ | refine Grew.over ?_ _ | refine Grew.alloc ?_ _ | refine Grew.drew ?_ | refine Grew.drewN ?_ _)))
  rw [hw0]
  clear hw0
  refine wp_region_T (s := 14) (S := fun w' => w'.cell? ⟨w.heap.size, 0, none⟩ = some (.slice p s.length cp) ∧ w'.cell? ⟨w.heap.size, 1, none⟩ = some (.slice q A.length cq)) (by kernel_rfl) ⟨x0, x1⟩ (fun hH => ?_)
  refine wpAnyT_takeL (i := 0) (v := ?_) rfl (by kernel_rfl) (by kernel_rfl) (by kernel_rfl) (by kernel_rfl) (fun _ _ _ h => h) (Or.inl ⟨by rfl, ?_⟩) (by assumption) ?_
  rotate_left
  · (intro w hSw; (try dsimp only at hSw); go_simp; (try with_reducible rfl))
  (try simp only [Act.put, List.setIfInBounds_toArray, List.set_cons_zero, List.set_cons_succ])
  refine wpAnyT_takeL (i := 1) (v := ?_) rfl (by kernel_rfl) (by kernel_rfl) (by kernel_rfl) (by kernel_rfl) (fun _ _ _ h => h) (Or.inl ⟨by rfl, ?_⟩) (by assumption) ?_
  rotate_left
  · (intro w hSw; (try dsimp only at hSw); go_simp; (try with_reducible rfl))
  (try simp only [Act.put, List.setIfInBounds_toArray, List.set_cons_zero, List.set_cons_succ])
  refine wpAnyT_all (rs := [2]) (by kernel_rfl) (by simp) (AllT.consL (i := 2) rfl (fun K hK => ?_) AllT.nil)
  go_simp; go_wp2_with (go_at_call 12; apply Calls.mono; (with_reducible exact checkp_e Hz.out (HS.out.grew (Hg0.out.trans (by (repeat (first | exact Grew.refl _ | refine Grew.over ?_ _ | refine Grew.alloc ?_ _ | refine Grew.drew ?_ | refine Grew.drewN ?_ _))))) (HA.out.grew (Hg0.out.trans (by (repeat (first | exact Grew.refl _ | refine Grew.over ?_ _ | refine Grew.alloc ?_ _ | refine Grew.drew ?_ | refine Grew.drewN ?_ _))))) (HF.out.grew (Hg0.out.trans (by (repeat (first | exact Grew.refl _ | refine Grew.over ?_ _ | refine Grew.alloc ?_ _ | refine Grew.drew ?_ | refine Grew.drewN ?_ _))))) rfl rfl rfl Hnil.out); rintro e w2 ⟨rfl, hg2⟩; have y0 : w2.cell? ⟨w.heap.size, 0, none⟩ = some (.slice p s.length cp) := Grew.cellEq hg2 x0; have y1 : w2.cell? ⟨w.heap.size, 1, none⟩ = some (.slice q A.length cq) := Grew.cellEq hg2 x1; have Hg2 : Hid (Grew w w2) := Lib.hid ((Hg0.out.trans (by (repeat (first | exact Grew.refl _ | refine Grew.over ?_ _ | refine Grew.alloc ?_ _ | refine Grew.drew ?_ | refine Grew.drewN ?_ _)))).trans hg2); clear hg2)
  refine hK.out _ _ ?_ (fun hH => ?_)
  · (first | (simp [go_sem, ↓IntWalk.iteOmega, *]; done) | go_keep)
  clear hK K
  (try simp only [Act.put, List.setIfInBounds_toArray, List.set_cons_zero, List.set_cons_succ])
  clear x0 x1 Hg0
  refine wpAnyT_takeL (i := 3) (v := ?_) rfl (by kernel_rfl) (by kernel_rfl) (by kernel_rfl) (by kernel_rfl) (fun _ _ _ h => h) (Or.inl ⟨by rfl, ?_⟩) (by assumption) ?_
  rotate_left
  · (intro w hSw; (try dsimp only at hSw); go_simp; (try with_reducible rfl))
  (try simp only [Act.put, List.setIfInBounds_toArray, List.set_cons_zero, List.set_cons_succ])
  refine wpAnyT_takeL (i := 4) (v := ?_) rfl (by kernel_rfl) (by kernel_rfl) (by kernel_rfl) (by kernel_rfl) (fun _ _ _ h => h) (Or.inl ⟨by rfl, ?_⟩) (by assumption) ?_
  rotate_left
  · (intro w hSw; (try dsimp only at hSw); go_simp; (try with_reducible rfl))
  (try simp only [Act.put, List.setIfInBounds_toArray, List.set_cons_zero, List.set_cons_succ])
  refine wpAnyT_takeL (i := 5) (v := ?_) rfl (by kernel_rfl) (by kernel_rfl) (by kernel_rfl) (by kernel_rfl) (fun _ _ _ h => h) (Or.inl ⟨by rfl, ?_⟩) (by assumption) ?_
  rotate_left
  · (intro w hSw; (try dsimp only at hSw); go_simp; (try with_reducible rfl))
  (try simp only [Act.put, List.setIfInBounds_toArray, List.set_cons_zero, List.set_cons_succ])
  refine wpAnyT_takeL (i := 6) (v := ?_) rfl (by kernel_rfl) (by kernel_rfl) (by kernel_rfl) (by kernel_rfl) (fun _ _ _ h => h) (Or.inl ⟨by rfl, ?_⟩) (by assumption) ?_
  rotate_left
  · (intro w hSw; (try dsimp only at hSw); go_simp; (try with_reducible rfl))
  (try simp only [Act.put, List.setIfInBounds_toArray, List.set_cons_zero, List.set_cons_succ])
  refine wpAnyT_takeL (i := 8) (v := ?_) rfl (by kernel_rfl) (by kernel_rfl) (by kernel_rfl) (by kernel_rfl) (fun _ _ _ h => h) (Or.inl ⟨by rfl, ?_⟩) (by assumption) ?_
  rotate_left
  · (intro w hSw; (try dsimp only at hSw); go_simp; (try with_reducible rfl))
  (try simp only [Act.put, List.setIfInBounds_toArray, List.set_cons_zero, List.set_cons_succ])
  refine wpAnyT_takeL (i := 9) (v := ?_) rfl (by kernel_rfl) (by kernel_rfl) (by kernel_rfl) (by kernel_rfl) (fun _ _ _ h => h) (Or.inl ⟨by rfl, ?_⟩) (by assumption) ?_
  rotate_left
  · (intro w hSw; (try dsimp only at hSw); go_simp; (try with_reducible rfl))
  (try simp only [Act.put, List.setIfInBounds_toArray, List.set_cons_zero, List.set_cons_succ])
  refine wpAnyT_takeL (i := 10) (v := ?_) rfl (by kernel_rfl) (by kernel_rfl) (by kernel_rfl) (by kernel_rfl) (fun _ _ _ h => h) (Or.inl ⟨by rfl, ?_⟩) (by assumption) ?_
  rotate_left
  · (intro w hSw; (try dsimp only at hSw); go_simp; (try with_reducible rfl))
  (try simp only [Act.put, List.setIfInBounds_toArray, List.set_cons_zero, List.set_cons_succ])
  refine wpAnyT_all (rs := [7]) (by kernel_rfl) (by simp) (AllT.consL (i := 7) rfl (fun K hK => ?_) AllT.nil)
  go_simp; go_wp2_with (go_at_call 25; apply Calls.mono; (with_reducible exact rest_p _ _ _ _ _ _ _ _ _ s A f _ (HA.out.grew (Hg2.out.trans (by (repeat (first | exact Grew.refl _ | refine Grew.over ?_ _ | refine Grew.alloc ?_ _ | refine Grew.drew ?_ | refine Grew.drewN ?_ _))))) (HF.out.grew (Hg2.out.trans (by (repeat (first | exact Grew.refl _ | refine Grew.over ?_ _ | refine Grew.alloc ?_ _ | refine Grew.drew ?_ | refine Grew.drewN ?_ _))))) rfl rfl HV.out Hfit.out); rintro e w3 ⟨hg3, v3, rfl, hO3⟩; obtain ⟨pv, cv, rfl, hSt⟩ := own_stps hO3 (k := 0) rfl; have z0 : w3.cell? ⟨w.heap.size, 0, none⟩ = some (.slice p s.length cp) := Grew.cellEq hg3 y0; have z1 : w3.cell? ⟨w.heap.size, 1, none⟩ = some (.slice q A.length cq) := Grew.cellEq hg3 y1; have Hg3 : Hid (Grew w w3) := Lib.hid ((Hg2.out.trans (by (repeat (first | exact Grew.refl _ | refine Grew.over ?_ _ | refine Grew.alloc ?_ _ | refine Grew.drew ?_ | refine Grew.drewN ?_ _)))).trans hg3); have HSt := Lib.hid hSt; clear hg3 hO3 hSt)
  refine hK.out _ _ ?_ (fun hH => ?_)
  · (first | (simp [go_sem, ↓IntWalk.iteOmega, *]; done) | go_keep)
  clear hK K
  (try simp only [Act.put, List.setIfInBounds_toArray, List.set_cons_zero, List.set_cons_succ])
  clear y0 y1 Hg2
  refine wpAnyT_all (rs := [11]) (by kernel_rfl) (by simp) (AllT.consL (i := 11) rfl (fun K hK => ?_) AllT.nil)
  go_simp; go_wp2_with (go_at_call 26; apply Calls.mono; (with_reducible exact cycle_p _ _ _ _ s A f _ HV.out (HSt.out.grew (by (repeat (first | exact Grew.refl _ | refine Grew.over ?_ _ | refine Grew.alloc ?_ _ | refine Grew.drew ?_ | refine Grew.drewN ?_ _)))) rfl rfl); rintro e w4 ⟨⟨c, rfl, hc⟩, hg4⟩; have q0 : w4.cell? ⟨w.heap.size, 0, none⟩ = some (.slice p s.length cp) := Grew.cellEq hg4 z0; have q1 : w4.cell? ⟨w.heap.size, 1, none⟩ = some (.slice q A.length cq) := Grew.cellEq hg4 z1; have Hg4 : Hid (Grew w w4) := Lib.hid ((Hg3.out.trans (by (repeat (first | exact Grew.refl _ | refine Grew.over ?_ _ | refine Grew.alloc ?_ _ | refine Grew.drew ?_ | refine Grew.drewN ?_ _)))).trans hg4); have Hc := Lib.hid hc; clear hg4 hc)
  refine hK.out _ _ ?_ (fun hH => ?_)
  · (first | (simp [go_sem, ↓IntWalk.iteOmega, *]; done) | go_keep)
  clear hK K
  (try simp only [Act.put, List.setIfInBounds_toArray, List.set_cons_zero, List.set_cons_succ])
  refine wpAnyT_takeL (i := 12) (v := ?_) rfl (by kernel_rfl) (by kernel_rfl) (by kernel_rfl) (by kernel_rfl) (fun _ _ _ h => h) (Or.inl ⟨by rfl, ?_⟩) (by assumption) ?_
  rotate_left
  · (intro w hSw; (try dsimp only at hSw); go_simp; (try with_reducible rfl))
  (try simp only [Act.put, List.setIfInBounds_toArray, List.set_cons_zero, List.set_cons_succ])
  refine wpAnyT_takeL (i := 13) (v := ?_) rfl (by kernel_rfl) (by kernel_rfl) (by kernel_rfl) (by kernel_rfl) (fun _ _ _ h => h) (Or.inl ⟨by rfl, ?_⟩) (by assumption) ?_
  rotate_left
  · (intro w hSw; (try dsimp only at hSw); go_simp; (try with_reducible rfl))
  (try simp only [Act.put, List.setIfInBounds_toArray, List.set_cons_zero, List.set_cons_succ])
  refine wpAnyT_all (rs := [14]) (by kernel_rfl) (by simp) (AllT.lastL rfl (fun K hK => ?_))
  go_simp
  refine hK.out _ _ ?_
  clear hK K
  (try simp only [Act.put, List.setIfInBounds_toArray, List.set_cons_zero, List.set_cons_succ])
  refine wpAnyT_done (by kernel_rfl) ?_ _
  go_wp2
  go_ret
  refine ⟨⟨!c, rfl, fun h => ⟨Hz.out, Hc.out.1 (by simpa using h)⟩, fun h => ?_⟩, Hg4.out⟩
  rw [Hc.out.2 h.2]
  rfl
end Go.Proofs.Ytnnlhmialmhpfaa
