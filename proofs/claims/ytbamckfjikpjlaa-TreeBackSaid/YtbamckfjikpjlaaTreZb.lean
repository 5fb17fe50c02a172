/- TreeNames. -/
import Derived.Test.YtbamckfjikpjlaaTreZa
set_option linter.unusedSimpArgs false
set_option linter.unusedVariables false
namespace Go.Proofs.Ytbamckfjikpjlaa
open Go.RowKit
attribute [local go_sem ↓] Go.wp_at_zero Go.wp_at_succ

set_option maxHeartbeats 4000000 in
theorem names_l (N : Nat) (name : ByteArray) (dir : Bool) (p : Option Addr) (n cap : Nat) (l : List St) (w : World) (hS : Sts N w p cap l) (hn : l.length = n) :
    Calls Try.prog 3 #[.agg #[.string name, .bool dir, .slice p n cap]] w fun e w' => e = .returned (.bool true) ∧ Grew w w' := by
  have HS := Lib.hid hS
  clear hS
  have Hfew := Lib.hid (fun W (hW : Grew w W) => few_p name dir p n cap l N W (HS.out.grew (stable_st _) hW) hn)
  obtain ⟨NS, hNS⟩ : ∃ r, namesL name l = r := ⟨_, rfl⟩
  have HNS := Lib.hid hNS
  obtain ⟨CS, hCS⟩ : ∃ r, clustL name l = r := ⟨_, rfl⟩
  have HCS := Lib.hid hCS
  clear hNS hCS
  go_enter Try.func3, Try.ntmps3
  go_wp2_with (first
    | (go_at_call 8; apply Calls.mono; (with_reducible exact Hfew.out _ (by (repeat (first | exact Grew.refl _ | refine Grew.over ?_ _ | refine Grew.alloc ?_ _ | refine Grew.drew ?_ | refine Grew.drewN ?_ _)))); rintro e w1 ⟨⟨b, rfl, hbb⟩, hg1⟩; have Hg1 := Lib.hid (show Grew w w1 from Grew.trans (by (repeat (first | exact Grew.refl _ | refine Grew.over ?_ _ | refine Grew.alloc ?_ _ | refine Grew.drew ?_ | refine Grew.drewN ?_ _))) hg1); have Ha := Lib.hid ((T3.box w (.string name) (.bool dir) (.slice p n cap) 24).grew hg1); obtain ⟨a0, a1, a2, a3⟩ := Ha.out; clear hg1; rcases hbb with rfl | ⟨rfl, h1, h2, h3⟩)
    | (go_at_call 9; apply Calls.mono; (with_reducible exact awake_l _); rintro e w2 ⟨rfl, hg2⟩; have Hg1 := Lib.hid (Hg1.out.trans (Grew.trans (by (repeat (first | exact Grew.refl _ | refine Grew.over ?_ _ | refine Grew.alloc ?_ _ | refine Grew.drew ?_ | refine Grew.drewN ?_ _))) hg2)); clear hg2))
  · go_ret
    exact ⟨rfl, Hg1.out⟩
  have HS2 := Lib.hid (Sts.dep HS.out h2)
  refine wp_region_T (s := 15) (S := fun w' => w'.cell? ⟨w.heap.size, 0, none⟩ = some (.string name) ∧ w'.cell? ⟨w.heap.size, 1, none⟩ = some (.bool dir) ∧ w'.cell? ⟨w.heap.size, 2, none⟩ = some (.slice p n cap)) (by kernel_rfl) ⟨by simpa using a1, by simpa using a2, by simpa using a3⟩ (fun hH => ?_)
  refine wpAnyT_takeL (i := 0) (v := ?_) rfl (by kernel_rfl) (by kernel_rfl) (by kernel_rfl) (by kernel_rfl) (fun _ _ _ h => h) (Or.inl ⟨by rfl, ?_⟩) (by assumption) ?_
  rotate_left
  · (intro w hSw; (try dsimp only at hSw); go_simp; (try with_reducible rfl))
  (try simp only [Act.put, List.setIfInBounds_toArray, List.set_cons_zero, List.set_cons_succ])
  refine wpAnyT_takeL (i := 2) (v := ?_) rfl (by kernel_rfl) (by kernel_rfl) (by kernel_rfl) (by kernel_rfl) (fun _ _ _ h => h) (Or.inl ⟨by rfl, ?_⟩) (by assumption) ?_
  rotate_left
  · (intro w hSw; (try dsimp only at hSw); go_simp; (try with_reducible rfl))
  (try simp only [Act.put, List.setIfInBounds_toArray, List.set_cons_zero, List.set_cons_succ])
  refine wpAnyT_all (rs := [1]) (by kernel_rfl) (by simp) (AllT.consL (i := 1) rfl (fun K hK => ?_) AllT.nil)
  go_simp; go_wp2_with (go_at_call 11; apply Calls.mono; (with_reducible exact namesp_e HNS.out HS2.out (Hg1.out.trans (by (repeat (first | exact Grew.refl _ | refine Grew.over ?_ _ | refine Grew.alloc ?_ _ | refine Grew.drew ?_ | refine Grew.drewN ?_ _)))) hn h1 h3); rintro e w2 ⟨⟨q2, c2, rfl, hs2⟩, hg2⟩; have Hs2 := Lib.hid hs2; have Hg2 := Lib.hid (Hg1.out.trans (Grew.trans (by (repeat (first | exact Grew.refl _ | refine Grew.over ?_ _ | refine Grew.alloc ?_ _ | refine Grew.drew ?_ | refine Grew.drewN ?_ _))) hg2)); obtain ⟨a0, a1, a2, a3⟩ := Ha.out.grew (Grew.trans (by (repeat (first | exact Grew.refl _ | refine Grew.over ?_ _ | refine Grew.alloc ?_ _ | refine Grew.drew ?_ | refine Grew.drewN ?_ _))) hg2); have Ha := Lib.hid (Ha.out.grew (Grew.trans (by (repeat (first | exact Grew.refl _ | refine Grew.over ?_ _ | refine Grew.alloc ?_ _ | refine Grew.drew ?_ | refine Grew.drewN ?_ _))) hg2)); clear hs2 hg2)
  refine hK.out _ _ ?_ (fun hH => ?_)
  · (first | (simp [go_sem, ↓IntWalk.iteOmega, *]; done) | go_keep)
  clear hK K
  (try simp only [Act.put, List.setIfInBounds_toArray, List.set_cons_zero, List.set_cons_succ])
  refine wpAnyT_all (rs := [3]) (by kernel_rfl) (by simp) (AllT.consL (i := 3) rfl (fun K hK => ?_) AllT.nil)
  go_simp; go_wp2_with (go_at_call 12; apply Calls.mono; (with_reducible exact namesr_e HNS.out HS2.out (Hg2.out.trans (by (repeat (first | exact Grew.refl _ | refine Grew.over ?_ _ | refine Grew.alloc ?_ _ | refine Grew.drew ?_ | refine Grew.drewN ?_ _)))) hn h1 h2 h3); rintro e w3 ⟨⟨q3, c3, rfl, hs3⟩, hg2⟩; have Hs3 := Lib.hid hs3; have Hs2 := Lib.hid (Hs2.out.grew stable_str (Grew.trans (by (repeat (first | exact Grew.refl _ | refine Grew.over ?_ _ | refine Grew.alloc ?_ _ | refine Grew.drew ?_ | refine Grew.drewN ?_ _))) hg2)); have Hg2 := Lib.hid (Hg2.out.trans (Grew.trans (by (repeat (first | exact Grew.refl _ | refine Grew.over ?_ _ | refine Grew.alloc ?_ _ | refine Grew.drew ?_ | refine Grew.drewN ?_ _))) hg2)); obtain ⟨a0, a1, a2, a3⟩ := Ha.out.grew (Grew.trans (by (repeat (first | exact Grew.refl _ | refine Grew.over ?_ _ | refine Grew.alloc ?_ _ | refine Grew.drew ?_ | refine Grew.drewN ?_ _))) hg2); have Ha := Lib.hid (Ha.out.grew (Grew.trans (by (repeat (first | exact Grew.refl _ | refine Grew.over ?_ _ | refine Grew.alloc ?_ _ | refine Grew.drew ?_ | refine Grew.drewN ?_ _))) hg2)); clear hs3 hg2)
  refine hK.out _ _ ?_ (fun hH => ?_)
  · (first | (simp [go_sem, ↓IntWalk.iteOmega, *]; done) | go_keep)
  clear hK K
  (try simp only [Act.put, List.setIfInBounds_toArray, List.set_cons_zero, List.set_cons_succ])
  refine wpAnyT_all (rs := [4]) (by kernel_rfl) (by simp) (AllT.consL (i := 4) rfl (fun K hK => ?_) AllT.nil)
  go_simp; go_wp2_with (go_at_call 10; apply Calls.mono; (with_reducible exact same_yy (Hs2.out.grew stable_str (by (repeat (first | exact Grew.refl _ | refine Grew.over ?_ _ | refine Grew.alloc ?_ _ | refine Grew.drew ?_ | refine Grew.drewN ?_ _)))) (Hs3.out.grew stable_str (by (repeat (first | exact Grew.refl _ | refine Grew.over ?_ _ | refine Grew.alloc ?_ _ | refine Grew.drew ?_ | refine Grew.drewN ?_ _))))); rintro e w4 ⟨rfl, hg2⟩; have Hg2 := Lib.hid (Hg2.out.trans (Grew.trans (by (repeat (first | exact Grew.refl _ | refine Grew.over ?_ _ | refine Grew.alloc ?_ _ | refine Grew.drew ?_ | refine Grew.drewN ?_ _))) hg2)); obtain ⟨a0, a1, a2, a3⟩ := Ha.out.grew (Grew.trans (by (repeat (first | exact Grew.refl _ | refine Grew.over ?_ _ | refine Grew.alloc ?_ _ | refine Grew.drew ?_ | refine Grew.drewN ?_ _))) hg2); have Ha := Lib.hid (Ha.out.grew (Grew.trans (by (repeat (first | exact Grew.refl _ | refine Grew.over ?_ _ | refine Grew.alloc ?_ _ | refine Grew.drew ?_ | refine Grew.drewN ?_ _))) hg2)); clear hg2)
  refine hK.out _ _ ?_ (fun hH => ?_)
  · (first | (simp [go_sem, ↓IntWalk.iteOmega, *]; done) | go_keep)
  clear hK K
  (try simp only [Act.put, List.setIfInBounds_toArray, List.set_cons_zero, List.set_cons_succ])
  refine wpAnyT_all (rs := [5]) (by kernel_rfl) (by simp) (AllT.consL (i := 5) rfl (fun K hK => ?_) AllT.nil)
  go_simp
  refine hK.out _ _ ?_ (fun hH => ?_)
  · (first | (simp [go_sem, ↓IntWalk.iteOmega, *]; done) | go_keep)
  clear hK K
  (try simp only [Act.put, List.setIfInBounds_toArray, List.set_cons_zero, List.set_cons_succ])
  refine wpAnyT_takeL (i := 6) (v := ?_) rfl (by kernel_rfl) (by kernel_rfl) (by kernel_rfl) (by kernel_rfl) (fun _ _ _ h => h) (Or.inl ⟨by rfl, ?_⟩) (by assumption) ?_
  rotate_left
  · (intro w hSw; (try dsimp only at hSw); go_simp; (try with_reducible rfl))
  (try simp only [Act.put, List.setIfInBounds_toArray, List.set_cons_zero, List.set_cons_succ])
  refine wpAnyT_takeL (i := 8) (v := ?_) rfl (by kernel_rfl) (by kernel_rfl) (by kernel_rfl) (by kernel_rfl) (fun _ _ _ h => h) (Or.inl ⟨by rfl, ?_⟩) (by assumption) ?_
  rotate_left
  · (intro w hSw; (try dsimp only at hSw); go_simp; (try with_reducible rfl))
  (try simp only [Act.put, List.setIfInBounds_toArray, List.set_cons_zero, List.set_cons_succ])
  refine wpAnyT_all (rs := [7]) (by kernel_rfl) (by simp) (AllT.consL (i := 7) rfl (fun K hK => ?_) AllT.nil)
  go_simp; go_wp2_with (go_at_call 13; apply Calls.mono; (with_reducible exact clustp_e HCS.out HS2.out (Hg2.out.trans (by (repeat (first | exact Grew.refl _ | refine Grew.over ?_ _ | refine Grew.alloc ?_ _ | refine Grew.drew ?_ | refine Grew.drewN ?_ _)))) hn h1); rintro e w5 ⟨⟨q5, c5, rfl, hs5⟩, hg2⟩; have Hs5 := Lib.hid hs5; have Hg2 := Lib.hid (Hg2.out.trans (Grew.trans (by (repeat (first | exact Grew.refl _ | refine Grew.over ?_ _ | refine Grew.alloc ?_ _ | refine Grew.drew ?_ | refine Grew.drewN ?_ _))) hg2)); obtain ⟨a0, a1, a2, a3⟩ := Ha.out.grew (Grew.trans (by (repeat (first | exact Grew.refl _ | refine Grew.over ?_ _ | refine Grew.alloc ?_ _ | refine Grew.drew ?_ | refine Grew.drewN ?_ _))) hg2); have Ha := Lib.hid (Ha.out.grew (Grew.trans (by (repeat (first | exact Grew.refl _ | refine Grew.over ?_ _ | refine Grew.alloc ?_ _ | refine Grew.drew ?_ | refine Grew.drewN ?_ _))) hg2)); clear hs5 hg2)
  refine hK.out _ _ ?_ (fun hH => ?_)
  · (first | (simp [go_sem, ↓IntWalk.iteOmega, *]; done) | go_keep)
  clear hK K
  (try simp only [Act.put, List.setIfInBounds_toArray, List.set_cons_zero, List.set_cons_succ])
  refine wpAnyT_all (rs := [9]) (by kernel_rfl) (by simp) (AllT.consL (i := 9) rfl (fun K hK => ?_) AllT.nil)
  go_simp; go_wp2_with (go_at_call 14; apply Calls.mono; (with_reducible exact clustr_e HCS.out HS2.out (Hg2.out.trans (by (repeat (first | exact Grew.refl _ | refine Grew.over ?_ _ | refine Grew.alloc ?_ _ | refine Grew.drew ?_ | refine Grew.drewN ?_ _)))) hn h1 h2); rintro e w6 ⟨⟨q6, c6, rfl, hs6⟩, hg2⟩; have Hs6 := Lib.hid hs6; have Hs5 := Lib.hid (Hs5.out.grew stable_str (Grew.trans (by (repeat (first | exact Grew.refl _ | refine Grew.over ?_ _ | refine Grew.alloc ?_ _ | refine Grew.drew ?_ | refine Grew.drewN ?_ _))) hg2)); have Hg2 := Lib.hid (Hg2.out.trans (Grew.trans (by (repeat (first | exact Grew.refl _ | refine Grew.over ?_ _ | refine Grew.alloc ?_ _ | refine Grew.drew ?_ | refine Grew.drewN ?_ _))) hg2)); obtain ⟨a0, a1, a2, a3⟩ := Ha.out.grew (Grew.trans (by (repeat (first | exact Grew.refl _ | refine Grew.over ?_ _ | refine Grew.alloc ?_ _ | refine Grew.drew ?_ | refine Grew.drewN ?_ _))) hg2); have Ha := Lib.hid (Ha.out.grew (Grew.trans (by (repeat (first | exact Grew.refl _ | refine Grew.over ?_ _ | refine Grew.alloc ?_ _ | refine Grew.drew ?_ | refine Grew.drewN ?_ _))) hg2)); clear hs6 hg2)
  refine hK.out _ _ ?_ (fun hH => ?_)
  · (first | (simp [go_sem, ↓IntWalk.iteOmega, *]; done) | go_keep)
  clear hK K
  (try simp only [Act.put, List.setIfInBounds_toArray, List.set_cons_zero, List.set_cons_succ])
  refine wpAnyT_all (rs := [10]) (by kernel_rfl) (by simp) (AllT.consL (i := 10) rfl (fun K hK => ?_) AllT.nil)
  go_simp; go_wp2_with (go_at_call 10; apply Calls.mono; (with_reducible exact same_yy (Hs5.out.grew stable_str (by (repeat (first | exact Grew.refl _ | refine Grew.over ?_ _ | refine Grew.alloc ?_ _ | refine Grew.drew ?_ | refine Grew.drewN ?_ _)))) (Hs6.out.grew stable_str (by (repeat (first | exact Grew.refl _ | refine Grew.over ?_ _ | refine Grew.alloc ?_ _ | refine Grew.drew ?_ | refine Grew.drewN ?_ _))))); rintro e w7 ⟨rfl, hg2⟩; have Hg2 := Lib.hid (Hg2.out.trans (Grew.trans (by (repeat (first | exact Grew.refl _ | refine Grew.over ?_ _ | refine Grew.alloc ?_ _ | refine Grew.drew ?_ | refine Grew.drewN ?_ _))) hg2)); obtain ⟨a0, a1, a2, a3⟩ := Ha.out.grew (Grew.trans (by (repeat (first | exact Grew.refl _ | refine Grew.over ?_ _ | refine Grew.alloc ?_ _ | refine Grew.drew ?_ | refine Grew.drewN ?_ _))) hg2); have Ha := Lib.hid (Ha.out.grew (Grew.trans (by (repeat (first | exact Grew.refl _ | refine Grew.over ?_ _ | refine Grew.alloc ?_ _ | refine Grew.drew ?_ | refine Grew.drewN ?_ _))) hg2)); clear hg2)
  refine hK.out _ _ ?_ (fun hH => ?_)
  · (first | (simp [go_sem, ↓IntWalk.iteOmega, *]; done) | go_keep)
  clear hK K
  (try simp only [Act.put, List.setIfInBounds_toArray, List.set_cons_zero, List.set_cons_succ])
  refine wpAnyT_all (rs := [11]) (by kernel_rfl) (by simp) (AllT.consL (i := 11) rfl (fun K hK => ?_) AllT.nil)
  go_simp
  refine hK.out _ _ ?_ (fun hH => ?_)
  · (first | (simp [go_sem, ↓IntWalk.iteOmega, *]; done) | go_keep)
  clear hK K
  (try simp only [Act.put, List.setIfInBounds_toArray, List.set_cons_zero, List.set_cons_succ])
  refine wpAnyT_all (rs := [12]) (by kernel_rfl) (by simp) (AllT.consL (i := 12) rfl (fun K hK => ?_) AllT.nil)
  go_simp
  refine hK.out _ _ ?_ (fun hH => ?_)
  · (first | (simp [go_sem, ↓IntWalk.iteOmega, *]; done) | go_keep)
  clear hK K
  (try simp only [Act.put, List.setIfInBounds_toArray, List.set_cons_zero, List.set_cons_succ])
  refine wpAnyT_all (rs := [13]) (by kernel_rfl) (by simp) (AllT.consL (i := 13) rfl (fun K hK => ?_) AllT.nil)
  go_simp; go_wp2_with (go_at_call 9; apply Calls.mono; (with_reducible exact awake_l _); rintro e w8 ⟨rfl, hg2⟩; have Hg2 := Lib.hid (Hg2.out.trans (Grew.trans (by (repeat (first | exact Grew.refl _ | refine Grew.over ?_ _ | refine Grew.alloc ?_ _ | refine Grew.drew ?_ | refine Grew.drewN ?_ _))) hg2)); obtain ⟨a0, a1, a2, a3⟩ := Ha.out.grew (Grew.trans (by (repeat (first | exact Grew.refl _ | refine Grew.over ?_ _ | refine Grew.alloc ?_ _ | refine Grew.drew ?_ | refine Grew.drewN ?_ _))) hg2); have Ha := Lib.hid (Ha.out.grew (Grew.trans (by (repeat (first | exact Grew.refl _ | refine Grew.over ?_ _ | refine Grew.alloc ?_ _ | refine Grew.drew ?_ | refine Grew.drewN ?_ _))) hg2)); clear hg2)
  refine hK.out _ _ ?_ (fun hH => ?_)
  · (first | (simp [go_sem, ↓IntWalk.iteOmega, *]; done) | go_keep)
  clear hK K
  (try simp only [Act.put, List.setIfInBounds_toArray, List.set_cons_zero, List.set_cons_succ])
  refine wpAnyT_all (rs := [14]) (by kernel_rfl) (by simp) (AllT.consL (i := 14) rfl (fun K hK => ?_) AllT.nil)
  go_simp
  refine hK.out _ _ ?_ (fun hH => ?_)
  · (first | (simp [go_sem, ↓IntWalk.iteOmega, *]; done) | go_keep)
  clear hK K
  (try simp only [Act.put, List.setIfInBounds_toArray, List.set_cons_zero, List.set_cons_succ])
  refine wpAnyT_all (rs := [15]) (by kernel_rfl) (by simp) (AllT.lastL rfl (fun K hK => ?_))
  go_simp
  refine hK.out _ _ ?_
  clear hK K
  (try simp only [Act.put, List.setIfInBounds_toArray, List.set_cons_zero, List.set_cons_succ])
  refine wpAnyT_done (by kernel_rfl) ?_ _
  go_wp2
  go_ret
  exact ⟨rfl, Hg2.out⟩
end Go.Proofs.Ytbamckfjikpjlaa
