/- Forest of the program. -/
import Derived.Test.YtgodoeefgmfpfaaFoD
import Derived.Test.YtgodoeefgmfpfaaQue
import Derived.Test.YtgodoeefgmfpfaaTidyA
set_option linter.unusedSimpArgs false
set_option linter.unusedVariables false
namespace Go.Proofs.Ytgodoeefgmfpfaa
open Go.RowKit
attribute [local go_sem ↓] Go.wp_at_zero Go.wp_at_succ

/-- What Forest returns. -/
def FoRes (N : Int) (E : List (Int × Int)) (e : Ending) (w' : World) : Prop :=
  (¬ vD N E ∧ e = .returned (.tuple #[.slice none 0 0, .int .i64 1])) ∨ ∃ n : Nat, N = (n : Int) ∧ vD (n : Int) E ∧
    ((¬ E.length + (B E n n).roots = n ∧ e = .returned (.tuple #[.slice none 0 0, .int .i64 9])) ∨
     (E.length + (B E n n).roots = n ∧ ¬ vFor (B E n n).par ∧ e = .returned (.tuple #[.slice none 0 0, .int .i64 1])) ∨
     (E.length + (B E n n).roots = n ∧ vFor (B E n n).par ∧ ∃ q c, e = .returned (.tuple #[.slice q n c, .int .i64 0]) ∧ Ints w' q (B E n n).par))

set_option maxRecDepth 8000 in
set_option maxHeartbeats 16000000 in
theorem forest_p (N : Int) (q : Option Addr) (m cq : Nat) (E : List (Int × Int)) (w : World) (hE : Prs w q E) (hm : E.length = m) :
    Calls Try.prog 22 #[.agg #[.int .i64 N, .slice q m cq]] w fun e w' => Grew w w' ∧ FoRes N E e w' := by
  have Hval := Lib.hid (fun (W : World) (hg : Grew w W) => dvalid_p N q m cq E W (hE.grew hg) hm)
  subst hm
  have HE := Lib.hid hE
  clear hE
  cases hv : dB N E
  · have Hno : Hid (¬ vD N E) := Lib.hid (fun h => by rw [dB_iff.2 h] at hv; cases hv)
    rw [hv] at Hval
    clear hv
    go_enter Try.func22, Try.ntmps22
    go_wp2_with ((go_at_call 27; apply Calls.mono; (with_reducible exact Hval.out _ (by (repeat (first | exact Grew.refl _ | refine Grew.over ?_ _ | refine Grew.alloc ?_ _ | refine Grew.drew ?_ | refine Grew.drewN ?_ _)))); rintro e w' ⟨rfl, x, rfl⟩))
    go_ret2
    exact ⟨by (repeat (first | exact Grew.refl _ | refine Grew.over ?_ _ | refine Grew.alloc ?_ _ | refine Grew.drew ?_ | refine Grew.drewN ?_ _)), Or.inl ⟨Hno.out, rfl⟩⟩
  have HV := Lib.hid (dB_iff.1 hv)
  obtain ⟨n, rfl⟩ : ∃ n : Nat, N = (n : Int) := ⟨N.toNat, by have := HV.out.n0; omega⟩
  have hn64 := HV.out.n1
  have h256 := HV.out.m
  rw [hv] at Hval
  clear hv
  have hmk := mk_rows n (by omega)
  go_enter Try.func22, Try.ntmps22
  go_upto_region 1 with fail
  obtain ⟨wz, hwz⟩ : ∃ wz, w.alloc (.cells #[.int .i64 n, .slice q E.length cq] 39) = wz := ⟨_, rfl⟩
  have x0 : wz.cell? ⟨w.heap.size, 0, none⟩ = some (.int .i64 n) := by rw [← hwz]; simp [go_sem]
  have x1 : wz.cell? ⟨w.heap.size, 1, none⟩ = some (.slice q E.length cq) := by rw [← hwz]; simp [go_sem]
  have Hgz : Hid (Grew w wz) := Lib.hid (by rw [← hwz]; (repeat (first | exact Grew.refl _ | refine Grew.over ?_ _ | refine Grew.alloc ?_ _ | refine Grew.drew ?_ | refine Grew.drewN ?_ _)))
  have hbz : w.heap.size < wz.heap.size := by rw [← hwz]; simp
  rw [hwz]
  clear hwz
  go_upto_region 3 with (go_at_call 27; apply Calls.mono; (with_reducible exact Hval.out _ Hgz.out); rintro e wa ⟨rfl, hga⟩; have Hga := Lib.hid (Hgz.out.trans hga); replace x0 := hga.cellEq x0; replace x1 := hga.cellEq x1; have hbz := Nat.lt_of_lt_of_le hbz hga.below.size; clear hga)
  go_upto_region 4 with fail
  obtain ⟨g, hg⟩ : ∃ g, wa.heap.size = g := ⟨_, rfl⟩
  obtain ⟨wb, hwb⟩ : ∃ wb, wa.alloc (.cells (Array.replicate n (.slice none 0 0)) 22) = wb := ⟨_, rfl⟩
  have HO0 : Hid (Owns wb g (tbR g n (List.replicate n (.slice none 0 0)) :: mRows (List.replicate n (.slice none 0 0)) (List.replicate n []))) := Lib.hid (by
    have h1 := own_nils (Owns.nil wa g) n
    rw [List.append_nil] at h1
    have h2 := h1.made (by omega) (Array.replicate n (.slice none 0 0)) 22 1 n g (by simp) (by simp only [maxLen]; omega) hg.symm
    rw [Array.toList_replicate, hwb] at h2
    exact h2)
  have Hgb : Hid (Grew wa wb) := Lib.hid (by rw [← hwb]; (repeat (first | exact Grew.refl _ | refine Grew.over ?_ _ | refine Grew.alloc ?_ _ | refine Grew.drew ?_ | refine Grew.drewN ?_ _)))
  have HX0 := Lib.hid x0
  have HX1 := Lib.hid x1
  have hwg : w.heap.size < g := by omega
  have Hg := Lib.hid hg
  rw [hwb]
  rw [hg]
  clear hwb hmk hg x0 x1 hbz
  have x1 := Hgb.out.cellEq HX1.out
  have hbw := cell_lt x1
  go_wp2
  go_loopw [23] (fun v23 wr => ∃ (k : Nat) (vals : List Value) (M : List (List Int)), k ≤ E.length ∧ v23 = .int .i64 k ∧ NearOK E n k M ∧ vals.length = n ∧ Owns wr g (tbR g n vals :: mRows vals M) ∧ Grew wa wr) (fun v23 _ => E.length - (intOf v23).toNat)
  case atStart => exact ⟨0, _, _, Nat.zero_le _, rfl, NearOK.begin _ _, by simp, HO0.out, Hgb.out⟩
  case round =>
    clear HO0 Hgb x1 hbw
    obtain ⟨k, vals, M, hk, rfl, hN, hvl, hO, hg⟩ := hrel
    have HN := Lib.hid hN
    have HO := Lib.hid hO
    have Hgr := Lib.hid hg
    clear hN hO hg
    by_cases hlt : k < E.length
    · obtain ⟨b2, o2, rfl, hb2, c0, c1⟩ := (HE.out.grew (Hga.out.trans Hgr.out)).open hlt
      obtain ⟨hfN, hfr⟩ := HV.out.aF hlt
      obtain ⟨htN, hto⟩ := HV.out.aT hlt
      rw [hfr] at c0
      rw [hto] at c1
      have hMl := HN.out.l
      have HNx := fun f t (hf : aF E k = f) (ht : aT E k = t) => HN.out.step hf ht
      obtain ⟨f, hf⟩ : ∃ f, aF E k = f := ⟨_, rfl⟩
      obtain ⟨t, ht⟩ : ∃ t, aT E k = t := ⟨_, rfl⟩
      rw [hf] at c0 hfN
      rw [ht] at c1 htN
      have HNx2 := Lib.hid (HNx f t hf ht (by omega) (by omega))
      have hrl : ∀ c, c < n → (rowOf M c).length ≤ 512 := fun c hc => by
        have h1 := near_len E c k
        have h2 := congrArg List.length (HN.out.r c hc)
        rw [nL_len] at h2
        omega
      have Hrl := Lib.hid hrl
      clear hf ht HNx hfr hto hrl
      replace hfN : f < n := by omega
      replace htN : t < n := by omega
      go_upto_region 7 with fail
      obtain ⟨w3, hw3⟩ : ∃ w3, wr.alloc (.cells #[.int .i64 (f : Int), .int .i64 (t : Int)] 52) = w3 := ⟨_, rfl⟩
      obtain ⟨aw, haw⟩ : ∃ aw, wr.heap.size = aw := ⟨_, rfl⟩
      have HO3 : Hid (Owns w3 g (⟨.slice (some ⟨aw, 0, none⟩) 2 2, 52, 1, 2, [.int .i64 (f : Int), .int .i64 (t : Int)]⟩ :: tbR g n vals :: mRows vals M)) :=
        Lib.hid (by rw [← hw3]; exact HO.out.made (by rw [← Hg.out]; exact Hgr.out.below.size) #[.int .i64 (f : Int), .int .i64 (t : Int)] 52 1 2 aw rfl (by decide) haw.symm)
      have Hg3 : Hid (Grew wa w3) := Lib.hid (by rw [← hw3]; exact Hgr.out.trans (by (repeat (first | exact Grew.refl _ | refine Grew.over ?_ _ | refine Grew.alloc ?_ _ | refine Grew.drew ?_ | refine Grew.drewN ?_ _))))
      rw [hw3]
      try rw [haw]
      clear hw3 haw c0 c1 HO Hgr hb2
      obtain ⟨v0, hv0⟩ : ∃ v, vals[f]? = some v := ⟨_, List.getElem?_eq_getElem (by omega)⟩
      have hkf : (mRows vals M)[f]? = some (mRow v0 (rowOf M f)) := mRows_get hv0 (by omega)
      have Hkf := Lib.hid hkf
      have Hmf := Lib.hid (List.getElem?_eq_some_iff.1 hkf).1
      obtain ⟨pf, cf, rfl⟩ := own_form HO3.out (k := f + 2) hkf
      have Hv0 := Lib.hid hv0
      have r0 := (own_blk HO3.out (j := 1) rfl).2.2.2.2 f _ hv0
      have z0 := (own_blk HO3.out (j := 0) rfl).2.2.2.2 0 _ rfl
      have z1 := (own_blk HO3.out (j := 0) rfl).2.2.2.2 1 _ rfl
      have hrlf := Hrl.out f hfN
      have hsw : g ≤ w3.heap.size := by have := own_lt HO3.out (j := 1) rfl; omega
      clear hv0 hkf
      refine wp_region_T (s := 13) (S := fun w' => w'.cell? ⟨aw, 0, none⟩ = some (.int .i64 (f : Int)) ∧ w'.cell? ⟨aw, 1, none⟩ = some (.int .i64 (t : Int)) ∧ w'.cell? ⟨g, f, none⟩ = some (.slice pf (rowOf M f).length cf)) (by kernel_rfl) ⟨z0, z1, r0⟩ (fun hH => ?_)
      refine wpAnyT_takeL (i := 0) (v := ?_) rfl (by kernel_rfl) (by kernel_rfl) (by kernel_rfl) (by kernel_rfl) (fun _ _ _ h => h) (Or.inl ⟨by rfl, ?_⟩) (by assumption) ?_
      rotate_left
      · (intro w hSw; (try dsimp only at hSw); go_simp; (try with_reducible rfl))
      (try simp only [Act.put, List.setIfInBounds_toArray, List.set_cons_zero, List.set_cons_succ])
      refine wpAnyT_takeL (i := 1) (v := ?_) rfl (by kernel_rfl) (by kernel_rfl) (by kernel_rfl) (by kernel_rfl) (fun _ _ _ h => h) (Or.inl ⟨by rfl, ?_⟩) (by assumption) ?_
      rotate_left
      · (intro w hSw; (try dsimp only at hSw); go_simp; (try with_reducible rfl))
      (try simp only [Act.put, List.setIfInBounds_toArray, List.set_cons_zero, List.set_cons_succ])
      refine wpAnyT_takeL (i := 2) (v := ?_) rfl (by kernel_rfl) (by kernel_rfl) (by kernel_rfl) (by kernel_rfl) (fun _ _ _ h => h) (Or.inl ⟨by rfl, ?_⟩) (by assumption) ?_
      rotate_left
      · (intro w hSw; (try dsimp only at hSw); go_simp; (try with_reducible rfl))
      (try simp only [Act.put, List.setIfInBounds_toArray, List.set_cons_zero, List.set_cons_succ])
      refine wpAnyT_takeL (i := 3) (v := ?_) rfl (by kernel_rfl) (by kernel_rfl) (by kernel_rfl) (by kernel_rfl) (fun _ _ _ h => h) (Or.inl ⟨by rfl, ?_⟩) (by assumption) ?_
      rotate_left
      · (intro w hSw; (try dsimp only at hSw); go_simp; (try with_reducible rfl))
      (try simp only [Act.put, List.setIfInBounds_toArray, List.set_cons_zero, List.set_cons_succ])
      refine wpAnyT_takeL (i := 4) (v := ?_) rfl (by kernel_rfl) (by kernel_rfl) (by kernel_rfl) (by kernel_rfl) (fun _ _ _ h => h) (Or.inl ⟨by rfl, ?_⟩) (by assumption) ?_
      rotate_left
      · (intro w hSw; (try dsimp only at hSw); go_simp; (try with_reducible rfl))
      (try simp only [Act.put, List.setIfInBounds_toArray, List.set_cons_zero, List.set_cons_succ])
      refine wpAnyT_takeL (i := 5) (v := ?_) rfl (by kernel_rfl) (by kernel_rfl) (by kernel_rfl) (by kernel_rfl) (fun _ _ _ h => h) (Or.inl ⟨by rfl, ?_⟩) (by assumption) ?_
      rotate_left
      · (intro w hSw; (try dsimp only at hSw); go_simp; (try with_reducible rfl))
      (try simp only [Act.put, List.setIfInBounds_toArray, List.set_cons_zero, List.set_cons_succ])
      refine wpAnyT_takeL (i := 6) (v := ?_) rfl (by kernel_rfl) (by kernel_rfl) (by kernel_rfl) (by kernel_rfl) (fun _ _ _ h => h) (Or.inl ⟨by rfl, ?_⟩) (by assumption) ?_
      rotate_left
      · (intro w hSw; (try dsimp only at hSw); go_simp; (try with_reducible rfl))
      (try simp only [Act.put, List.setIfInBounds_toArray, List.set_cons_zero, List.set_cons_succ])
      refine wpAnyT_takeL (i := 7) (v := ?_) rfl (by kernel_rfl) (by kernel_rfl) (by kernel_rfl) (by kernel_rfl) (fun _ _ _ h => h) (Or.inl ⟨by rfl, ?_⟩) (by assumption) ?_
      rotate_left
      · (intro w hSw; (try dsimp only at hSw); go_simp; (try with_reducible rfl))
      (try simp only [Act.put, List.setIfInBounds_toArray, List.set_cons_zero, List.set_cons_succ])
      refine wpAnyT_takeL (i := 8) (v := ?_) rfl (by kernel_rfl) (by kernel_rfl) (by kernel_rfl) (by kernel_rfl) (fun _ _ _ h => h) (Or.inl ⟨by rfl, ?_⟩) (by assumption) ?_
      rotate_left
      · (intro w hSw; (try dsimp only at hSw); go_simp; (try with_reducible rfl))
      (try simp only [Act.put, List.setIfInBounds_toArray, List.set_cons_zero, List.set_cons_succ])
      refine wpAnyT_takeL (i := 9) (v := ?_) rfl (by kernel_rfl) (by kernel_rfl) (by kernel_rfl) (by kernel_rfl) (fun _ _ _ h => h) (Or.inl ⟨by rfl, ?_⟩) (by assumption) ?_
      rotate_left
      · (intro w hSw; (try dsimp only at hSw); go_simp; (try with_reducible rfl))
      (try simp only [Act.put, List.setIfInBounds_toArray, List.set_cons_zero, List.set_cons_succ])
      refine wpAnyT_all (rs := [10]) (by kernel_rfl) (by simp) (AllT.consL (i := 10) rfl (fun K hK => ?_) AllT.nil)
      go_simp
      refine hK.out _ _ ?_ (fun hH => ?_)
      · (first | (simp [go_sem, ↓IntWalk.iteOmega, *]; done) | go_keep)
      clear hK K
      (try simp only [Act.put, List.setIfInBounds_toArray, List.set_cons_zero, List.set_cons_succ])
      refine wpAnyT_all (rs := [11]) (by kernel_rfl) (by simp) (AllT.consL (i := 11) rfl (fun K hK => ?_) AllT.nil)
      refine step_append_owns rfl _ _ 22 (by rfl) 3 1 8 (.int .i64 0) Try.underlying22 Try.infoInt rfl (by decide) g _ (f + 2) _ _ _ (HO3.out.grew (by (repeat (first | exact Grew.refl _ | refine Grew.over ?_ _ | refine Grew.alloc ?_ _ | refine Grew.drew ?_ | refine Grew.drewN ?_ _)))) Hkf.out (by rfl) _ 1 1 (by rfl) [.int .i64 (t : Int)] rfl (fun h => by cases h) (one_news _ (by rw [Addr.add_lit]; (simp [go_sem, ↓IntWalk.iteOmega]))) (by simp [Value.oneCell']) (by simp only [maxLen]; omega) (by omega) (by first | rfl | omega | (simp <;> omega)) ?_
      intro v1 w6 hO1 hg1 hb1 _
      simp only [List.set_cons_succ] at hO1
      obtain ⟨p1, c1, rfl⟩ := own_form hO1 (k := f + 2) (List.getElem?_set_self Hmf.out)
      have z0 := (own_blk hO1 (j := 0) rfl).2.2.2.2 0 _ rfl
      have z1 := (own_blk hO1 (j := 0) rfl).2.2.2.2 1 _ rfl
      have r0 := (own_blk hO1 (j := 1) rfl).2.2.2.2 f _ Hv0.out
      have rf := (own_blk hO1 (j := 1) rfl).2.2.2.1 f
      have rl := (own_blk hO1 (j := 1) rfl).2.2.1
      refine hK.out _ _ ⟨z0, z1, r0⟩ (fun hH => ?_)
      clear hK K
      (try simp only [Act.put, List.setIfInBounds_toArray, List.set_cons_zero, List.set_cons_succ])
      have Hg6 : Hid (Grew wa w6) := Lib.hid (Grew.grownBy (w0 := wa) (Hg3.out.trans (by (repeat (first | exact Grew.refl _ | refine Grew.over ?_ _ | refine Grew.alloc ?_ _ | refine Grew.drew ?_ | refine Grew.drewN ?_ _)))) hg1 (fun k hk => by have := hb1 k hk; have := Hg.out; omega))
      have HO4 := Lib.hid (near_store (u := f) (x := (t : Int)) hO1 rfl)
      have Hg4 : Hid (Grew wa (w6.setCell ⟨g, f, none⟩ (.slice p1 ((rowOf M f).length + 1) c1))) := Lib.hid (hO1.setGrew (w0 := wa) (by have := Hg.out; omega) Hg6.out (k := 1) rfl f _)
      clear hO1 hg1 hb1
      refine wpAnyT_takeL (i := 12) (v := ?_) rfl (by kernel_rfl) (by kernel_rfl) (by kernel_rfl) (by kernel_rfl) (fun _ _ _ h => h) (Or.inl ⟨by rfl, ?_⟩) (by assumption) ?_
      rotate_left
      · (intro w hSw; (try dsimp only at hSw); go_simp; (try with_reducible rfl))
      (try simp only [Act.put, List.setIfInBounds_toArray, List.set_cons_zero, List.set_cons_succ])
      refine wpAnyT_all (rs := [13]) (by kernel_rfl) (by simp) (AllT.lastL rfl (fun K hK => ?_))
      go_simp
      refine hK.out _ _ ?_
      clear hK K
      (try simp only [Act.put, List.setIfInBounds_toArray, List.set_cons_zero, List.set_cons_succ])
      refine wpAnyT_done (by kernel_rfl) ?_ _
      obtain ⟨w4, hwn⟩ : ∃ wn, w6.setCell ⟨g, f, none⟩ (.slice p1 ((rowOf M f).length + 1) c1) = wn := ⟨_, rfl⟩
      rw [hwn] at HO4 Hg4 ⊢
      clear hwn z0 z1 r0 rf rl hsw Hg6 HO3 Hg3
      obtain ⟨vals2, hvals2⟩ : ∃ l, vals.set f (.slice p1 ((rowOf M f).length + 1) c1) = l := ⟨_, rfl⟩
      obtain ⟨M2, hM2⟩ : ∃ l, M.set f (rowOf M f ++ [(t : Int)]) = l := ⟨_, rfl⟩
      have hvl2 : vals2.length = n := by rw [← hvals2, List.length_set]; exact hvl
      have hMl2 : M2.length = n := by rw [← hM2, List.length_set]; exact hMl
      replace Hrl : Hid (∀ c, c < n → (rowOf M2 c).length ≤ 513) := Lib.hid (fun c hc => by
        rw [← hM2, rowOf_set M (by omega)]
        have h1 := Hrl.out c hc
        have h2 := Hrl.out f hfN
        split
        · rw [List.length_append]; simp; omega
        · omega)
      rw [hvals2, hM2] at HO4
      rw [hM2] at HNx2
      clear hvals2 hM2 Hv0 Hkf Hmf hrlf
      go_upto_region 8 with fail
      obtain ⟨v0, hv0⟩ : ∃ v, vals2[t]? = some v := ⟨_, List.getElem?_eq_getElem (by omega)⟩
      have hkf : (mRows vals2 M2)[t]? = some (mRow v0 (rowOf M2 t)) := mRows_get hv0 (by omega)
      have Hkf := Lib.hid hkf
      have Hmf := Lib.hid (List.getElem?_eq_some_iff.1 hkf).1
      obtain ⟨pf, cf, rfl⟩ := own_form HO4.out (k := t + 2) hkf
      have Hv0 := Lib.hid hv0
      have r0 := (own_blk HO4.out (j := 1) rfl).2.2.2.2 t _ hv0
      have z0 := (own_blk HO4.out (j := 0) rfl).2.2.2.2 0 _ rfl
      have z1 := (own_blk HO4.out (j := 0) rfl).2.2.2.2 1 _ rfl
      have hrlf := Hrl.out t htN
      have hsw : g ≤ w4.heap.size := by have := own_lt HO4.out (j := 1) rfl; omega
      clear hv0 hkf
      refine wp_region_T (s := 13) (S := fun w' => w'.cell? ⟨aw, 0, none⟩ = some (.int .i64 (f : Int)) ∧ w'.cell? ⟨aw, 1, none⟩ = some (.int .i64 (t : Int)) ∧ w'.cell? ⟨g, t, none⟩ = some (.slice pf (rowOf M2 t).length cf)) (by kernel_rfl) ⟨z0, z1, r0⟩ (fun hH => ?_)
      refine wpAnyT_takeL (i := 0) (v := ?_) rfl (by kernel_rfl) (by kernel_rfl) (by kernel_rfl) (by kernel_rfl) (fun _ _ _ h => h) (Or.inl ⟨by rfl, ?_⟩) (by assumption) ?_
      rotate_left
      · (intro w hSw; (try dsimp only at hSw); go_simp; (try with_reducible rfl))
      (try simp only [Act.put, List.setIfInBounds_toArray, List.set_cons_zero, List.set_cons_succ])
      refine wpAnyT_takeL (i := 1) (v := ?_) rfl (by kernel_rfl) (by kernel_rfl) (by kernel_rfl) (by kernel_rfl) (fun _ _ _ h => h) (Or.inl ⟨by rfl, ?_⟩) (by assumption) ?_
      rotate_left
      · (intro w hSw; (try dsimp only at hSw); go_simp; (try with_reducible rfl))
      (try simp only [Act.put, List.setIfInBounds_toArray, List.set_cons_zero, List.set_cons_succ])
      refine wpAnyT_takeL (i := 2) (v := ?_) rfl (by kernel_rfl) (by kernel_rfl) (by kernel_rfl) (by kernel_rfl) (fun _ _ _ h => h) (Or.inl ⟨by rfl, ?_⟩) (by assumption) ?_
      rotate_left
      · (intro w hSw; (try dsimp only at hSw); go_simp; (try with_reducible rfl))
      (try simp only [Act.put, List.setIfInBounds_toArray, List.set_cons_zero, List.set_cons_succ])
      refine wpAnyT_takeL (i := 3) (v := ?_) rfl (by kernel_rfl) (by kernel_rfl) (by kernel_rfl) (by kernel_rfl) (fun _ _ _ h => h) (Or.inl ⟨by rfl, ?_⟩) (by assumption) ?_
      rotate_left
      · (intro w hSw; (try dsimp only at hSw); go_simp; (try with_reducible rfl))
      (try simp only [Act.put, List.setIfInBounds_toArray, List.set_cons_zero, List.set_cons_succ])
      refine wpAnyT_takeL (i := 4) (v := ?_) rfl (by kernel_rfl) (by kernel_rfl) (by kernel_rfl) (by kernel_rfl) (fun _ _ _ h => h) (Or.inl ⟨by rfl, ?_⟩) (by assumption) ?_
      rotate_left
      · (intro w hSw; (try dsimp only at hSw); go_simp; (try with_reducible rfl))
      (try simp only [Act.put, List.setIfInBounds_toArray, List.set_cons_zero, List.set_cons_succ])
      refine wpAnyT_takeL (i := 5) (v := ?_) rfl (by kernel_rfl) (by kernel_rfl) (by kernel_rfl) (by kernel_rfl) (fun _ _ _ h => h) (Or.inl ⟨by rfl, ?_⟩) (by assumption) ?_
      rotate_left
      · (intro w hSw; (try dsimp only at hSw); go_simp; (try with_reducible rfl))
      (try simp only [Act.put, List.setIfInBounds_toArray, List.set_cons_zero, List.set_cons_succ])
      refine wpAnyT_takeL (i := 6) (v := ?_) rfl (by kernel_rfl) (by kernel_rfl) (by kernel_rfl) (by kernel_rfl) (fun _ _ _ h => h) (Or.inl ⟨by rfl, ?_⟩) (by assumption) ?_
      rotate_left
      · (intro w hSw; (try dsimp only at hSw); go_simp; (try with_reducible rfl))
      (try simp only [Act.put, List.setIfInBounds_toArray, List.set_cons_zero, List.set_cons_succ])
      refine wpAnyT_takeL (i := 7) (v := ?_) rfl (by kernel_rfl) (by kernel_rfl) (by kernel_rfl) (by kernel_rfl) (fun _ _ _ h => h) (Or.inl ⟨by rfl, ?_⟩) (by assumption) ?_
      rotate_left
      · (intro w hSw; (try dsimp only at hSw); go_simp; (try with_reducible rfl))
      (try simp only [Act.put, List.setIfInBounds_toArray, List.set_cons_zero, List.set_cons_succ])
      refine wpAnyT_takeL (i := 8) (v := ?_) rfl (by kernel_rfl) (by kernel_rfl) (by kernel_rfl) (by kernel_rfl) (fun _ _ _ h => h) (Or.inl ⟨by rfl, ?_⟩) (by assumption) ?_
      rotate_left
      · (intro w hSw; (try dsimp only at hSw); go_simp; (try with_reducible rfl))
      (try simp only [Act.put, List.setIfInBounds_toArray, List.set_cons_zero, List.set_cons_succ])
      refine wpAnyT_takeL (i := 9) (v := ?_) rfl (by kernel_rfl) (by kernel_rfl) (by kernel_rfl) (by kernel_rfl) (fun _ _ _ h => h) (Or.inl ⟨by rfl, ?_⟩) (by assumption) ?_
      rotate_left
      · (intro w hSw; (try dsimp only at hSw); go_simp; (try with_reducible rfl))
      (try simp only [Act.put, List.setIfInBounds_toArray, List.set_cons_zero, List.set_cons_succ])
      refine wpAnyT_all (rs := [10]) (by kernel_rfl) (by simp) (AllT.consL (i := 10) rfl (fun K hK => ?_) AllT.nil)
      go_simp
      refine hK.out _ _ ?_ (fun hH => ?_)
      · (first | (simp [go_sem, ↓IntWalk.iteOmega, *]; done) | go_keep)
      clear hK K
      (try simp only [Act.put, List.setIfInBounds_toArray, List.set_cons_zero, List.set_cons_succ])
      refine wpAnyT_all (rs := [11]) (by kernel_rfl) (by simp) (AllT.consL (i := 11) rfl (fun K hK => ?_) AllT.nil)
      refine step_append_owns rfl _ _ 22 (by rfl) 3 1 8 (.int .i64 0) Try.underlying22 Try.infoInt rfl (by decide) g _ (t + 2) _ _ _ (HO4.out.grew (by (repeat (first | exact Grew.refl _ | refine Grew.over ?_ _ | refine Grew.alloc ?_ _ | refine Grew.drew ?_ | refine Grew.drewN ?_ _)))) Hkf.out (by rfl) _ 1 1 (by rfl) [.int .i64 (f : Int)] rfl (fun h => by cases h) (one_news _ (by rw [Addr.add_lit]; (simp [go_sem, ↓IntWalk.iteOmega]))) (by simp [Value.oneCell']) (by simp only [maxLen]; omega) (by omega) (by first | rfl | omega | (simp <;> omega)) ?_
      intro v1 w6 hO1 hg1 hb1 _
      simp only [List.set_cons_succ] at hO1
      obtain ⟨p1, c1, rfl⟩ := own_form hO1 (k := t + 2) (List.getElem?_set_self Hmf.out)
      have z0 := (own_blk hO1 (j := 0) rfl).2.2.2.2 0 _ rfl
      have z1 := (own_blk hO1 (j := 0) rfl).2.2.2.2 1 _ rfl
      have r0 := (own_blk hO1 (j := 1) rfl).2.2.2.2 t _ Hv0.out
      have rf := (own_blk hO1 (j := 1) rfl).2.2.2.1 t
      have rl := (own_blk hO1 (j := 1) rfl).2.2.1
      refine hK.out _ _ ⟨z0, z1, r0⟩ (fun hH => ?_)
      clear hK K
      (try simp only [Act.put, List.setIfInBounds_toArray, List.set_cons_zero, List.set_cons_succ])
      have Hg6 : Hid (Grew wa w6) := Lib.hid (Grew.grownBy (w0 := wa) (Hg4.out.trans (by (repeat (first | exact Grew.refl _ | refine Grew.over ?_ _ | refine Grew.alloc ?_ _ | refine Grew.drew ?_ | refine Grew.drewN ?_ _)))) hg1 (fun k hk => by have := hb1 k hk; have := Hg.out; omega))
      have HO5 := Lib.hid (near_store (u := t) (x := (f : Int)) hO1 rfl)
      have Hg5 : Hid (Grew wa (w6.setCell ⟨g, t, none⟩ (.slice p1 ((rowOf M2 t).length + 1) c1))) := Lib.hid (hO1.setGrew (w0 := wa) (by have := Hg.out; omega) Hg6.out (k := 1) rfl t _)
      clear hO1 hg1 hb1
      refine wpAnyT_takeL (i := 12) (v := ?_) rfl (by kernel_rfl) (by kernel_rfl) (by kernel_rfl) (by kernel_rfl) (fun _ _ _ h => h) (Or.inl ⟨by rfl, ?_⟩) (by assumption) ?_
      rotate_left
      · (intro w hSw; (try dsimp only at hSw); go_simp; (try with_reducible rfl))
      (try simp only [Act.put, List.setIfInBounds_toArray, List.set_cons_zero, List.set_cons_succ])
      refine wpAnyT_all (rs := [13]) (by kernel_rfl) (by simp) (AllT.lastL rfl (fun K hK => ?_))
      go_simp
      refine hK.out _ _ ?_
      clear hK K
      (try simp only [Act.put, List.setIfInBounds_toArray, List.set_cons_zero, List.set_cons_succ])
      refine wpAnyT_done (by kernel_rfl) ?_ _
      obtain ⟨w5, hwn⟩ : ∃ wn, w6.setCell ⟨g, t, none⟩ (.slice p1 ((rowOf M2 t).length + 1) c1) = wn := ⟨_, rfl⟩
      rw [hwn] at HO5 Hg5 ⊢
      clear hwn z0 z1 r0 rf rl hsw Hg6 HO4 Hg4
      have hvl3 : (vals2.set t (.slice p1 ((rowOf M2 t).length + 1) c1)).length = n := by rw [List.length_set]; exact hvl2
      have Hvl3 := Lib.hid hvl3
      clear hvl3
      go_wp2
      go_roundw
      case rel => exact ⟨k + 1, _, _, by omega, by go_num, HNx2.out, Hvl3.out, HO5.out.tail, Hg5.out⟩
      case measure => simp [intOf]; omega
    · have hke : k = E.length := by omega
      subst hke
      have hrb : ∀ c, c < n → (rowOf M c).length ≤ 1000 ∧ ∀ x ∈ rowOf M c, -9223372036854775808 ≤ x ∧ x ≤ 9223372036854775807 := fun c hc => by
        rw [HN.out.r c hc]
        refine ⟨by rw [nL_len]; have := near_len E c E.length; omega, nL_bd _ (fun x hx => near_lt HV.out (Nat.le_refl _) hx) (by rw [toNat_n]; omega)⟩
      have HM : Hid (Mat wr (some ⟨g, 0, none⟩) M) := Lib.hid (near_mat HO.out HN.out.l (by omega) hrb)
      have Hrow := Lib.hid HN.out.r
      have hMl := HN.out.l
      obtain ⟨wn, hwn⟩ : ∃ wn, wn = wr := ⟨_, rfl⟩
      subst hwn
      clear HN HO hrb hvl
      obtain ⟨B2, hB2⟩ : ∃ B2, wn.heap.size = B2 := ⟨_, rfl⟩
      have x0 := Hgr.out.cellEq HX0.out
      have x1 := Hgr.out.cellEq HX1.out
      have hbw := cell_lt x0
      have hmb := mk_bools n (by omega)
      have HB2 := Lib.hid hB2
      clear hB2
      go_upto_region 11 with (go_at_call 28; apply Calls.mono; (with_reducible exact repeat_n wn.heap.size 0 1 n (wn.alloc (.cells #[.int .i64 (-1)] 3)) (by simp [go_sem]) (by simp) (by omega)); rintro e w5 ⟨hg5, qo, rfl, hO5⟩; have Hg5 : Hid (Grew wn w5) := Lib.hid (Grew.trans (by (repeat (first | exact Grew.refl _ | refine Grew.over ?_ _ | refine Grew.alloc ?_ _ | refine Grew.drew ?_ | refine Grew.drewN ?_ _))) hg5); have HO5 := Lib.hid (hO5.base (B' := B2) (by have := HB2.out; simp; omega)); replace x0 := Hg5.out.cellEq x0; replace x1 := Hg5.out.cellEq x1; replace hbw := cell_lt x0; clear hg5 hO5)
      go_upto_region 12 with fail
      obtain ⟨w6, hw6⟩ : ∃ w6, w5.alloc (.cells (Array.replicate n (.bool false)) 4) = w6 := ⟨_, rfl⟩
      obtain ⟨gs, hgs⟩ : ∃ gs, w5.heap.size = gs := ⟨_, rfl⟩
      have hB5 : B2 ≤ w5.heap.size := by have := Hg5.out.below.size; have := HB2.out; omega
      have HO6 : Hid (Owns w6 B2 [rB gs n (List.replicate n false), rI qo n (B E n 0).par]) := Lib.hid (by rw [← hw6]; exact own_newB HO5.out hB5 n gs (by omega) hgs.symm)
      have Hg6 : Hid (Grew wn w6) := Lib.hid (by rw [← hw6]; exact Hg5.out.trans (by (repeat (first | exact Grew.refl _ | refine Grew.over ?_ _ | refine Grew.alloc ?_ _ | refine Grew.drew ?_ | refine Grew.drewN ?_ _))))
      have h56 : Grew w5 w6 := by rw [← hw6]; (repeat (first | exact Grew.refl _ | refine Grew.over ?_ _ | refine Grew.alloc ?_ _ | refine Grew.drew ?_ | refine Grew.drewN ?_ _))
      replace x0 := h56.cellEq x0
      replace x1 := h56.cellEq x1
      replace hbw := cell_lt x0
      have HX0n := Lib.hid (Hgr.out.cellEq HX0.out)
      have HX1n := Lib.hid (Hgr.out.cellEq HX1.out)
      have Hgwn := Lib.hid (Hga.out.trans Hgr.out)
      rw [hw6]
      try rw [hgs]
      clear hw6 hgs hmb h56 HO5 Hg5 hB5
      have HSn0 := Lib.hid (Sn.begin E n)
      have hB6 : B2 ≤ w6.heap.size := by have := Hg6.out.below.size; have := HB2.out; omega
      clear hB6
      go_wp2
      go_loopw [9, 63] (fun v9 v63 wr => ∃ (v t : Nat) (sb : List Bool), v ≤ n ∧ v63 = .int .i64 v ∧ t ≤ n ∧ v9 = .int .i64 ((B E n t).roots : Int) ∧ t = (B E n t).O.length ∧ (∀ u, u < v → u ∈ (B E n t).O) ∧ Sn n (B E n t) sb ∧
        Owns wr B2 [rB gs n sb, rI qo n (B E n t).par] ∧ Grew wn wr) (fun _ v63 _ => n - (intOf v63).toNat)
      case atStart => exact ⟨0, 0, _, Nat.zero_le _, rfl, Nat.zero_le _, rfl, rfl, fun u hu => (by omega), HSn0.out, HO6.out, Hg6.out⟩
      case round =>
        clear HSn0 HO6 Hg6 x0 x1 hbw
        obtain ⟨v, t, sb, hv, rfl, htn, rfl, htl, hall, hSn, hO, hg⟩ := hrel
        have HSn := Lib.hid hSn
        have HO := Lib.hid hO
        have Hg := Lib.hid hg
        have Htl := Lib.hid htl
        have Hall := Lib.hid hall
        have hrt : (B E n t).roots ≤ n := by have := (Bn_sd HV.out htn).1.rt; have := (Bn_sd HV.out htn).1.len; omega
        clear hSn hO hg htl hall
        by_cases hlt : v < n
        · have e8 := own_atB HO.out (j := 0) rfl (i := v) hlt
          have b8 := own_lt HO.out (j := 0) rfl
          by_cases hin : v ∈ (B E n t).O
          · rw [HSn.out.v v hlt, decide_eq_true hin] at e8
            have Hal : Hid (∀ u, u < v + 1 → u ∈ (B E n t).O) := Lib.hid (fun u hu => by
              by_cases e : u = v
              · rw [e]; exact hin
              · exact Hall.out u (by omega))
            clear hin
            go_wp2
            go_roundw
            case rel => exact ⟨v + 1, t, sb, by omega, by go_num, htn, rfl, Htl.out, Hal.out, HSn.out, HO.out, Hg.out⟩
            case measure => simp [intOf]; omega
          · rw [HSn.out.v v hlt, decide_eq_false hin] at e8
            have HHd := Lib.hid (Hd.root HV.out htn Htl.out hlt hin Hall.out)
            have f8 := own_fr HO.out (j := 0) rfl
            replace f8 := f8 v
            have HSn2 : Hid (Sn n ⟨(B E n t).O ++ [v], (B E n t).par, (B E n t).roots + 1⟩ (sb.set v true)) := Lib.hid (HSn.out.add hlt rfl)
            have Hal : Hid (∀ u, u < v + 1 → u ∈ (B E n t).O ++ [v]) := Lib.hid (fun u hu => by
              by_cases e : u = v
              · rw [e]; simp
              · exact List.mem_append_left _ (Hall.out u (by omega)))
            have HO2 := Lib.hid (own_setB HO.out (j := 0) rfl v true)
            have Hg2 := Lib.hid (HO.out.setGrew (w0 := wn) (by have := HB2.out; omega) Hg.out (k := 0) rfl v (.bool true))
            have Hdr : Hid (((B E n t).O ++ [v]).drop t = [v]) := Lib.hid (by rw [List.drop_append_of_le_length (by have := Htl.out; omega), List.drop_of_length_le (by have := Htl.out; omega)]; rfl)
            obtain ⟨S, hS⟩ : ∃ S : BS, ⟨(B E n t).O ++ [v], (B E n t).par, (B E n t).roots + 1⟩ = S := ⟨_, rfl⟩
            have hSO : (B E n t).O ++ [v] = S.O := by rw [← hS]
            have hSp : (B E n t).par = S.par := by rw [← hS]
            have hSr : (B E n t).roots + 1 = S.roots := by rw [← hS]
            rw [hS] at HHd HSn2
            rw [hSO] at Hal Hdr
            rw [hSp] at HO2
            have HSr := Lib.hid hSr
            have hrr : ((B E n t).roots : Int) + 1 = (S.roots : Int) := by omega
            obtain ⟨r0, hr0⟩ : ∃ r, (B E n t).roots = r := ⟨_, rfl⟩
            rw [hr0] at hrr hrt ⊢
            obtain ⟨R, hR⟩ : ∃ R, S.roots = R := ⟨_, rfl⟩
            have HR := Lib.hid hR
            have HRr : Hid (R = r0 + 1) := Lib.hid (by omega)
            rw [hR] at hrr
            clear hS hSO hSp hSr hr0 HSn Hall hin hR HSr
            go_upto_region 20 with fail
            obtain ⟨w7, hw7⟩ : ∃ w7, wr.setCell ⟨gs, v, none⟩ (.bool true) = w7 := ⟨_, rfl⟩
            rw [hw7] at HO2 Hg2 ⊢
            have hsz : w7.heap.size = wr.heap.size := by rw [← hw7]; simp
            obtain ⟨w8, hw8⟩ : ∃ w8, w7.alloc (.cells #[.int .i64 (v : Int)] 3) = w8 := ⟨_, rfl⟩
            obtain ⟨gq, hgq⟩ : ∃ gq, wr.heap.size = gq := ⟨_, rfl⟩
            have hB7 : B2 ≤ w7.heap.size := by have := Hg2.out.below.size; have := HB2.out; omega
            have HO3 : Hid (Owns w8 B2 [qRow 3 gq 0 1 [] (natVs [v]), rB gs n (sb.set v true), rI qo n S.par]) := Lib.hid (by
              rw [← hw8]
              exact HO2.out.made hB7 #[.int .i64 (v : Int)] 3 1 1 gq rfl (by decide) (by omega))
            have Hg3 : Hid (Grew wn w8) := Lib.hid (by rw [← hw8]; exact Hg2.out.trans (by (repeat (first | exact Grew.refl _ | refine Grew.over ?_ _ | refine Grew.alloc ?_ _ | refine Grew.drew ?_ | refine Grew.drewN ?_ _))))
            rw [hw8]
            try rw [hgq]
            clear hw7 hw8 hgq hsz hB7 HO Hg HO2 Hg2 e8 b8 f8
            go_loopg [11] (n - t) (fun gk v11 wk => ∃ (t : Nat) (S : BS) (gq off p cap : Nat) (ys : List Value) (sb : List Bool), v11 = .slice (some ⟨gq, off, none⟩) (S.O.drop t).length cap ∧ n - t = gk ∧ Hd E n t S ∧ S.roots = R ∧ (∀ u, u < v + 1 → u ∈ S.O) ∧ Sn n S sb ∧
              Owns wk B2 [qRow 3 gq p cap ys (natVs (S.O.drop t)), rB gs n sb, rI qo n S.par] ∧ ys.length = p ∧ (0 < cap → off = p) ∧ Grew wn wk)
            case atStart => exact ⟨t, S, gq, 0, 0, 1, [], _, by rw [Hdr.out]; rfl, rfl, HHd.out, HR.out, Hal.out, HSn2.out, by rw [Hdr.out]; exact HO3.out, rfl, fun _ => rfl, Hg3.out⟩
            case round =>
              clear HO3 Hg3 HSn2 Hdr HHd Hal HR Htl htn
              clear S
              obtain ⟨t, S, gq, off, p, cap, ys, sb, rfl, hgk, hHd, hR, hal, hSn, hO, hys, hoff, hg⟩ := hrel
              have HHd := Lib.hid hHd
              have HR := Lib.hid hR
              have Hal := Lib.hid hal
              have HSn := Lib.hid hSn
              have HO := Lib.hid hO
              have Hg := Lib.hid hg
              have htn := hHd.tn
              have hSl := hHd.sd.len
              clear hHd hR hal hSn hO hg
              by_cases ht : t < S.O.length
              · have Ht := Lib.hid ht
                have Hnext := Lib.hid (HHd.out.next HV.out ht)
                have Hdr := Lib.hid (drop_head ht)
                obtain ⟨f1, f2, f3, f4, f5⟩ := owns_first HO.out (k := 0) rfl hys
                rw [natVs_len, Hdr.out] at f1
                rw [Hdr.out] at f5
                have hcn := HHd.out.sd.lt _ (oc_mem ht)
                have hdl : (S.O.drop (t + 1)).length ≤ 64 := by rw [List.length_drop]; omega
                obtain ⟨c, hc⟩ : ∃ c, oc S t = c := ⟨_, rfl⟩
                rw [hc] at Hdr f1 f5 hcn Hnext
                have Hc := Lib.hid hc
                obtain ⟨rest, hrest⟩ : ∃ l, S.O.drop (t + 1) = l := ⟨_, rfl⟩
                rw [hrest] at Hdr f1 f5 hdl
                rw [List.length_cons] at f1
                have hop := hoff (by omega)
                subst hop
                have q0 := f5 0 (.int .i64 (c : Int)) rfl
                rw [Nat.add_zero] at q0
                obtain ⟨_, bM, oM, rp, rc, hM3, hM4⟩ := HM.out
                obtain ⟨hM5, hbM⟩ := hM3 (by omega)
                simp only [Option.some.injEq, Addr.mk.injEq, and_true] at hM5
                obtain ⟨rfl, rfl⟩ := hM5
                obtain ⟨m1, m2⟩ := hM4 c (by omega)
                rw [Hrow.out c hcn, nL_len, Nat.zero_add] at m1
                rw [Hrow.out c hcn] at m2
                have m1w := Hg.out.cellEq m1
                have bMw := cell_lt m1w
                have hwl : Hid (∀ u ∈ near E c E.length, u < n) := Lib.hid (fun u hu => by have := near_lt HV.out (Nat.le_refl _) hu; rwa [toNat_n] at this)
                have hwlen := near_len E c E.length
                obtain ⟨ws, hws⟩ : ∃ ws, near E c E.length = ws := ⟨_, rfl⟩
                rw [hws] at m1w m2 hwl hwlen Hnext
                have HIr := Lib.hid m2
                have hl1 : Hid (S.O.drop t = c :: rest) := Hdr
                have hnp : Hid ((S.O.drop t).length = rest.length + 1) := Lib.hid (by rw [Hdr.out]; rfl)
                rw [hnp.out]
                clear hM3 hM4 m1 m2 hws hc hrest f5 ht hoff
                go_wp2
                go_loopw [11, 89] (fun v11 v89 wk => ∃ (j : Nat) (S' : BS) (gq p cap : Nat) (ys : List Value) (sb : List Bool) (rest : List Nat), j ≤ ws.length ∧ v89 = .int .i64 j ∧ v11 = .slice (some ⟨gq, p, none⟩) (rest.length + 1) cap ∧ S'.O.drop t = c :: rest ∧ S' = visits c S (ws.take j) ∧ Sd n S' ∧ (∃ l, S'.O = S.O ++ l) ∧
                  Sn n S' sb ∧ Owns wk B2 [qRow 3 gq p cap ys (natVs (c :: rest)), rB gs n sb, rI qo n S'.par] ∧ ys.length = p ∧ Grew wn wk) (fun _ v89 _ => ws.length - (intOf v89).toNat)
                case atStart =>
                  refine ⟨0, S, gq, off, cap, ys, sb, rest, Nat.zero_le _, rfl, rfl, Hdr.out, rfl, HHd.out.sd, ⟨[], by simp⟩, HSn.out, ?_, hys, Hg.out⟩
                  have h := HO.out
                  rwa [Hdr.out] at h
                case round =>
                  clear HO Hg HSn q0 m1w bMw f1 f2 f3 f4 hys hnp hl1 hdl Hdr
                  obtain ⟨j, S', gq, p, cap, ys, sb, rest, hj, rfl, rfl, hdr, hS', hSd, hext, hSn, hO, hys, hg⟩ := hrel
                  have Hdr := Lib.hid hdr
                  have HS' := Lib.hid hS'
                  have HSd := Lib.hid hSd
                  have Hext := Lib.hid hext
                  have HSn := Lib.hid hSn
                  have HO := Lib.hid hO
                  have Hg := Lib.hid hg
                  obtain ⟨f1, f2, f3, f4, f5⟩ := owns_first hO (k := 0) rfl hys
                  rw [natVs_len, List.length_cons] at f1
                  have q0 := f5 0 (.int .i64 (c : Int)) rfl
                  rw [Nat.add_zero] at q0
                  have hSl' := hSd.len
                  have hrl : rest.length ≤ 64 := by
                    have h1 := congrArg List.length hdr
                    rw [List.length_drop, List.length_cons] at h1
                    omega
                  clear hdr hS' hSd hext hSn hO hg f5
                  by_cases hjl : j < ws.length
                  · obtain ⟨u, hu⟩ : ∃ u, ws[j]? = some u := ⟨_, List.getElem?_eq_getElem hjl⟩
                    have hun := hwl.out u (List.mem_of_getElem? hu)
                    have Htk := Lib.hid (visits_take (c := c) (S := S) hu)
                    obtain ⟨br, or, hr3, hr4⟩ := (HIr.out.grew Hg.out).open
                    rw [nL_len] at hr3 hr4
                    obtain ⟨hrp, hbr⟩ := hr3 (by omega)
                    have cr := hr4 j hjl
                    rw [ge_nL hjl, List.getD_eq_getElem?_getD, hu] at cr
                    replace cr : wr.cell? ⟨br, or + j, none⟩ = some (.int .i64 (u : Int)) := cr
                    rw [hrp]
                    have e8 := own_atB HO.out (j := 1) rfl (i := u) hun
                    have b8 := own_lt HO.out (j := 1) rfl
                    clear hr3 hr4 hu
                    by_cases hin : u ∈ S'.O
                    · rw [HSn.out.v u hun, decide_eq_true hin] at e8
                      have Hvs : Hid (S' = visits c S (ws.take (j + 1))) := Lib.hid (by rw [Htk.out, ← HS'.out]; unfold visit; rw [if_pos hin])
                      clear hin
                      go_wp2
                      go_roundw
                      case rel => exact ⟨j + 1, S', gq, p, cap, ys, sb, rest, by omega, by go_num, rfl, Hdr.out, Hvs.out, HSd.out, Hext.out, HSn.out, HO.out, hys, Hg.out⟩
                      case measure => simp [intOf]; omega
                    · rw [HSn.out.v u hun, decide_eq_false hin] at e8
                      have htl' : t ≤ S'.O.length := by
                        have h1 := congrArg List.length Hdr.out
                        rw [List.length_drop, List.length_cons] at h1
                        omega
                      obtain ⟨S2, hS2⟩ : ∃ S2 : BS, ⟨S'.O ++ [u], S'.par.set u (c : Int), S'.roots⟩ = S2 := ⟨_, rfl⟩
                      have hO2 : S2.O = S'.O ++ [u] := by rw [← hS2]
                      have hp2 : S2.par = S'.par.set u (c : Int) := by rw [← hS2]
                      have Hvs : Hid (S2 = visits c S (ws.take (j + 1))) := Lib.hid (by rw [Htk.out, ← HS'.out]; unfold visit; rw [if_neg hin, hS2])
                      have HSd2 : Hid (Sd n S2) := Lib.hid (by
                        have h := HSd.out.visit hcn hun
                        unfold visit at h
                        rw [if_neg hin, hS2] at h
                        exact h)
                      have HSn2 : Hid (Sn n S2 (sb.set u true)) := Lib.hid (HSn.out.add hun hO2)
                      have Hext2 : Hid (∃ l, S2.O = S.O ++ l) := Lib.hid (by
                        obtain ⟨l, hl⟩ := Hext.out
                        exact ⟨l ++ [u], by rw [hO2, hl, List.append_assoc]⟩)
                      have Hdr2 : Hid (S2.O.drop t = c :: (rest ++ [u])) := Lib.hid (by rw [hO2, drop_add htl', Hdr.out]; rfl)
                      have Hp2 := Lib.hid hp2
                      have f8 := own_fr HO.out (j := 1) rfl
                      replace f8 := f8 u
                      have HO2 := Lib.hid (own_setB HO.out (j := 1) rfl u true)
                      have Hg2 := Lib.hid (HO.out.setGrew (w0 := wn) (by have := HB2.out; omega) Hg.out (k := 1) rfl u (.bool true))
                      clear hO2 hp2 hS2 hin htl'
                      go_upto_region 27 with fail
                      obtain ⟨w2, hw2⟩ : ∃ w2, wr.setCell ⟨gs, u, none⟩ (.bool true) = w2 := ⟨_, rfl⟩
                      rw [hw2] at HO2 Hg2 ⊢
                      clear hw2 HO Hg e8 b8 f8 q0 f1 f2 f3 f4 cr hbr
                      obtain ⟨f1, f2, f3, f4, f5⟩ := owns_first HO2.out (k := 0) rfl hys
                      rw [natVs_len, List.length_cons] at f1
                      have q0 := f5 0 (.int .i64 (c : Int)) rfl
                      rw [Nat.add_zero] at q0
                      have e7 := own_atI HO2.out (j := 2) rfl (i := u) hun
                      have b7 := own_lt HO2.out (j := 2) rfl
                      have f7 := own_fr HO2.out (j := 2) rfl
                      replace f7 := f7 u
                      have HO3 : Hid (Owns (w2.setCell ⟨qo, u, none⟩ (.int .i64 (c : Int))) B2 [qRow 3 gq p cap ys (natVs (c :: rest)), rB gs n (sb.set u true), rI qo n S2.par]) := Lib.hid (by
                        rw [Hp2.out]
                        exact own_setI HO2.out (j := 2) rfl u (c : Int))
                      have Hg3 := Lib.hid (HO2.out.setGrew (w0 := wn) (by have := HB2.out; omega) Hg2.out (k := 2) rfl u (.int .i64 (c : Int)))
                      clear f5
                      go_upto_region 28 with fail
                      obtain ⟨w3, hw3⟩ : ∃ w3, w2.setCell ⟨qo, u, none⟩ (.int .i64 (c : Int)) = w3 := ⟨_, rfl⟩
                      rw [hw3] at HO3 Hg3 ⊢
                      have hB3 : B2 ≤ w3.heap.size := by have := Hg3.out.below.size; have := HB2.out; omega
                      clear hw3 HO2 Hg2 e7 b7 f7 q0 f2 f3 f4
                      go_upto_region 29 with (at_builtin; refine wp_append_que rfl _ _ 22 rfl 3 8 (.int .i64 0) Try.underlying22 Try.infoInt rfl B2 _ 0 gq p p cap (rest.length + 1) ys (natVs (c :: rest)) (HO3.out.grew (by (repeat (first | exact Grew.refl _ | refine Grew.over ?_ _ | refine Grew.alloc ?_ _ | refine Grew.drew ?_ | refine Grew.drewN ?_ _)))) rfl hys (fun _ => rfl) (by simp [natVs_len]) rfl _ 1 rfl (.int .i64 (u : Int)) (by (simp [go_sem, ↓IntWalk.iteOmega])) (by simp [Value.oneCell']) (by simp only [maxLen]; omega) (by omega) (by first | rfl | omega | (simp <;> omega)) ?_; intro g1 off1 p1 cap1 ys1 w8 hO8 hys1 hoff1 hcap1 hg8 hb8; have hop1 := hoff1 (by omega); subst hop1; have Hg8 : Hid (Grew wn w8) := Lib.hid (Grew.grownBy (w0 := wn) (Hg3.out.trans (by (repeat (first | exact Grew.refl _ | refine Grew.over ?_ _ | refine Grew.alloc ?_ _ | refine Grew.drew ?_ | refine Grew.drewN ?_ _)))) hg8 (fun k h => by have := Option.some.inj h; have := HB2.out; omega)); have HO8 := Lib.hid hO8; clear hO8 hg8 hb8 hoff1)
                      have HO9 : Hid (Owns w8 B2 [qRow 3 g1 off1 cap1 ys1 (natVs (c :: (rest ++ [u]))), rB gs n (sb.set u true), rI qo n S2.par]) := Lib.hid (by
                        have h := HO8.out
                        simp only [List.set_cons_zero] at h
                        have e : natVs (c :: (rest ++ [u])) = natVs (c :: rest) ++ [.int .i64 (u : Int)] := by simp [natVs]
                        rw [e]
                        exact h)
                      go_wp2
                      go_roundw
                      case rel => exact ⟨j + 1, S2, g1, off1, cap1, ys1, _, rest ++ [u], by omega, by go_num, by rw [List.length_append]; rfl, Hdr2.out, Hvs.out, HSd2.out, Hext2.out, HSn2.out, HO9.out, hys1, Hg8.out⟩
                      case measure => simp [intOf]; omega
                  · have hje : j = ws.length := by omega
                    have HSB : Hid (S' = B E n (t + 1) ∧ Hd E n (t + 1) S') := Lib.hid (by
                      have h1 := Hnext.out
                      have h2 := HS'.out
                      rw [hje, List.take_length, h1.1] at h2
                      exact ⟨h2, by rw [h2]; exact h1.2⟩)
                    have HRt : Hid (S'.roots = R) := Lib.hid (by rw [HS'.out, visits_roots]; exact HR.out)
                    have HAl : Hid (∀ u, u < v + 1 → u ∈ S'.O) := Lib.hid (fun u hu => by
                      obtain ⟨l, hl⟩ := Hext.out
                      rw [hl]
                      exact List.mem_append_left _ (Hal.out u hu))
                    have HDr : Hid (S'.O.drop (t + 1) = rest) := Lib.hid (by
                      have h := congrArg (List.drop 1) Hdr.out
                      rw [List.drop_drop] at h
                      exact h)
                    have Htn : Hid (t + 1 ≤ n) := Lib.hid HSB.out.2.tn
                    clear hje
                    by_cases hc1 : cap = 1
                    · have hq0 : rest = [] := List.length_eq_zero_iff.1 (by omega)
                      subst hc1 hq0
                      go_wp2
                      go_roundg (n - (t + 1))
                      case rel =>
                        refine ⟨t + 1, S', gq, p, p + 1, 0, ys ++ [.int .i64 (c : Int)], sb, by rw [HDr.out]; rfl, rfl, HSB.out.2, HRt.out, HAl.out, HSn.out, ?_, by simp [hys], fun h => (by cases h), Hg.out⟩
                        have h : Owns wr B2 [qRow 3 gq p (0 + 1) ys (.int .i64 (c : Int) :: natVs []), rB gs n sb, rI qo n S'.par] := HO.out
                        rw [qRow_cut] at h
                        rw [HDr.out]
                        exact h
                      case measure => have := Htn.out; omega
                    · obtain ⟨cap, rfl⟩ : ∃ c', cap = c' + 1 := ⟨cap - 1, by omega⟩
                      go_wp2
                      go_roundg (n - (t + 1))
                      case rel =>
                        refine ⟨t + 1, S', gq, p + 1, p + 1, cap, ys ++ [.int .i64 (c : Int)], sb, by rw [HDr.out], rfl, HSB.out.2, HRt.out, HAl.out, HSn.out, ?_, by simp [hys], fun _ => rfl, Hg.out⟩
                        have h : Owns wr B2 [qRow 3 gq p (cap + 1) ys (.int .i64 (c : Int) :: natVs rest), rB gs n sb, rI qo n S'.par] := HO.out
                        rw [qRow_cut] at h
                        rw [HDr.out]
                        exact h
                      case measure => have := Htn.out; omega
              · have hS := HHd.out.stop HV.out ht
                subst hS
                have h0 : ((B E n t).O.drop t).length = 0 := by rw [List.length_drop]; omega
                have htl : t = (B E n t).O.length := by have := HHd.out.tl; omega
                have Htl := Lib.hid htl
                have hR := HR.out
                rw [h0]
                have HO2 := Lib.hid HO.out.tail
                have HR2 : Hid ((R : Int) = ((B E n t).roots : Int)) := Lib.hid (by rw [hR])
                clear ht htl h0 hR hoff hys
                go_wp2
                go_roundw
                case rel => exact ⟨v + 1, t, sb, by omega, by go_num, htn, by rw [HR2.out], Htl.out, Hal.out, HSn.out, HO2.out, Hg.out⟩
                case measure => simp [intOf]; omega
        · have hve : v = n := by omega
          subst hve
          have hsd := (Bn_sd HV.out htn).1
          have hol := all_len hsd Hall.out
          have hte : t = v := by have := Htl.out; omega
          subst hte
          have hpl := hsd.pl
          have HI : Hid (Ints wr (some ⟨qo, 0, none⟩) (B E t t).par) := Lib.hid (own_intsG HO.out (k := 1) rfl hpl (by omega) (par_ints hsd (by omega)))
          have x0 := Hg.out.cellEq HX0n.out
          have x1 := Hg.out.cellEq HX1n.out
          have hbw := cell_lt x0
          have Hgw := Lib.hid (Hgwn.out.trans Hg.out)
          have HL := Lib.hid hpl
          obtain ⟨r0, hr0⟩ : ∃ r, (B E t t).roots = r := ⟨_, rfl⟩
          have Hr0 := Lib.hid hr0
          rw [hr0] at hrt ⊢
          have hwr : IntKind.i64.wrap ((t : Int) - (r0 : Int)) = (t : Int) - (r0 : Int) := IntWalk.i64_in _ ⟨by omega, by omega⟩
          clear hsd hol hpl hr0 HO HSn Hall Htl Hg
          by_cases hc : E.length + r0 = t
          · have hq : ((E.length : Int) != (t : Int) - (r0 : Int)) = false := by rw [bne_eq_false_iff_eq]; omega
            have hq2 : (E.length : Int) = (t : Int) - (r0 : Int) := by omega
            have Hc : Hid (E.length + (B E t t).roots = t) := Lib.hid (by rw [Hr0.out]; exact hc)
            clear hc hq2
            cases hf : vForB (B E t t).par
            · have Hf := Lib.hid hf
              have Hno : Hid (¬ vFor (B E t t).par) := Lib.hid (fun h => by rw [vForB_iff.2 h] at hf; cases hf)
              clear hf
              go_wp2_with (go_at_call 19; apply Calls.mono; (with_reducible exact validp_e Hf.out HI.out HL.out); rintro e w' ⟨rfl, rfl⟩)
              go_ret2
              exact ⟨Hgw.out, Or.inr ⟨t, rfl, HV.out, Or.inr (Or.inl ⟨Hc.out, Hno.out, rfl⟩)⟩⟩
            · have Hf := Lib.hid hf
              have Hno : Hid (vFor (B E t t).par) := Lib.hid (vForB_iff.1 hf)
              clear hf
              go_wp2_with (go_at_call 19; apply Calls.mono; (with_reducible exact validp_e Hf.out HI.out HL.out); rintro e w' ⟨rfl, rfl⟩)
              go_ret2
              exact ⟨Hgw.out, Or.inr ⟨t, rfl, HV.out, Or.inr (Or.inr ⟨Hc.out, Hno.out, _, _, rfl, HI.out⟩)⟩⟩
          · have hq : ((E.length : Int) != (t : Int) - (r0 : Int)) = true := by rw [bne_iff_ne]; omega
            have hq2 : ¬ (E.length : Int) = (t : Int) - (r0 : Int) := by omega
            have Hc : Hid (¬ E.length + (B E t t).roots = t) := Lib.hid (by rw [Hr0.out]; exact hc)
            clear hc
            go_wp2
            go_ret2
            exact ⟨Hgw.out, Or.inr ⟨t, rfl, HV.out, Or.inl ⟨Hc.out, rfl⟩⟩⟩
end Go.Proofs.Ytgodoeefgmfpfaa
