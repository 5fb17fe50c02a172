/- Bounds of the program. -/
import Derived.Test.YtmljfjcebfonaaaPolH
set_option linter.unusedSimpArgs false
set_option linter.unusedVariables false
namespace Go.Proofs.Ytmljfjcebfonaaa
open Go.RowKit
attribute [local go_sem ↓] Go.wp_at_zero Go.wp_at_succ

theorem bxAdd_self (p : Int × Int) : bxAdd (bxP p) p = bxP p := by
  simp [bxAdd, bxP]
/-- The box of the first k points: the first point counts twice. -/
def bndP (E : List (Int × Int)) : Nat → Bx
  | 0 => bxP (pr E 0)
  | k + 1 => bxAdd (bndP E k) (pr E k)
theorem bndP_eq (E : List (Int × Int)) : ∀ k, bndP E (k + 1) = bndK E k
  | 0 => by rw [bndP, bndP, bxAdd_self, bndK]
  | k + 1 => by rw [bndP, bndP_eq E k, bndK]

set_option maxRecDepth 8000 in
set_option maxHeartbeats 4000000 in
theorem bounds_p (p : Option Addr) (n c : Nat) (E : List (Int × Int)) (w : World) (hP : Prs w p E) (hn : E.length = n) :
    Calls Try.prog 13 #[.slice p n c] w fun e w' => e = .returned (bxV (bndF E)) ∧ Grew w w' := by
  subst hn
  have HP := Lib.hid hP
  cases hv : vPB E
  case false =>
    have Hv := Lib.hid hv
    have Hf : Hid (bndF E = ⟨0, 0, 0, 0⟩) := Lib.hid (by unfold bndF; rw [hv]; rfl)
    clear hP hv
    go_enter Try.func13, Try.ntmps13
    go_upto_region 2 with (go_at_call 9; apply Calls.mono; (with_reducible exact valid_pe Hv.out (HP.out.grew (by (repeat (first | exact Grew.refl _ | refine Grew.over ?_ _ | refine Grew.alloc ?_ _ | refine Grew.drew ?_ | refine Grew.drewN ?_ _)))) rfl); rintro e w' ⟨rfl, x, rfl⟩)
    obtain ⟨wz, hwz⟩ : ∃ wz, over (w.alloc (.cells #[.int .i64 0, .int .i64 0, .int .i64 0, .int .i64 0] 27)) x = wz := ⟨_, rfl⟩
    have hB : BoxAt wz w.heap.size ⟨0, 0, 0, 0⟩ := by rw [← hwz]; exact (BoxAt.new w ⟨0, 0, 0, 0⟩ _ rfl).grew (by (repeat (first | exact Grew.refl _ | refine Grew.over ?_ _ | refine Grew.alloc ?_ _ | refine Grew.drew ?_ | refine Grew.drewN ?_ _)))
    have Hgz : Hid (Grew w wz) := Lib.hid (by rw [← hwz]; (repeat (first | exact Grew.refl _ | refine Grew.over ?_ _ | refine Grew.alloc ?_ _ | refine Grew.drew ?_ | refine Grew.drewN ?_ _)))
    have HB := Lib.hid (hB.set ⟨0, 0, 0, 0⟩)
    obtain ⟨c0, c1, c2, c3, f0, f1, f2, f3⟩ := hB.cells
    rw [hwz]
    clear hwz hB
    go_wp2
    have e : ((((wz.setCell ⟨w.heap.size, 0, none⟩ (.int .i64 0)).setCell ⟨w.heap.size, 1, none⟩ (.int .i64 0)).setCell ⟨w.heap.size, 2, none⟩ (.int .i64 0)).setCell ⟨w.heap.size, 3, none⟩ (.int .i64 0)) = bxSet wz w.heap.size ⟨0, 0, 0, 0⟩ := rfl
    rw [e]
    obtain ⟨wy, hwy⟩ : ∃ wy, bxSet wz w.heap.size ⟨0, 0, 0, 0⟩ = wy := ⟨_, rfl⟩
    have HG := Lib.hid (Hgz.out.bxSet (O := w.heap.size) (Nat.le_refl _) ⟨0, 0, 0, 0⟩)
    rw [hwy] at HB HG ⊢
    refine ret_box (b := ⟨0, 0, 0, 0⟩) rfl rfl HB.out rfl ?_
    exact ⟨by rw [Hf.out], HG.out⟩
  have Hv := Lib.hid hv
  have HV := Lib.hid (vPB_iff.1 hv)
  have hl1 := (vPB_iff.1 hv).l1
  have hl2 := (vPB_iff.1 hv).l2
  have Hf : Hid (bndF E = bndK E (E.length - 1)) := Lib.hid (by unfold bndF; rw [hv]; rfl)
  clear hP hv
  obtain ⟨b, o, rfl, hb, hc⟩ := HP.out.cells (by omega)
  obtain ⟨c1, c2⟩ := hc w (Grew.refl _) 0 (by omega)
  obtain ⟨ax, hax⟩ : ∃ x, (pr E 0).1 = x := ⟨_, rfl⟩
  obtain ⟨ay, hay⟩ : ∃ x, (pr E 0).2 = x := ⟨_, rfl⟩
  rw [hax] at c1
  rw [hay] at c2
  simp only [Nat.zero_mul, Nat.add_zero] at c1 c2
  have Hc := Lib.hid hc
  have H0 : Hid (bndK E 0 = ⟨ax, ay, ax, ay⟩) := Lib.hid (by rw [bndK, bxP, hax, hay])
  have hl0 : 0 < E.length := by omega
  clear hc hax hay
  go_enter Try.func13, Try.ntmps13
  go_upto_region 3 with (go_at_call 9; apply Calls.mono; (with_reducible exact valid_pe Hv.out (HP.out.grew (by (repeat (first | exact Grew.refl _ | refine Grew.over ?_ _ | refine Grew.alloc ?_ _ | refine Grew.drew ?_ | refine Grew.drewN ?_ _)))) rfl); rintro e w' ⟨rfl, x, rfl⟩)
  obtain ⟨wz, hwz⟩ : ∃ wz, over (w.alloc (.cells #[.int .i64 0, .int .i64 0, .int .i64 0, .int .i64 0] 27)) x = wz := ⟨_, rfl⟩
  have hsz : w.heap.size + 1 ≤ wz.heap.size := by rw [← hwz]; simp
  have hgz : Grew w wz := by rw [← hwz]; (repeat (first | exact Grew.refl _ | refine Grew.over ?_ _ | refine Grew.alloc ?_ _ | refine Grew.drew ?_ | refine Grew.drewN ?_ _))
  have HB : Hid (BoxAt wz w.heap.size ⟨0, 0, 0, 0⟩) := Lib.hid (by rw [← hwz]; exact (BoxAt.new w ⟨0, 0, 0, 0⟩ _ rfl).grew (by (repeat (first | exact Grew.refl _ | refine Grew.over ?_ _ | refine Grew.alloc ?_ _ | refine Grew.drew ?_ | refine Grew.drewN ?_ _))))
  rw [hwz]
  clear hwz
  have c1 := hgz.cellEq c1
  have c2 := hgz.cellEq c2
  have Hgz := Lib.hid hgz
  clear hgz
  refine wp_region_T (s := 18) (S := fun w' => w'.cell? ⟨b, o, none⟩ = some (.int .i64 ax) ∧ w'.cell? ⟨b, o + 1, none⟩ = some (.int .i64 ay)) (by kernel_rfl) ⟨by simpa using c1, by simpa using c2⟩ (fun hH => ?_)
  refine wpAnyT_takeL (i := 0) (v := ?_) rfl (by kernel_rfl) (by kernel_rfl) (by kernel_rfl) (by kernel_rfl) (fun _ _ _ h => h) (Or.inl ⟨by rfl, ?_⟩) (by assumption) ?_
  rotate_left
  · (intro w hSw; (try dsimp only at hSw); go_simp; (try with_reducible rfl))
  (try simp only [Act.put, List.setIfInBounds_toArray, List.set_cons_zero, List.set_cons_succ])
  refine wpAnyT_takeL (i := 1) (v := ?_) rfl (by kernel_rfl) (by kernel_rfl) (by kernel_rfl) (by kernel_rfl) (fun _ _ _ h => h) (Or.inl ⟨by rfl, ?_⟩) (by assumption) ?_
  rotate_left
  · (intro w hSw; (try dsimp only at hSw); go_simp; (try with_reducible rfl))
  (try simp only [Act.put, List.setIfInBounds_toArray, List.set_cons_zero, List.set_cons_succ])
  refine wpAnyT_takeL (i := 2) (v := ?_) rfl (by kernel_rfl) (by kernel_rfl) (by kernel_rfl) (by kernel_rfl) (fun _ _ _ h => h) (Or.inl ⟨by rfl, ?_⟩) (by assumption) ?_
  rotate_left
  · (intro w hSw; (try dsimp only at hSw); go_simp; (try with_reducible rfl))
  (try simp only [Act.put, List.setIfInBounds_toArray, List.set_cons_zero, List.set_cons_succ])
  refine wpAnyT_takeL (i := 3) (v := ?_) rfl (by kernel_rfl) (by kernel_rfl) (by kernel_rfl) (by kernel_rfl) (fun _ _ _ h => h) (Or.inl ⟨by rfl, ?_⟩) (by assumption) ?_
  rotate_left
  · (intro w hSw; (try dsimp only at hSw); go_simp; (try with_reducible rfl))
  (try simp only [Act.put, List.setIfInBounds_toArray, List.set_cons_zero, List.set_cons_succ])
  refine wpAnyT_takeL (i := 4) (v := ?_) rfl (by kernel_rfl) (by kernel_rfl) (by kernel_rfl) (by kernel_rfl) (fun _ _ _ h => h) (Or.inl ⟨by rfl, ?_⟩) (by assumption) ?_
  rotate_left
  · (intro w hSw; (try dsimp only at hSw); go_simp; (try with_reducible rfl))
  (try simp only [Act.put, List.setIfInBounds_toArray, List.set_cons_zero, List.set_cons_succ])
  refine wpAnyT_takeL (i := 5) (v := ?_) rfl (by kernel_rfl) (by kernel_rfl) (by kernel_rfl) (by kernel_rfl) (fun _ _ _ h => h) (Or.inl ⟨by rfl, ?_⟩) (by assumption) ?_
  rotate_left
  · (intro w hSw; (try dsimp only at hSw); go_simp; (try with_reducible rfl))
  (try simp only [Act.put, List.setIfInBounds_toArray, List.set_cons_zero, List.set_cons_succ])
  refine wpAnyT_takeL (i := 6) (v := ?_) rfl (by kernel_rfl) (by kernel_rfl) (by kernel_rfl) (by kernel_rfl) (fun _ _ _ h => h) (Or.inl ⟨by rfl, ?_⟩) (by assumption) ?_
  rotate_left
  · (intro w hSw; (try dsimp only at hSw); go_simp; (try with_reducible rfl))
  (try simp only [Act.put, List.setIfInBounds_toArray, List.set_cons_zero, List.set_cons_succ])
  refine wpAnyT_takeL (i := 7) (v := ?_) rfl (by kernel_rfl) (by kernel_rfl) (by kernel_rfl) (by kernel_rfl) (fun _ _ _ h => h) (Or.inl ⟨by rfl, ?_⟩) (by assumption) ?_
  rotate_left
  · (intro w hSw; (try dsimp only at hSw); go_simp; (try with_reducible rfl))
  (try simp only [Act.put, List.setIfInBounds_toArray, List.set_cons_zero, List.set_cons_succ])
  refine wpAnyT_takeL (i := 8) (v := ?_) rfl (by kernel_rfl) (by kernel_rfl) (by kernel_rfl) (by kernel_rfl) (fun _ _ _ h => h) (Or.inl ⟨by rfl, ?_⟩) (by assumption) ?_
  rotate_left
  · (intro w hSw; (try dsimp only at hSw); go_simp; (try with_reducible rfl))
  (try simp only [Act.put, List.setIfInBounds_toArray, List.set_cons_zero, List.set_cons_succ])
  refine wpAnyT_takeL (i := 9) (v := ?_) rfl (by kernel_rfl) (by kernel_rfl) (by kernel_rfl) (by kernel_rfl) (fun _ _ _ h => h) (Or.inl ⟨by rfl, ?_⟩) (by assumption) ?_
  rotate_left
  · (intro w hSw; (try dsimp only at hSw); go_simp; (try with_reducible rfl))
  (try simp only [Act.put, List.setIfInBounds_toArray, List.set_cons_zero, List.set_cons_succ])
  refine wpAnyT_takeL (i := 10) (v := ?_) rfl (by kernel_rfl) (by kernel_rfl) (by kernel_rfl) (by kernel_rfl) (fun _ _ _ h => h) (Or.inl ⟨by rfl, ?_⟩) (by assumption) ?_
  rotate_left
  · (intro w hSw; (try dsimp only at hSw); go_simp; (try with_reducible rfl))
  (try simp only [Act.put, List.setIfInBounds_toArray, List.set_cons_zero, List.set_cons_succ])
  refine wpAnyT_takeL (i := 11) (v := ?_) rfl (by kernel_rfl) (by kernel_rfl) (by kernel_rfl) (by kernel_rfl) (fun _ _ _ h => h) (Or.inl ⟨by rfl, ?_⟩) (by assumption) ?_
  rotate_left
  · (intro w hSw; (try dsimp only at hSw); go_simp; (try with_reducible rfl))
  (try simp only [Act.put, List.setIfInBounds_toArray, List.set_cons_zero, List.set_cons_succ])
  refine wpAnyT_takeL (i := 12) (v := ?_) rfl (by kernel_rfl) (by kernel_rfl) (by kernel_rfl) (by kernel_rfl) (fun _ _ _ h => h) (Or.inl ⟨by rfl, ?_⟩) (by assumption) ?_
  rotate_left
  · (intro w hSw; (try dsimp only at hSw); go_simp; (try with_reducible rfl))
  (try simp only [Act.put, List.setIfInBounds_toArray, List.set_cons_zero, List.set_cons_succ])
  refine wpAnyT_takeL (i := 13) (v := ?_) rfl (by kernel_rfl) (by kernel_rfl) (by kernel_rfl) (by kernel_rfl) (fun _ _ _ h => h) (Or.inl ⟨by rfl, ?_⟩) (by assumption) ?_
  rotate_left
  · (intro w hSw; (try dsimp only at hSw); go_simp; (try with_reducible rfl))
  (try simp only [Act.put, List.setIfInBounds_toArray, List.set_cons_zero, List.set_cons_succ])
  refine wpAnyT_takeL (i := 14) (v := ?_) rfl (by kernel_rfl) (by kernel_rfl) (by kernel_rfl) (by kernel_rfl) (fun _ _ _ h => h) (Or.inl ⟨by rfl, ?_⟩) (by assumption) ?_
  rotate_left
  · (intro w hSw; (try dsimp only at hSw); go_simp; (try with_reducible rfl))
  (try simp only [Act.put, List.setIfInBounds_toArray, List.set_cons_zero, List.set_cons_succ])
  refine wpAnyT_takeL (i := 15) (v := ?_) rfl (by kernel_rfl) (by kernel_rfl) (by kernel_rfl) (by kernel_rfl) (fun _ _ _ h => h) (Or.inl ⟨by rfl, ?_⟩) (by assumption) ?_
  rotate_left
  · (intro w hSw; (try dsimp only at hSw); go_simp; (try with_reducible rfl))
  (try simp only [Act.put, List.setIfInBounds_toArray, List.set_cons_zero, List.set_cons_succ])
  refine wpAnyT_takeL (i := 16) (v := ?_) rfl (by kernel_rfl) (by kernel_rfl) (by kernel_rfl) (by kernel_rfl) (fun _ _ _ h => h) (Or.inl ⟨by rfl, ?_⟩) (by assumption) ?_
  rotate_left
  · (intro w hSw; (try dsimp only at hSw); go_simp; (try with_reducible rfl))
  (try simp only [Act.put, List.setIfInBounds_toArray, List.set_cons_zero, List.set_cons_succ])
  refine wpAnyT_all (rs := [17]) (by kernel_rfl) (by simp) (AllT.consL (i := 17) rfl (fun K hK => ?_) AllT.nil)
  go_simp
  refine hK.out _ _ ?_ (fun hH => ?_)
  · (first | (simp [go_sem, ↓IntWalk.iteOmega, *]; done) | go_keep)
  clear hK K
  (try simp only [Act.put, List.setIfInBounds_toArray, List.set_cons_zero, List.set_cons_succ])
  refine wpAnyT_all (rs := [18]) (by kernel_rfl) (by simp) (AllT.lastL rfl (fun K hK => ?_))
  go_simp
  refine hK.out _ _ ?_
  clear hK K
  (try simp only [Act.put, List.setIfInBounds_toArray, List.set_cons_zero, List.set_cons_succ])
  refine wpAnyT_done (by kernel_rfl) ?_ _
  obtain ⟨w1, hw1⟩ : ∃ w1, (wz.alloc (.cells #[.int .i64 ax, .int .i64 ay, .int .i64 ax, .int .i64 ay] 27)).drew = w1 := ⟨_, rfl⟩
  obtain ⟨O, hO⟩ : ∃ O, w.heap.size = O := ⟨_, rfl⟩
  obtain ⟨C, hC⟩ : ∃ C, wz.heap.size = C := ⟨_, rfl⟩
  have HO : Hid (w.heap.size ≤ O) := Lib.hid (by omega)
  have HC : Hid (w.heap.size ≤ C) := Lib.hid (by omega)
  have HOC : Hid (C ≠ O) := Lib.hid (by omega)
  have Hg1 : Hid (Grew w w1) := Lib.hid (by rw [← hw1]; exact Hgz.out.trans (by (repeat (first | exact Grew.refl _ | refine Grew.over ?_ _ | refine Grew.alloc ?_ _ | refine Grew.drew ?_ | refine Grew.drewN ?_ _))))
  have HB1 : Hid (BoxAt w1 O ⟨0, 0, 0, 0⟩) := Lib.hid (by rw [← hw1, ← hO]; exact HB.out.grew (by (repeat (first | exact Grew.refl _ | refine Grew.over ?_ _ | refine Grew.alloc ?_ _ | refine Grew.drew ?_ | refine Grew.drewN ?_ _))))
  have HC1 : Hid (BoxAt w1 C (bndP E 0)) := Lib.hid (by rw [← hw1, show bndP E 0 = bndK E 0 from rfl, H0.out]; exact (BoxAt.new wz ⟨ax, ay, ax, ay⟩ C hC.symm).drew)
  rw [hw1, hC]
  try rw [hO]
  clear hw1 hC HB Hgz hsz c1 c2
  go_wp2
  go_loopw [29] (fun i wr => ∃ k : Nat, k ≤ E.length ∧ i = .int .i64 k ∧ Grew w wr ∧ BoxAt wr O ⟨0, 0, 0, 0⟩ ∧ BoxAt wr C (bndP E k)) (fun i _ => E.length - (intOf i).toNat)
  case atStart => exact ⟨0, by omega, rfl, Hg1.out, HB1.out, HC1.out⟩
  case round =>
    clear Hg1 HB1 HC1
    obtain ⟨k, hk, rfl, hg, hB, hC⟩ := hrel
    have Hg := Lib.hid hg
    have HB := Lib.hid hB
    have HD := Lib.hid hC
    obtain ⟨D, hD⟩ : ∃ D, bndP E k = D := ⟨_, rfl⟩
    obtain ⟨x0, y0, x1, y1⟩ := D
    rw [hD] at hC
    by_cases hlt : k < E.length
    · obtain ⟨d1, d2⟩ := Hc.out wr Hg.out k hlt
      obtain ⟨bx, hbx⟩ : ∃ x, (pr E k).1 = x := ⟨_, rfl⟩
      obtain ⟨bZ, hbZ⟩ : ∃ x, (pr E k).2 = x := ⟨_, rfl⟩
      have HS : Hid (bndP E (k + 1) = ⟨min x0 bx, min y0 bZ, max x1 bx, max y1 bZ⟩) := Lib.hid (by rw [bndP, hD, bxAdd, hbx, hbZ])
      rw [hbx] at d1
      rw [hbZ] at d2
      have hsz := Hg.out.below.size
      have hClt := hC.lt
      clear hbx hbZ hD hg hB
      go_upto_region 7 with fail
      obtain ⟨wv, hwv⟩ : ∃ wv, wr.alloc (.cells #[.int .i64 bx, .int .i64 bZ] 32) = wv := ⟨_, rfl⟩
      have hgv : Grew wr wv := by rw [← hwv]; (repeat (first | exact Grew.refl _ | refine Grew.over ?_ _ | refine Grew.alloc ?_ _ | refine Grew.drew ?_ | refine Grew.drewN ?_ _))
      have p1 : wv.cell? ⟨wr.heap.size, 0, none⟩ = some (.int .i64 bx) := by rw [← hwv]; simp [go_sem]
      have p2 : wv.cell? ⟨wr.heap.size, 1, none⟩ = some (.int .i64 bZ) := by rw [← hwv]; simp [go_sem]
      have hC2 := hC.grew hgv
      obtain ⟨k0, k1', k2, k3, f0, f1, f2, f3⟩ := hC2.cells
      dsimp only at k0 k1' k2 k3
      have HGy := Lib.hid ((Hg.out.trans hgv).bxSet HC.out ⟨min x0 bx, min y0 bZ, max x1 bx, max y1 bZ⟩)
      have HBy := Lib.hid ((HB.out.grew hgv).other ⟨min x0 bx, min y0 bZ, max x1 bx, max y1 bZ⟩ HOC.out)
      have HDy := Lib.hid (hC2.set ⟨min x0 bx, min y0 bZ, max x1 bx, max y1 bZ⟩)
      rw [hwv]
      clear hwv hC hgv hC2
      go_upto_region 8 with fail
      simp only [min_if, max_if]
      have e : ((((wv.setCell ⟨C, 0, none⟩ (.int .i64 (min x0 bx))).setCell ⟨C, 1, none⟩ (.int .i64 (min y0 bZ))).setCell ⟨C, 2, none⟩ (.int .i64 (max x1 bx))).setCell ⟨C, 3, none⟩ (.int .i64 (max y1 bZ))) = bxSet wv C ⟨min x0 bx, min y0 bZ, max x1 bx, max y1 bZ⟩ := rfl
      rw [e]
      obtain ⟨wy, hwy⟩ : ∃ wy, bxSet wv C ⟨min x0 bx, min y0 bZ, max x1 bx, max y1 bZ⟩ = wy := ⟨_, rfl⟩
      rw [hwy] at HGy HBy HDy ⊢
      rw [← HS.out] at HDy
      clear hwy k0 k1' k2 k3 f0 f1 f2 f3 e d1 d2 p1 p2
      go_wp2
      go_roundw
      case rel => exact ⟨k + 1, by omega, by go_num, HGy.out, HBy.out, HDy.out⟩
      case measure => simp [intOf]; omega
    · have hke : k = E.length - 1 + 1 := by omega
      have HF : Hid (bndF E = ⟨x0, y0, x1, y1⟩) := Lib.hid (by rw [Hf.out, ← bndP_eq, ← hke, hD])
      obtain ⟨k0, k1', k2, k3, f0, f1, f2, f3⟩ := hC.cells
      dsimp only at k0 k1' k2 k3
      obtain ⟨_, _, _, _, g0, g1, g2, g3⟩ := HB.out.cells
      have HB2 := Lib.hid (HB.out.set ⟨x0, y0, x1, y1⟩)
      have HG2 := Lib.hid (Hg.out.bxSet HO.out ⟨x0, y0, x1, y1⟩)
      clear hk hke hD hg hB hC
      go_wp2
      have e : ((((wr.setCell ⟨O, 0, none⟩ (.int .i64 x0)).setCell ⟨O, 1, none⟩ (.int .i64 y0)).setCell ⟨O, 2, none⟩ (.int .i64 x1)).setCell ⟨O, 3, none⟩ (.int .i64 y1)) = bxSet wr O ⟨x0, y0, x1, y1⟩ := rfl
      rw [e]
      obtain ⟨wy, hwy⟩ : ∃ wy, bxSet wr O ⟨x0, y0, x1, y1⟩ = wy := ⟨_, rfl⟩
      rw [hwy] at HB2 HG2 ⊢
      refine ret_box (b := ⟨x0, y0, x1, y1⟩) rfl rfl HB2.out rfl ?_
      exact ⟨by rw [HF.out], HG2.out⟩
theorem bounds_pe {p : Option Addr} {n c : Nat} {E : List (Int × Int)} {w : World} {b : Bx} (h : bndF E = b) (hP : Prs w p E) (hn : E.length = n) :
    Calls Try.prog 13 #[.slice p n c] w fun e w' => e = .returned (bxV b) ∧ Grew w w' := h ▸ bounds_p p n c E w hP hn
end Go.Proofs.Ytmljfjcebfonaaa
