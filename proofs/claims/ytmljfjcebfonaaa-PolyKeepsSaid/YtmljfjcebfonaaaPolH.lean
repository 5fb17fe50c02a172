/- Bounds of the reference. -/
import Derived.Test.YtmljfjcebfonaaaPolC
import Derived.Deep.RegionHeldLaw
set_option linter.unusedSimpArgs false
set_option linter.unusedVariables false
namespace Go.Proofs.Ytmljfjcebfonaaa
open Go.RowKit
attribute [local go_sem ↓] Go.wp_at_zero Go.wp_at_succ

/-! ### A box in a block of its own -/
def bxC (b : Bx) : Array Value := #[.int .i64 b.x0, .int .i64 b.y0, .int .i64 b.x1, .int .i64 b.y1]
def BoxAt (w : World) (O : Nat) (b : Bx) : Prop := w.heap[O]? = some (.cells (bxC b) 27 (0, 0))
theorem BoxAt.lt {w : World} {O : Nat} {b : Bx} (h : BoxAt w O b) : O < w.heap.size := lt_of_block h
theorem BoxAt.grew {w w' : World} {O : Nat} {b : Bx} (h : BoxAt w O b) (hg : Grew w w') : BoxAt w' O b := by
  unfold BoxAt
  rw [hg.below.block O h.lt]
  exact h
theorem BoxAt.new (w : World) (b : Bx) (O : Nat) (hO : O = w.heap.size) : BoxAt (w.alloc (.cells (bxC b) 27)) O b := by
  subst hO
  show (w.heap.push _)[w.heap.size]? = _
  exact Array.getElem?_push_size
theorem BoxAt.drew {w : World} {O : Nat} {b : Bx} (h : BoxAt w O b) : BoxAt w.drew O b := h
theorem BoxAt.cells {w : World} {O : Nat} {b : Bx} (h : BoxAt w O b) :
    w.cell? ⟨O, 0, none⟩ = some (.int .i64 b.x0) ∧ w.cell? ⟨O, 1, none⟩ = some (.int .i64 b.y0) ∧ w.cell? ⟨O, 2, none⟩ = some (.int .i64 b.x1) ∧ w.cell? ⟨O, 3, none⟩ = some (.int .i64 b.y1) ∧
    w.frozen? ⟨O, 0, none⟩ = false ∧ w.frozen? ⟨O, 1, none⟩ = false ∧ w.frozen? ⟨O, 2, none⟩ = false ∧ w.frozen? ⟨O, 3, none⟩ = false :=
  ⟨cell_of_row w O 0 _ _ (0, 0) h, cell_of_row w O 1 _ _ (0, 0) h, cell_of_row w O 2 _ _ (0, 0) h, cell_of_row w O 3 _ _ (0, 0) h, frozen_of_row w O 0 _ _ h, frozen_of_row w O 1 _ _ h, frozen_of_row w O 2 _ _ h, frozen_of_row w O 3 _ _ h⟩
/-- A box is stored. -/
def bxSet (w : World) (O : Nat) (b : Bx) : World := (((w.setCell ⟨O, 0, none⟩ (.int .i64 b.x0)).setCell ⟨O, 1, none⟩ (.int .i64 b.y0)).setCell ⟨O, 2, none⟩ (.int .i64 b.x1)).setCell ⟨O, 3, none⟩ (.int .i64 b.y1)
theorem BoxAt.set {w : World} {O : Nat} {b : Bx} (h : BoxAt w O b) (b' : Bx) : BoxAt (bxSet w O b') O b' := by
  unfold BoxAt at h ⊢
  simp only [bxSet, World.setCell, Array.getElem?_modify, h, if_true, Option.map_some, bxC]
  rfl
theorem BoxAt.other {w : World} {O O' : Nat} {b : Bx} (h : BoxAt w O b) (b' : Bx) (hne : O' ≠ O) : BoxAt (bxSet w O' b') O b := by
  unfold BoxAt at h ⊢
  simp only [bxSet, World.setCell, Array.getElem?_modify, if_neg hne]
  exact h
theorem Grew.bxSet {w0 w : World} (h : Grew w0 w) {O : Nat} (hO : w0.heap.size ≤ O) (b : Bx) : Grew w0 (bxSet w O b) := (((h.setCell (p := ⟨O, 0, none⟩) hO _).setCell (p := ⟨O, 1, none⟩) hO _).setCell (p := ⟨O, 2, none⟩) hO _).setCell (p := ⟨O, 3, none⟩) hO _
theorem Try.infoBox : (Try.prog.info? 27).map (fun i => (i.zero, i.size, i.bytes)) = some (some (.agg #[.int .i64 0, .int .i64 0, .int .i64 0, .int .i64 0]), 4, 32) := by kernel_rfl
theorem ret_box {fn : Func} {R : Ending → World → Prop} {a : Act} {w : World} (h : fn.results = #[.cell 2 27]) {O : Nat} {b : Bx}
    (hp : a.tmps.getD 2 undef = .pointer (some ⟨O, 0, none⟩)) (hg : BoxAt w O b) (hd : a.defers = []) (hR : R (.returned (bxV b)) w) : bodyPost Try.prog fn R .ret a w := by
  obtain ⟨i0, hi, _, hz1, _⟩ := info_parts Try.infoBox
  exact bodyPost_ret (results_cell_row h a.tmps w O 27 (bxC b) (0, 0) _ hp hg Try.underlying27 rfl (by simp [hi, hz1, bxC])) hd hR
theorem min_if (a b : Int) : (if b < a then b else a) = min a b := by split <;> omega
theorem max_if (a b : Int) : (if a < b then b else a) = max a b := by split <;> omega

set_option maxRecDepth 8000 in
set_option maxHeartbeats 4000000 in
theorem bounds_r (p : Option Addr) (n c : Nat) (E : List (Int × Int)) (w : World) (hP : Prs w p E) (hn : E.length = n) :
    Calls Try.prog 14 #[.slice p n c] w fun e w' => e = .returned (bxV (bndF E)) ∧ Grew w w' := by
  subst hn
  have HP := Lib.hid hP
  cases hv : vPB E
  case false =>
    have Hv := Lib.hid hv
    have Hf : Hid (bndF E = ⟨0, 0, 0, 0⟩) := Lib.hid (by unfold bndF; rw [hv]; rfl)
    clear hP hv
    go_enter Try.func14, Try.ntmps14
    go_upto_region 2 with (go_at_call 10; apply Calls.mono; (with_reducible exact valid_re Hv.out (HP.out.grew (by (repeat (first | exact Grew.refl _ | refine Grew.over ?_ _ | refine Grew.alloc ?_ _ | refine Grew.drew ?_ | refine Grew.drewN ?_ _)))) rfl); rintro e w' ⟨rfl, x, rfl⟩)
    obtain ⟨wz, hwz⟩ : ∃ wz, over (w.alloc (.cells #[.int .i64 0, .int .i64 0, .int .i64 0, .int .i64 0] 27)) x = wz := ⟨_, rfl⟩
    have hB : BoxAt wz w.heap.size ⟨0, 0, 0, 0⟩ := by rw [← hwz]; exact (BoxAt.new w ⟨0, 0, 0, 0⟩ _ rfl).grew (by (repeat (first | exact Grew.refl _ | refine Grew.over ?_ _ | refine Grew.alloc ?_ _ | refine Grew.drew ?_ | refine Grew.drewN ?_ _)))
    have Hgz : Hid (Grew w wz) := Lib.hid (by rw [← hwz]; (repeat (first | exact Grew.refl _ | refine Grew.over ?_ _ | refine Grew.alloc ?_ _ | refine Grew.drew ?_ | refine Grew.drewN ?_ _)))
    have HB := Lib.hid (hB.set ⟨0, 0, 0, 0⟩)
    obtain ⟨c0, c1, c2, c3, f0, f1, f2, f3⟩ := hB.cells
    rw [hwz]
    clear hwz hB
    go_wp2
    have e : ((((wz.setCell ⟨w.heap.size, 0, none⟩ (.int .i64 0)).setCell ⟨w.heap.size, 1, none⟩ (.int .i64 0)).setCell ⟨w.heap.size, 2, none⟩ (.int .i64 0)).setCell ⟨w.heap.size, 3, none⟩ (.int .i64 0)) = bxSet wz w.heap.size ⟨0, 0, 0, 0⟩ := rfl
    rw [e]
    obtain ⟨wy, hwy⟩ : ∃ wy, bxSet wz w.heap.size ⟨0, 0, 0, 0⟩ = wy := ⟨_, rfl⟩
    have HG := Lib.hid (Hgz.out.bxSet (O := w.heap.size) (Nat.le_refl _) ⟨0, 0, 0, 0⟩)
    rw [hwy] at HB HG ⊢
    refine ret_box (b := ⟨0, 0, 0, 0⟩) rfl rfl HB.out rfl ?_
    exact ⟨by rw [Hf.out], HG.out⟩
  have Hv := Lib.hid hv
  have HV := Lib.hid (vPB_iff.1 hv)
  have hl1 := (vPB_iff.1 hv).l1
  have hl2 := (vPB_iff.1 hv).l2
  have Hf : Hid (bndF E = bndK E (E.length - 1)) := Lib.hid (by unfold bndF; rw [hv]; rfl)
  clear hP hv
  obtain ⟨b, o, rfl, hb, hc⟩ := HP.out.cells (by omega)
  obtain ⟨c1, c2⟩ := hc w (Grew.refl _) 0 (by omega)
  obtain ⟨ax, hax⟩ : ∃ x, (pr E 0).1 = x := ⟨_, rfl⟩
  obtain ⟨ay, hay⟩ : ∃ x, (pr E 0).2 = x := ⟨_, rfl⟩
  rw [hax] at c1
  rw [hay] at c2
  simp only [Nat.zero_mul, Nat.add_zero] at c1 c2
  have Hc := Lib.hid hc
  have H0 : Hid (bndK E 0 = ⟨ax, ay, ax, ay⟩) := Lib.hid (by rw [bndK, bxP, hax, hay])
  have hl0 : 0 < E.length := by omega
  clear hc hax hay
  go_enter Try.func14, Try.ntmps14
  go_upto_region 3 with (go_at_call 10; apply Calls.mono; (with_reducible exact valid_re Hv.out (HP.out.grew (by (repeat (first | exact Grew.refl _ | refine Grew.over ?_ _ | refine Grew.alloc ?_ _ | refine Grew.drew ?_ | refine Grew.drewN ?_ _)))) rfl); rintro e w' ⟨rfl, x, rfl⟩)
  obtain ⟨wz, hwz⟩ : ∃ wz, over (w.alloc (.cells #[.int .i64 0, .int .i64 0, .int .i64 0, .int .i64 0] 27)) x = wz := ⟨_, rfl⟩
  have hsz : w.heap.size + 1 ≤ wz.heap.size := by rw [← hwz]; simp
  have hgz : Grew w wz := by rw [← hwz]; (repeat (first | exact Grew.refl _ | refine Grew.over ?_ _ | refine Grew.alloc ?_ _ | refine Grew.drew ?_ | refine Grew.drewN ?_ _))
  have HB : Hid (BoxAt wz w.heap.size ⟨0, 0, 0, 0⟩) := Lib.hid (by rw [← hwz]; exact (BoxAt.new w ⟨0, 0, 0, 0⟩ _ rfl).grew (by (repeat (first | exact Grew.refl _ | refine Grew.over ?_ _ | refine Grew.alloc ?_ _ | refine Grew.drew ?_ | refine Grew.drewN ?_ _))))
  rw [hwz]
  clear hwz
  have c1 := hgz.cellEq c1
  have c2 := hgz.cellEq c2
  have Hgz := Lib.hid hgz
  clear hgz
  refine wp_region_T (s := 18) (S := fun w' => w'.cell? ⟨b, o, none⟩ = some (.int .i64 ax) ∧ w'.cell? ⟨b, o + 1, none⟩ = some (.int .i64 ay)) (by kernel_rfl) ⟨by simpa using c1, by simpa using c2⟩ (fun hH => ?_)
  refine wpAnyT_takeL (i := 0) (v := ?_) rfl (by kernel_rfl) (by kernel_rfl) (by kernel_rfl) (by kernel_rfl) (fun _ _ _ h => h) (Or.inl ⟨by rfl, ?_⟩) (by assumption) ?_
  rotate_left
  · (intro w hSw; (try dsimp only at hSw); go_simp; (try with_reducible rfl))
  (try simp only [Act.put, List.setIfInBounds_toArray, List.set_cons_zero, List.set_cons_succ])
  refine wpAnyT_takeL (i := 1) (v := ?_) rfl (by kernel_rfl) (by kernel_rfl) (by kernel_rfl) (by kernel_rfl) (fun _ _ _ h => h) (Or.inl ⟨by rfl, ?_⟩) (by assumption) ?_
  rotate_left
  · (intro w hSw; (try dsimp only at hSw); go_simp; (try with_reducible rfl))
  (try simp only [Act.put, List.setIfInBounds_toArray, List.set_cons_zero, List.set_cons_succ])
  refine wpAnyT_takeL (i := 2) (v := ?_) rfl (by kernel_rfl) (by kernel_rfl) (by kernel_rfl) (by kernel_rfl) (fun _ _ _ h => h) (Or.inl ⟨by rfl, ?_⟩) (by assumption) ?_
  rotate_left
  · (intro w hSw; (try dsimp only at hSw); go_simp; (try with_reducible rfl))
  (try simp only [Act.put, List.setIfInBounds_toArray, List.set_cons_zero, List.set_cons_succ])
  refine wpAnyT_takeL (i := 3) (v := ?_) rfl (by kernel_rfl) (by kernel_rfl) (by kernel_rfl) (by kernel_rfl) (fun _ _ _ h => h) (Or.inl ⟨by rfl, ?_⟩) (by assumption) ?_
  rotate_left
  · (intro w hSw; (try dsimp only at hSw); go_simp; (try with_reducible rfl))
  (try simp only [Act.put, List.setIfInBounds_toArray, List.set_cons_zero, List.set_cons_succ])
  refine wpAnyT_takeL (i := 4) (v := ?_) rfl (by kernel_rfl) (by kernel_rfl) (by kernel_rfl) (by kernel_rfl) (fun _ _ _ h => h) (Or.inl ⟨by rfl, ?_⟩) (by assumption) ?_
  rotate_left
  · (intro w hSw; (try dsimp only at hSw); go_simp; (try with_reducible rfl))
  (try simp only [Act.put, List.setIfInBounds_toArray, List.set_cons_zero, List.set_cons_succ])
  refine wpAnyT_takeL (i := 5) (v := ?_) rfl (by kernel_rfl) (by kernel_rfl) (by kernel_rfl) (by kernel_rfl) (fun _ _ _ h => h) (Or.inl ⟨by rfl, ?_⟩) (by assumption) ?_
  rotate_left
  · (intro w hSw; (try dsimp only at hSw); go_simp; (try with_reducible rfl))
  (try simp only [Act.put, List.setIfInBounds_toArray, List.set_cons_zero, List.set_cons_succ])
  refine wpAnyT_takeL (i := 6) (v := ?_) rfl (by kernel_rfl) (by kernel_rfl) (by kernel_rfl) (by kernel_rfl) (fun _ _ _ h => h) (Or.inl ⟨by rfl, ?_⟩) (by assumption) ?_
  rotate_left
  · (intro w hSw; (try dsimp only at hSw); go_simp; (try with_reducible rfl))
  (try simp only [Act.put, List.setIfInBounds_toArray, List.set_cons_zero, List.set_cons_succ])
  refine wpAnyT_takeL (i := 7) (v := ?_) rfl (by kernel_rfl) (by kernel_rfl) (by kernel_rfl) (by kernel_rfl) (fun _ _ _ h => h) (Or.inl ⟨by rfl, ?_⟩) (by assumption) ?_
  rotate_left
  · (intro w hSw; (try dsimp only at hSw); go_simp; (try with_reducible rfl))
  (try simp only [Act.put, List.setIfInBounds_toArray, List.set_cons_zero, List.set_cons_succ])
  refine wpAnyT_takeL (i := 8) (v := ?_) rfl (by kernel_rfl) (by kernel_rfl) (by kernel_rfl) (by kernel_rfl) (fun _ _ _ h => h) (Or.inl ⟨by rfl, ?_⟩) (by assumption) ?_
  rotate_left
  · (intro w hSw; (try dsimp only at hSw); go_simp; (try with_reducible rfl))
  (try simp only [Act.put, List.setIfInBounds_toArray, List.set_cons_zero, List.set_cons_succ])
  refine wpAnyT_takeL (i := 9) (v := ?_) rfl (by kernel_rfl) (by kernel_rfl) (by kernel_rfl) (by kernel_rfl) (fun _ _ _ h => h) (Or.inl ⟨by rfl, ?_⟩) (by assumption) ?_
  rotate_left
  · (intro w hSw; (try dsimp only at hSw); go_simp; (try with_reducible rfl))
  (try simp only [Act.put, List.setIfInBounds_toArray, List.set_cons_zero, List.set_cons_succ])
  refine wpAnyT_takeL (i := 10) (v := ?_) rfl (by kernel_rfl) (by kernel_rfl) (by kernel_rfl) (by kernel_rfl) (fun _ _ _ h => h) (Or.inl ⟨by rfl, ?_⟩) (by assumption) ?_
  rotate_left
  · (intro w hSw; (try dsimp only at hSw); go_simp; (try with_reducible rfl))
  (try simp only [Act.put, List.setIfInBounds_toArray, List.set_cons_zero, List.set_cons_succ])
  refine wpAnyT_takeL (i := 11) (v := ?_) rfl (by kernel_rfl) (by kernel_rfl) (by kernel_rfl) (by kernel_rfl) (fun _ _ _ h => h) (Or.inl ⟨by rfl, ?_⟩) (by assumption) ?_
  rotate_left
  · (intro w hSw; (try dsimp only at hSw); go_simp; (try with_reducible rfl))
  (try simp only [Act.put, List.setIfInBounds_toArray, List.set_cons_zero, List.set_cons_succ])
  refine wpAnyT_takeL (i := 12) (v := ?_) rfl (by kernel_rfl) (by kernel_rfl) (by kernel_rfl) (by kernel_rfl) (fun _ _ _ h => h) (Or.inl ⟨by rfl, ?_⟩) (by assumption) ?_
  rotate_left
  · (intro w hSw; (try dsimp only at hSw); go_simp; (try with_reducible rfl))
  (try simp only [Act.put, List.setIfInBounds_toArray, List.set_cons_zero, List.set_cons_succ])
  refine wpAnyT_takeL (i := 13) (v := ?_) rfl (by kernel_rfl) (by kernel_rfl) (by kernel_rfl) (by kernel_rfl) (fun _ _ _ h => h) (Or.inl ⟨by rfl, ?_⟩) (by assumption) ?_
  rotate_left
  · (intro w hSw; (try dsimp only at hSw); go_simp; (try with_reducible rfl))
  (try simp only [Act.put, List.setIfInBounds_toArray, List.set_cons_zero, List.set_cons_succ])
  refine wpAnyT_takeL (i := 14) (v := ?_) rfl (by kernel_rfl) (by kernel_rfl) (by kernel_rfl) (by kernel_rfl) (fun _ _ _ h => h) (Or.inl ⟨by rfl, ?_⟩) (by assumption) ?_
  rotate_left
  · (intro w hSw; (try dsimp only at hSw); go_simp; (try with_reducible rfl))
  (try simp only [Act.put, List.setIfInBounds_toArray, List.set_cons_zero, List.set_cons_succ])
  refine wpAnyT_takeL (i := 15) (v := ?_) rfl (by kernel_rfl) (by kernel_rfl) (by kernel_rfl) (by kernel_rfl) (fun _ _ _ h => h) (Or.inl ⟨by rfl, ?_⟩) (by assumption) ?_
  rotate_left
  · (intro w hSw; (try dsimp only at hSw); go_simp; (try with_reducible rfl))
  (try simp only [Act.put, List.setIfInBounds_toArray, List.set_cons_zero, List.set_cons_succ])
  refine wpAnyT_takeL (i := 16) (v := ?_) rfl (by kernel_rfl) (by kernel_rfl) (by kernel_rfl) (by kernel_rfl) (fun _ _ _ h => h) (Or.inl ⟨by rfl, ?_⟩) (by assumption) ?_
  rotate_left
  · (intro w hSw; (try dsimp only at hSw); go_simp; (try with_reducible rfl))
  (try simp only [Act.put, List.setIfInBounds_toArray, List.set_cons_zero, List.set_cons_succ])
  refine wpAnyT_all (rs := [17]) (by kernel_rfl) (by simp) (AllT.consL (i := 17) rfl (fun K hK => ?_) AllT.nil)
  go_simp
  refine hK.out _ _ ?_ (fun hH => ?_)
  · (first | (simp [go_sem, ↓IntWalk.iteOmega, *]; done) | go_keep)
  clear hK K
  (try simp only [Act.put, List.setIfInBounds_toArray, List.set_cons_zero, List.set_cons_succ])
  refine wpAnyT_all (rs := [18]) (by kernel_rfl) (by simp) (AllT.lastL rfl (fun K hK => ?_))
  go_simp
  refine hK.out _ _ ?_
  clear hK K
  (try simp only [Act.put, List.setIfInBounds_toArray, List.set_cons_zero, List.set_cons_succ])
  refine wpAnyT_done (by kernel_rfl) ?_ _
  obtain ⟨w1, hw1⟩ : ∃ w1, (wz.alloc (.cells #[.int .i64 ax, .int .i64 ay, .int .i64 ax, .int .i64 ay] 27)).drew = w1 := ⟨_, rfl⟩
  obtain ⟨O, hO⟩ : ∃ O, w.heap.size = O := ⟨_, rfl⟩
  obtain ⟨C, hC⟩ : ∃ C, wz.heap.size = C := ⟨_, rfl⟩
  have HO : Hid (w.heap.size ≤ O) := Lib.hid (by omega)
  have HC : Hid (w.heap.size ≤ C) := Lib.hid (by omega)
  have HOC : Hid (C ≠ O) := Lib.hid (by omega)
  have Hg1 : Hid (Grew w w1) := Lib.hid (by rw [← hw1]; exact Hgz.out.trans (by (repeat (first | exact Grew.refl _ | refine Grew.over ?_ _ | refine Grew.alloc ?_ _ | refine Grew.drew ?_ | refine Grew.drewN ?_ _))))
  have HB1 : Hid (BoxAt w1 O ⟨0, 0, 0, 0⟩) := Lib.hid (by rw [← hw1, ← hO]; exact HB.out.grew (by (repeat (first | exact Grew.refl _ | refine Grew.over ?_ _ | refine Grew.alloc ?_ _ | refine Grew.drew ?_ | refine Grew.drewN ?_ _))))
  have HC1 : Hid (BoxAt w1 C (bndK E 0)) := Lib.hid (by rw [← hw1, H0.out]; exact (BoxAt.new wz ⟨ax, ay, ax, ay⟩ C hC.symm).drew)
  rw [hw1, hC]
  try rw [hO]
  clear hw1 hC HB Hgz hsz c1 c2
  go_wp2
  go_loopw [4] (fun i wr => ∃ k : Nat, k + 1 ≤ E.length ∧ i = .int .i64 ((k + 1 : Nat) : Int) ∧ Grew w wr ∧ BoxAt wr O ⟨0, 0, 0, 0⟩ ∧ BoxAt wr C (bndK E k)) (fun i _ => E.length - (intOf i).toNat)
  case atStart => exact ⟨0, by omega, rfl, Hg1.out, HB1.out, HC1.out⟩
  case round =>
    clear Hg1 HB1 HC1
    obtain ⟨k, hk, rfl, hg, hB, hC⟩ := hrel
    have Hg := Lib.hid hg
    have HB := Lib.hid hB
    have HD := Lib.hid hC
    obtain ⟨D, hD⟩ : ∃ D, bndK E k = D := ⟨_, rfl⟩
    obtain ⟨x0, y0, x1, y1⟩ := D
    rw [hD] at hC
    obtain ⟨k0, k1', k2, k3, f0, f1, f2, f3⟩ := hC.cells
    have hClt := hC.lt
    dsimp only at k0 k1' k2 k3
    clear hg hB hC
    obtain ⟨k1, hk1⟩ : ∃ k1, k + 1 = k1 := ⟨_, rfl⟩
    by_cases hlt : k + 1 < E.length
    · obtain ⟨d1, d2⟩ := Hc.out wr Hg.out (k + 1) (by omega)
      obtain ⟨bx, hbx⟩ : ∃ x, (pr E (k + 1)).1 = x := ⟨_, rfl⟩
      obtain ⟨bZ, hbZ⟩ : ∃ x, (pr E (k + 1)).2 = x := ⟨_, rfl⟩
      have HS : Hid (bndK E (k + 1) = ⟨min x0 bx, min y0 bZ, max x1 bx, max y1 bZ⟩) := Lib.hid (by rw [bndK, hD, bxAdd, hbx, hbZ])
      rw [hbx] at d1
      rw [hbZ] at d2
      have hlt1 : k1 < E.length := by omega
      rw [hk1] at d1 d2 ⊢
      have Hk1 := Lib.hid hk1
      have hsz := Hg.out.below.size
      have hk512 : k1 ≤ 512 := by omega
      clear hbx hbZ hk1 hlt hk hD
      go_upto_region 7 with fail
      refine wp_region_T (s := 33) (S := fun w' => (w'.cell? ⟨b, o + k1 * 2, none⟩ = some (.int .i64 bx) ∧ w'.cell? ⟨b, o + k1 * 2 + 1, none⟩ = some (.int .i64 bZ)) ∧
        w'.cell? ⟨C, 0, none⟩ = some (.int .i64 x0) ∧ w'.cell? ⟨C, 1, none⟩ = some (.int .i64 y0) ∧ w'.cell? ⟨C, 2, none⟩ = some (.int .i64 x1) ∧ w'.cell? ⟨C, 3, none⟩ = some (.int .i64 y1)) (by kernel_rfl)
        ⟨⟨by simpa using d1, by simpa using d2⟩, by simpa using k0, by simpa using k1', by simpa using k2, by simpa using k3⟩ (fun hH => ?_)
      refine wpAnyT_takeL (i := 0) (v := ?_) rfl (by kernel_rfl) (by kernel_rfl) (by kernel_rfl) (by kernel_rfl) (fun _ _ _ h => h) (Or.inl ⟨by rfl, ?_⟩) (by assumption) ?_
      rotate_left
      · (intro w hSw; (try dsimp only at hSw); go_simp; (try with_reducible rfl))
      (try simp only [Act.put, List.setIfInBounds_toArray, List.set_cons_zero, List.set_cons_succ])
      refine wpAnyT_takeL (i := 1) (v := ?_) rfl (by kernel_rfl) (by kernel_rfl) (by kernel_rfl) (by kernel_rfl) (fun _ _ _ h => h) (Or.inl ⟨by rfl, ?_⟩) (by assumption) ?_
      rotate_left
      · (intro w hSw; (try dsimp only at hSw); go_simp; (try with_reducible rfl))
      (try simp only [Act.put, List.setIfInBounds_toArray, List.set_cons_zero, List.set_cons_succ])
      refine wpAnyT_takeL (i := 2) (v := ?_) rfl (by kernel_rfl) (by kernel_rfl) (by kernel_rfl) (by kernel_rfl) (fun _ _ _ h => h) (Or.inl ⟨by rfl, ?_⟩) (by assumption) ?_
      rotate_left
      · (intro w hSw; (try dsimp only at hSw); go_simp; (try with_reducible rfl))
      (try simp only [Act.put, List.setIfInBounds_toArray, List.set_cons_zero, List.set_cons_succ])
      refine wpAnyT_takeL (i := 3) (v := ?_) rfl (by kernel_rfl) (by kernel_rfl) (by kernel_rfl) (by kernel_rfl) (fun _ _ _ h => h) (Or.inl ⟨by rfl, ?_⟩) (by assumption) ?_
      rotate_left
      · (intro w hSw; (try dsimp only at hSw); go_simp; (try with_reducible rfl))
      (try simp only [Act.put, List.setIfInBounds_toArray, List.set_cons_zero, List.set_cons_succ])
      refine wpAnyT_takeL (i := 4) (v := ?_) rfl (by kernel_rfl) (by kernel_rfl) (by kernel_rfl) (by kernel_rfl) (fun _ _ _ h => h) (Or.inl ⟨by rfl, ?_⟩) (by assumption) ?_
      rotate_left
      · (intro w hSw; (try dsimp only at hSw); go_simp; (try with_reducible rfl))
      (try simp only [Act.put, List.setIfInBounds_toArray, List.set_cons_zero, List.set_cons_succ])
      refine wpAnyT_takeL (i := 5) (v := ?_) rfl (by kernel_rfl) (by kernel_rfl) (by kernel_rfl) (by kernel_rfl) (fun _ _ _ h => h) (Or.inl ⟨by rfl, ?_⟩) (by assumption) ?_
      rotate_left
      · (intro w hSw; (try dsimp only at hSw); go_simp; (try with_reducible rfl))
      (try simp only [Act.put, List.setIfInBounds_toArray, List.set_cons_zero, List.set_cons_succ])
      refine wpAnyT_takeL (i := 6) (v := ?_) rfl (by kernel_rfl) (by kernel_rfl) (by kernel_rfl) (by kernel_rfl) (fun _ _ _ h => h) (Or.inl ⟨by rfl, ?_⟩) (by assumption) ?_
      rotate_left
      · (intro w hSw; (try dsimp only at hSw); go_simp; (try with_reducible rfl))
      (try simp only [Act.put, List.setIfInBounds_toArray, List.set_cons_zero, List.set_cons_succ])
      refine wpAnyT_takeL (i := 7) (v := ?_) rfl (by kernel_rfl) (by kernel_rfl) (by kernel_rfl) (by kernel_rfl) (fun _ _ _ h => h) (Or.inl ⟨by rfl, ?_⟩) (by assumption) ?_
      rotate_left
      · (intro w hSw; (try dsimp only at hSw); go_simp; (try with_reducible rfl))
      (try simp only [Act.put, List.setIfInBounds_toArray, List.set_cons_zero, List.set_cons_succ])
      refine wpAnyT_takeL (i := 8) (v := ?_) rfl (by kernel_rfl) (by kernel_rfl) (by kernel_rfl) (by kernel_rfl) (fun _ _ _ h => h) (Or.inl ⟨by rfl, ?_⟩) (by assumption) ?_
      rotate_left
      · (intro w hSw; (try dsimp only at hSw); go_simp; (try with_reducible rfl))
      (try simp only [Act.put, List.setIfInBounds_toArray, List.set_cons_zero, List.set_cons_succ])
      refine wpAnyT_takeL (i := 9) (v := ?_) rfl (by kernel_rfl) (by kernel_rfl) (by kernel_rfl) (by kernel_rfl) (fun _ _ _ h => h) (Or.inl ⟨by rfl, ?_⟩) (by assumption) ?_
      rotate_left
      · (intro w hSw; (try dsimp only at hSw); go_simp; (try with_reducible rfl))
      (try simp only [Act.put, List.setIfInBounds_toArray, List.set_cons_zero, List.set_cons_succ])
      refine wpAnyT_takeL (i := 10) (v := ?_) rfl (by kernel_rfl) (by kernel_rfl) (by kernel_rfl) (by kernel_rfl) (fun _ _ _ h => h) (Or.inl ⟨by rfl, ?_⟩) (by assumption) ?_
      rotate_left
      · (intro w hSw; (try dsimp only at hSw); go_simp; (try with_reducible rfl))
      (try simp only [Act.put, List.setIfInBounds_toArray, List.set_cons_zero, List.set_cons_succ])
      refine wpAnyT_takeL (i := 11) (v := ?_) rfl (by kernel_rfl) (by kernel_rfl) (by kernel_rfl) (by kernel_rfl) (fun _ _ _ h => h) (Or.inl ⟨by rfl, ?_⟩) (by assumption) ?_
      rotate_left
      · (intro w hSw; (try dsimp only at hSw); go_simp; (try with_reducible rfl))
      (try simp only [Act.put, List.setIfInBounds_toArray, List.set_cons_zero, List.set_cons_succ])
      refine wpAnyT_takeL (i := 12) (v := ?_) rfl (by kernel_rfl) (by kernel_rfl) (by kernel_rfl) (by kernel_rfl) (fun _ _ _ h => h) (Or.inl ⟨by rfl, ?_⟩) (by assumption) ?_
      rotate_left
      · (intro w hSw; (try dsimp only at hSw); go_simp; (try with_reducible rfl))
      (try simp only [Act.put, List.setIfInBounds_toArray, List.set_cons_zero, List.set_cons_succ])
      refine wpAnyT_takeL (i := 13) (v := ?_) rfl (by kernel_rfl) (by kernel_rfl) (by kernel_rfl) (by kernel_rfl) (fun _ _ _ h => h) (Or.inl ⟨by rfl, ?_⟩) (by assumption) ?_
      rotate_left
      · (intro w hSw; (try dsimp only at hSw); go_simp; (try with_reducible rfl))
      (try simp only [Act.put, List.setIfInBounds_toArray, List.set_cons_zero, List.set_cons_succ])
      refine wpAnyT_takeL (i := 14) (v := ?_) rfl (by kernel_rfl) (by kernel_rfl) (by kernel_rfl) (by kernel_rfl) (fun _ _ _ h => h) (Or.inl ⟨by rfl, ?_⟩) (by assumption) ?_
      rotate_left
      · (intro w hSw; (try dsimp only at hSw); go_simp; (try with_reducible rfl))
      (try simp only [Act.put, List.setIfInBounds_toArray, List.set_cons_zero, List.set_cons_succ])
      refine wpAnyT_takeL (i := 15) (v := ?_) rfl (by kernel_rfl) (by kernel_rfl) (by kernel_rfl) (by kernel_rfl) (fun _ _ _ h => h) (Or.inl ⟨by rfl, ?_⟩) (by assumption) ?_
      rotate_left
      · (intro w hSw; (try dsimp only at hSw); go_simp; (try with_reducible rfl))
      (try simp only [Act.put, List.setIfInBounds_toArray, List.set_cons_zero, List.set_cons_succ])
      refine wpAnyT_takeL (i := 16) (v := ?_) rfl (by kernel_rfl) (by kernel_rfl) (by kernel_rfl) (by kernel_rfl) (fun _ _ _ h => h) (Or.inl ⟨by rfl, ?_⟩) (by assumption) ?_
      rotate_left
      · (intro w hSw; (try dsimp only at hSw); go_simp; (try with_reducible rfl))
      (try simp only [Act.put, List.setIfInBounds_toArray, List.set_cons_zero, List.set_cons_succ])
      refine wpAnyT_takeL (i := 17) (v := ?_) rfl (by kernel_rfl) (by kernel_rfl) (by kernel_rfl) (by kernel_rfl) (fun _ _ _ h => h) (Or.inl ⟨by rfl, ?_⟩) (by assumption) ?_
      rotate_left
      · (intro w hSw; (try dsimp only at hSw); go_simp; (try with_reducible rfl))
      (try simp only [Act.put, List.setIfInBounds_toArray, List.set_cons_zero, List.set_cons_succ])
      refine wpAnyT_takeL (i := 18) (v := ?_) rfl (by kernel_rfl) (by kernel_rfl) (by kernel_rfl) (by kernel_rfl) (fun _ _ _ h => h) (Or.inl ⟨by rfl, ?_⟩) (by assumption) ?_
      rotate_left
      · (intro w hSw; (try dsimp only at hSw); go_simp; (try with_reducible rfl))
      (try simp only [Act.put, List.setIfInBounds_toArray, List.set_cons_zero, List.set_cons_succ])
      refine wpAnyT_takeL (i := 19) (v := ?_) rfl (by kernel_rfl) (by kernel_rfl) (by kernel_rfl) (by kernel_rfl) (fun _ _ _ h => h) (Or.inl ⟨by rfl, ?_⟩) (by assumption) ?_
      rotate_left
      · (intro w hSw; (try dsimp only at hSw); go_simp; (try with_reducible rfl))
      (try simp only [Act.put, List.setIfInBounds_toArray, List.set_cons_zero, List.set_cons_succ])
      refine wpAnyT_takeL (i := 20) (v := ?_) rfl (by kernel_rfl) (by kernel_rfl) (by kernel_rfl) (by kernel_rfl) (fun _ _ _ h => h) (Or.inl ⟨by rfl, ?_⟩) (by assumption) ?_
      rotate_left
      · (intro w hSw; (try dsimp only at hSw); go_simp; (try with_reducible rfl))
      (try simp only [Act.put, List.setIfInBounds_toArray, List.set_cons_zero, List.set_cons_succ])
      refine wpAnyT_takeL (i := 21) (v := ?_) rfl (by kernel_rfl) (by kernel_rfl) (by kernel_rfl) (by kernel_rfl) (fun _ _ _ h => h) (Or.inl ⟨by rfl, ?_⟩) (by assumption) ?_
      rotate_left
      · (intro w hSw; (try dsimp only at hSw); go_simp; (try with_reducible rfl))
      (try simp only [Act.put, List.setIfInBounds_toArray, List.set_cons_zero, List.set_cons_succ])
      refine wpAnyT_takeL (i := 22) (v := ?_) rfl (by kernel_rfl) (by kernel_rfl) (by kernel_rfl) (by kernel_rfl) (fun _ _ _ h => h) (Or.inl ⟨by rfl, ?_⟩) (by assumption) ?_
      rotate_left
      · (intro w hSw; (try dsimp only at hSw); go_simp; (try with_reducible rfl))
      (try simp only [Act.put, List.setIfInBounds_toArray, List.set_cons_zero, List.set_cons_succ])
      refine wpAnyT_takeL (i := 23) (v := ?_) rfl (by kernel_rfl) (by kernel_rfl) (by kernel_rfl) (by kernel_rfl) (fun _ _ _ h => h) (Or.inl ⟨by rfl, ?_⟩) (by assumption) ?_
      rotate_left
      · (intro w hSw; (try dsimp only at hSw); go_simp; (try with_reducible rfl))
      (try simp only [Act.put, List.setIfInBounds_toArray, List.set_cons_zero, List.set_cons_succ])
      refine wpAnyT_takeL (i := 24) (v := ?_) rfl (by kernel_rfl) (by kernel_rfl) (by kernel_rfl) (by kernel_rfl) (fun _ _ _ h => h) (Or.inl ⟨by rfl, ?_⟩) (by assumption) ?_
      rotate_left
      · (intro w hSw; (try dsimp only at hSw); go_simp; (try with_reducible rfl))
      (try simp only [Act.put, List.setIfInBounds_toArray, List.set_cons_zero, List.set_cons_succ])
      refine wpAnyT_takeL (i := 25) (v := ?_) rfl (by kernel_rfl) (by kernel_rfl) (by kernel_rfl) (by kernel_rfl) (fun _ _ _ h => h) (Or.inl ⟨by rfl, ?_⟩) (by assumption) ?_
      rotate_left
      · (intro w hSw; (try dsimp only at hSw); go_simp; (try with_reducible rfl))
      (try simp only [Act.put, List.setIfInBounds_toArray, List.set_cons_zero, List.set_cons_succ])
      refine wpAnyT_takeL (i := 26) (v := ?_) rfl (by kernel_rfl) (by kernel_rfl) (by kernel_rfl) (by kernel_rfl) (fun _ _ _ h => h) (Or.inl ⟨by rfl, ?_⟩) (by assumption) ?_
      rotate_left
      · (intro w hSw; (try dsimp only at hSw); go_simp; (try with_reducible rfl))
      (try simp only [Act.put, List.setIfInBounds_toArray, List.set_cons_zero, List.set_cons_succ])
      refine wpAnyT_takeL (i := 27) (v := ?_) rfl (by kernel_rfl) (by kernel_rfl) (by kernel_rfl) (by kernel_rfl) (fun _ _ _ h => h) (Or.inl ⟨by rfl, ?_⟩) (by assumption) ?_
      rotate_left
      · (intro w hSw; (try dsimp only at hSw); go_simp; (try with_reducible rfl))
      (try simp only [Act.put, List.setIfInBounds_toArray, List.set_cons_zero, List.set_cons_succ])
      refine wpAnyT_takeL (i := 28) (v := ?_) rfl (by kernel_rfl) (by kernel_rfl) (by kernel_rfl) (by kernel_rfl) (fun _ _ _ h => h) (Or.inl ⟨by rfl, ?_⟩) (by assumption) ?_
      rotate_left
      · (intro w hSw; (try dsimp only at hSw); go_simp; (try with_reducible rfl))
      (try simp only [Act.put, List.setIfInBounds_toArray, List.set_cons_zero, List.set_cons_succ])
      refine wpAnyT_takeL (i := 29) (v := ?_) rfl (by kernel_rfl) (by kernel_rfl) (by kernel_rfl) (by kernel_rfl) (fun _ _ _ h => h) (Or.inl ⟨by rfl, ?_⟩) (by assumption) ?_
      rotate_left
      · (intro w hSw; (try dsimp only at hSw); go_simp; (try with_reducible rfl))
      (try simp only [Act.put, List.setIfInBounds_toArray, List.set_cons_zero, List.set_cons_succ])
      refine wpAnyT_takeL (i := 30) (v := ?_) rfl (by kernel_rfl) (by kernel_rfl) (by kernel_rfl) (by kernel_rfl) (fun _ _ _ h => h) (Or.inl ⟨by rfl, ?_⟩) (by assumption) ?_
      rotate_left
      · (intro w hSw; (try dsimp only at hSw); go_simp; (try with_reducible rfl))
      (try simp only [Act.put, List.setIfInBounds_toArray, List.set_cons_zero, List.set_cons_succ])
      refine wpAnyT_takeL (i := 31) (v := ?_) rfl (by kernel_rfl) (by kernel_rfl) (by kernel_rfl) (by kernel_rfl) (fun _ _ _ h => h) (Or.inl ⟨by rfl, ?_⟩) (by assumption) ?_
      rotate_left
      · (intro w hSw; (try dsimp only at hSw); go_simp; (try with_reducible rfl))
      (try simp only [Act.put, List.setIfInBounds_toArray, List.set_cons_zero, List.set_cons_succ])
      refine wpAnyT_takeL (i := 32) (v := ?_) rfl (by kernel_rfl) (by kernel_rfl) (by kernel_rfl) (by kernel_rfl) (fun _ _ _ h => h) (Or.inl ⟨by rfl, ?_⟩) (by assumption) ?_
      rotate_left
      · (intro w hSw; (try dsimp only at hSw); go_simp; (try with_reducible rfl))
      (try simp only [Act.put, List.setIfInBounds_toArray, List.set_cons_zero, List.set_cons_succ])
      refine wpAnyT_all (rs := [33]) (by kernel_rfl) (by simp) (AllT.lastL rfl (fun K hK => ?_))
      go_simp
      refine hK.out _ _ ?_
      clear hK K
      (try simp only [Act.put, List.setIfInBounds_toArray, List.set_cons_zero, List.set_cons_succ])
      refine wpAnyT_done (by kernel_rfl) ?_ _
      simp only [min_if, max_if]
      have e : ((((wr.setCell ⟨C, 0, none⟩ (.int .i64 (min x0 bx))).setCell ⟨C, 1, none⟩ (.int .i64 (min y0 bZ))).setCell ⟨C, 2, none⟩ (.int .i64 (max x1 bx))).setCell ⟨C, 3, none⟩ (.int .i64 (max y1 bZ))) = bxSet wr C ⟨min x0 bx, min y0 bZ, max x1 bx, max y1 bZ⟩ := rfl
      rw [e]
      have HGy := Lib.hid (Hg.out.bxSet HC.out ⟨min x0 bx, min y0 bZ, max x1 bx, max y1 bZ⟩).drew
      have HBy := Lib.hid (HB.out.other ⟨min x0 bx, min y0 bZ, max x1 bx, max y1 bZ⟩ HOC.out).drew
      have HDy := Lib.hid (HD.out.set ⟨min x0 bx, min y0 bZ, max x1 bx, max y1 bZ⟩).drew
      obtain ⟨wy, hwy⟩ : ∃ wy, (bxSet wr C ⟨min x0 bx, min y0 bZ, max x1 bx, max y1 bZ⟩).drew = wy := ⟨_, rfl⟩
      rw [hwy] at HGy HBy HDy ⊢
      rw [← HS.out] at HDy
      clear hwy k0 k1' k2 k3 f0 f1 f2 f3 hH e d1 d2
      go_wp2
      go_roundw
      case rel => exact ⟨k + 1, by have := Hk1.out; omega, by have := Hk1.out; first | rfl | (congr 1; omega), HGy.out, HBy.out, HDy.out⟩
      case measure => have := Hk1.out; simp [intOf]; omega
    · have hke : k = E.length - 1 := by omega
      have hlt1 : ¬ k1 < E.length := by omega
      have HF : Hid (bndF E = ⟨x0, y0, x1, y1⟩) := Lib.hid (by rw [Hf.out, ← hke, hD])
      obtain ⟨_, _, _, _, g0, g1, g2, g3⟩ := HB.out.cells
      have HB2 := Lib.hid (HB.out.set ⟨x0, y0, x1, y1⟩)
      have HG2 := Lib.hid (Hg.out.bxSet HO.out ⟨x0, y0, x1, y1⟩)
      rw [hk1]
      clear hk hk1 hlt hke hD
      go_wp2
      have e : ((((wr.setCell ⟨O, 0, none⟩ (.int .i64 x0)).setCell ⟨O, 1, none⟩ (.int .i64 y0)).setCell ⟨O, 2, none⟩ (.int .i64 x1)).setCell ⟨O, 3, none⟩ (.int .i64 y1)) = bxSet wr O ⟨x0, y0, x1, y1⟩ := rfl
      rw [e]
      obtain ⟨wy, hwy⟩ : ∃ wy, bxSet wr O ⟨x0, y0, x1, y1⟩ = wy := ⟨_, rfl⟩
      rw [hwy] at HB2 HG2 ⊢
      refine ret_box (b := ⟨x0, y0, x1, y1⟩) rfl rfl HB2.out rfl ?_
      exact ⟨by rw [HF.out], HG2.out⟩
theorem bounds_re {p : Option Addr} {n c : Nat} {E : List (Int × Int)} {w : World} {b : Bx} (h : bndF E = b) (hP : Prs w p E) (hn : E.length = n) :
    Calls Try.prog 14 #[.slice p n c] w fun e w' => e = .returned (bxV b) ∧ Grew w w' := h ▸ bounds_r p n c E w hP hn
end Go.Proofs.Ytmljfjcebfonaaa
