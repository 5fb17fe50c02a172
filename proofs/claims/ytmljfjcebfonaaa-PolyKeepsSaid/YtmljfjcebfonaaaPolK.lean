/- Length of the program. -/
import Derived.Test.YtmljfjcebfonaaaPolJ
import Derived.Test.YtmljfjcebfonaaaPolF
set_option linter.unusedSimpArgs false
set_option linter.unusedVariables false
namespace Go.Proofs.Ytmljfjcebfonaaa
open Go.RowKit Go.Shelf
attribute [local go_sem] Oper.semAt_some

theorem kpS_b {n₀ Bs : Nat} {w : World} (hn : n₀ ≤ w.heap.size) (hB : Bs < w.heap.size) : ∀ (W : World) (l : Nat) (o o' : Obj), w.heap.size ≤ l → W.heap[l]? = some o → o.isCells = false → o.isWalk = false → KpS n₀ Bs W (W.putObj l o') := fun W l o o' hl ho hc hw => by
  refine ⟨belowK_b hn W l o o' hl ho hc hw, fun v hv => ?_⟩
  have h := (belowK_b (n₀ := Bs + 1) (w := w) (by omega) W l o o' hl ho hc hw).cell (p := ⟨Bs, 0, none⟩) (Nat.lt_succ_self _)
  exact h.trans hv

theorem lenK_fold (E : List (Int × Int)) (k : Nat) : lenK E k = ((sgK E k).map fun x => dist x.1 x.2).sum := by
  induction k with
  | zero => rfl
  | succ k ih => rw [lenK, sgK_succ, List.map_append, List.sum_append, ih]; simp

theorem kpS_of {n₀ Bs : Nat} {W W' : World} {t : TypeId} {u : Value} (h : Below n₀ W W') (b : Boxed W Bs t u) (b' : Boxed W' Bs t u) : KpS n₀ Bs W W' := ⟨h, fun v hv => by rw [b'.cell]; rw [b.cell] at hv; exact hv⟩
theorem keeps_grew {W W' : World} (h : Grew W W') : KeepsOthers W W' := ⟨h.below.size, fun k o hk _ => (h.below.block k (Array.getElem?_eq_some_iff.1 hk).1).trans hk⟩
theorem boxed_grew {W W' : World} {B : Nat} {t : TypeId} {v : Value} (h : Boxed W B t v) (hg : Grew W W') : Boxed W' B t v := (hg.below.block B h.lt).trans h
/-- The end of a round that adds to the sum: whatever else has come. -/
theorem body_end {W w1 wf : World} {S B : Nat} {t : TypeId} {u : Value} {v v' : Int} {u0 : Value} (hg : Grew (W.setCell ⟨S, 0, none⟩ (.int .i64 v)).drew wf) (he : v' = v) (hB : Below S w1 W) (hS : S ≤ W.heap.size) (b1 : Boxed W S 3 u0) (b2 : Boxed W (S + 1) t u) :
    KeepsFrom B W wf ∧ KpS S (S + 1) W wf ∧ ((Boxed wf S 3 (.int .i64 v') ∧ Boxed wf (S + 1) t u) ∧ Below S w1 wf) := by
  subst he
  have h1 : Below S W wf := (((Below.refl S W).setCell (p := ⟨S, 0, none⟩) (Nat.le_refl _) (.int .i64 v')).drew).trans (hg.below.mono (by simp; exact hS))
  have h2 : Boxed wf S 3 (.int .i64 v') := boxed_grew (show Boxed (W.setCell ⟨S, 0, none⟩ (.int .i64 v')).drew S 3 (.int .i64 v') from b1.set _) hg
  have h3 : Boxed wf (S + 1) t u := boxed_grew (show Boxed (W.setCell ⟨S, 0, none⟩ (.int .i64 v')).drew (S + 1) t u from b2.other (by omega) _) hg
  have k0 : KeepsOthers W (W.setCell ⟨S, 0, none⟩ (.int .i64 v')) := KeepsOthers.setCell _ _ _
  have k1 : KeepsOthers W (W.setCell ⟨S, 0, none⟩ (.int .i64 v')).drew := ⟨k0.size, k0.same⟩
  exact ⟨(k1.trans (keeps_grew hg)).from _, kpS_of h1 b2 h3, ⟨h2, h3⟩, hB.trans h1⟩
abbrev sgW (x : Sg) : Value := .agg #[.int .i64 x.1.1, .int .i64 x.1.2, .int .i64 x.2.1, .int .i64 x.2.2]
/-- A segment in a block of its own. -/
def BoxedS (W : World) (B : Nat) (x : Sg) : Prop := W.heap[B]? = some (.cells #[.int .i64 x.1.1, .int .i64 x.1.2, .int .i64 x.2.1, .int .i64 x.2.2] 39 (0, 0))
theorem BoxedS.lt {W : World} {B : Nat} {x : Sg} (h : BoxedS W B x) : B < W.heap.size := lt_of_block h
theorem BoxedS.kept {W W' : World} {row : Option Nat} {B : Nat} {x : Sg} (h : BoxedS W B x) (hg : W.grownBy W' row) (hne : some B ≠ row) : BoxedS W' B x := (hg.block B h.lt hne).trans h
theorem BoxedS.new (W : World) (x : Sg) : BoxedS (W.alloc (.cells #[.int .i64 x.1.1, .int .i64 x.1.2, .int .i64 x.2.1, .int .i64 x.2.2] 39)) W.heap.size x := World.alloc_heap_new W _
theorem boxedS_own {β : Type} (B : Nat) (x : Sg) : Own (fun (_ : β) W => BoxedS W B x) := fun s X Y row hs hg hrow =>
  hs.kept hg (fun e' => by obtain ⟨o, ho, hc⟩ := hrow B e'.symm; rw [show X.heap[B]? = _ from hs] at ho; cases ho; cases hc)
theorem BoxedS.cells {w : World} {O : Nat} {x : Sg} (h : BoxedS w O x) :
    w.cell? ⟨O, 0, none⟩ = some (.int .i64 x.1.1) ∧ w.cell? ⟨O, 1, none⟩ = some (.int .i64 x.1.2) ∧ w.cell? ⟨O, 2, none⟩ = some (.int .i64 x.2.1) ∧ w.cell? ⟨O, 3, none⟩ = some (.int .i64 x.2.2) :=
  ⟨cell_of_row w O 0 _ _ (0, 0) h, cell_of_row w O 1 _ _ (0, 0) h, cell_of_row w O 2 _ _ (0, 0) h, cell_of_row w O 3 _ _ (0, 0) h⟩
def sgS (pre : List Sg) : Int := (pre.map fun x => dist x.1 x.2).sum
theorem sgS_snoc (pre : List Sg) (x : Sg) : sgS (pre ++ [x]) = sgS pre + dist x.1 x.2 := by simp [sgS]
theorem dist_bd (p q : Int × Int) : 0 ≤ dist p q ∧ dist p q ≤ 2000000000 := by
  unfold dist dst
  split
  · rename_i h
    obtain ⟨h1, h2⟩ := and_vld h
    rw [vld_iff] at h1 h2
    omega
  · omega
theorem sgS_bd : ∀ pre : List Sg, 0 ≤ sgS pre ∧ sgS pre ≤ pre.length * 2000000000
  | [] => by simp [sgS]
  | x :: pre => by
    have h1 := sgS_bd pre
    have h2 := dist_bd x.1 x.2
    have e : sgS (x :: pre) = dist x.1 x.2 + sgS pre := by simp [sgS]
    rw [e, List.length_cons]
    push_cast
    omega

set_option maxRecDepth 100000 in
set_option maxHeartbeats 4000000 in
theorem length_l (p : Option Addr) (n c : Nat) (E : List (Int × Int)) (w : World) (hP : Prs w p E) (hn : E.length = n) :
    Calls Try.prog 11 #[.slice p n c] w fun e w' => e = .returned (.int .i64 (lenF E)) ∧ Grew w w' := by
  subst hn
  have HP := Lib.hid hP
  cases hv : vPB E
  case false =>
    have Hv := Lib.hid hv
    have Hf : Hid (lenF E = 0) := Lib.hid (by unfold lenF; rw [hv]; rfl)
    clear hP hv
    go_enter Try.func11, Try.ntmps11
    go_wp2_with (go_at_call 9; apply Calls.mono; (with_reducible exact valid_pe Hv.out HP.out rfl); rintro e w' ⟨rfl, x, rfl⟩)
    go_ret
    exact ⟨by rw [Hf.out]; rfl, by (repeat (first | exact Grew.refl _ | refine Grew.over ?_ _ | refine Grew.alloc ?_ _ | refine Grew.drew ?_ | refine Grew.drewN ?_ _))⟩
  have Hv := Lib.hid hv
  have hV := vPB_iff.1 hv
  have Hf : Hid (lenF E = lenK E (E.length - 1)) := Lib.hid (by unfold lenF; rw [hv]; rfl)
  clear hP hv
  refine (callsIn_wide (n := 10)).1 ?_
  refine callsIn_of_wp_marks Try.func11 rfl trivial ?_ rfl
  simp only [Try.ntmps11, List.size_toArray, List.length_cons, List.length_nil, Nat.reduceAdd, Nat.reduceSub, Array.replicate_succ, Array.replicate_zero, List.push_toArray, List.append_toArray, List.nil_append, List.cons_append]
  gi_wp2_with (first
    | (refine ⟨trivial, ?_⟩; gi_at_call 9; refine (callsIn_wide.2 (valid_pe Hv.out HP.out rfl)).mono ?_; rintro e w1 ⟨rfl, hg1⟩; have Hg1 := Lib.hid hg1; clear hg1)
    | (gi_at_call 9; refine (callsIn_wide.2 (valid_pe Hv.out HP.out rfl)).mono ?_; rintro e w1 ⟨rfl, hg1⟩; have Hg1 := Lib.hid hg1; clear hg1)
    | (refine ⟨trivial, ?_⟩; gi_at_call 29; refine (segs_in Fence.wide _ trivial rfl _ _ _).mono ?_; rintro e w' ⟨rfl, rfl⟩)
    | (gi_at_call 29; refine (segs_in Fence.wide _ trivial rfl _ _ _).mono ?_; rintro e w' ⟨rfl, rfl⟩))
  refine ⟨trivial, ?_⟩
  refine (segs_in Fence.wide _ trivial rfl p E.length c _).mono ?_
  rintro e w' ⟨rfl, rfl⟩
  gi_wp2
  have bS := (Boxed.new w1 3 (.int .i64 0)).alloc (.cells #[.slice p E.length c] 22)
  have bA := Boxed.new (w1.alloc (.cells #[.int .i64 0] 3)) 22 (.slice p E.length c)
  simp only [World.size_alloc] at bA
  have hB0 : Below w1.heap.size w1 ((w1.alloc (.cells #[.int .i64 0] 3)).alloc (.cells #[.slice p E.length c] 22)) := ((Below.refl _ w1).alloc (Nat.le_refl _) _).alloc (by simp) _
  have hsz : ((w1.alloc (.cells #[.int .i64 0] 3)).alloc (.cells #[.slice p E.length c] 22)).heap.size = w1.heap.size + 2 := by simp
  have hs1 := Hg1.out.below.size
  obtain ⟨W0, hW0⟩ : ∃ W0, (w1.alloc (.cells #[.int .i64 0] 3)).alloc (.cells #[.slice p E.length c] 22) = W0 := ⟨_, rfl⟩
  rw [hW0] at bS bA hB0 hsz ⊢
  clear hW0
  refine wpIn_rangeFunc_ownH (F := Fence.wide) rfl (by decide) (gf := 42) (lb := #[.pointer (some ⟨w1.heap.size + 1, 0, none⟩)]) rfl trivial (enters_of Try.func42 (by kernel_rfl) rfl)
    (segs_stops 9 (by decide) (w1.heap.size + 1) w1.heap.size c p E hV W0 w1 (HP.out.grew Hg1.out) (Nat.le_refl _) hB0 (by omega) (by omega) bA.cell) KpS.trans (kpS_b (by omega) (by omega)) (Below.refl _ _) (fun _ => rfl)
    (fun pre W => (Boxed W w1.heap.size 3 (.int .i64 (sgS pre)) ∧ Boxed W (w1.heap.size + 1) 22 (.slice p E.length c)) ∧ Below w1.heap.size w1 W)
    (fun _ _ _ => False)
    (OwnFrom.and (OwnFrom.and (Own.from (boxed_own _ _ _) _) (Own.from (boxed_own _ _ _) _)) (ownFrom_below (Nat.le_refl _) (by omega)))
    (fun _ _ _ _ _ hs _ _ => hs)
    ⟨⟨bS, bA⟩, hB0⟩
    (fun x a' W => ∃ Bx, w1.heap.size + 1 < Bx ∧ BoxedS W Bx x ∧ a' = { tmps := #[.slice p E.length c, undef, .int .i64 0, .pointer (some ⟨w1.heap.size, 0, none⟩), .pointer (some ⟨Bx, 0, none⟩), .slice p E.length c, .bool true, .bool false, .slice p E.length c, .func (.func 42) #[] #[.pointer (some ⟨w1.heap.size + 1, 0, none⟩)], sgW x, undef, undef, undef, undef, undef, undef, undef, undef], defers := [] })
    (fun x a' _ X Y row hs hg hr => by obtain ⟨Bx, h1, h2, h3⟩ := hs; exact ⟨Bx, h1, boxedS_own (β := Unit) Bx x () X Y row h2 hg (fun r e => (hr r e).2), h3⟩)
    ?assign ?body ?done ?stop
  case assign =>
    rintro l pre x W K ⟨⟨bS1, bA1⟩, hB1⟩ hK
    have hlt := bA1.lt
    gi_wp2
    exact hK _ _ ((KeepsOthers.alloc _ _).from _) (kpS_of ((Below.refl _ W).alloc hB1.size _) bA1 (bA1.alloc _)) ⟨⟨bS1.alloc _, bA1.alloc _⟩, hB1.alloc hB1.size _⟩ ⟨W.heap.size, hlt, BoxedS.new W x, rfl⟩
  case body =>
    rintro l pre x a' W hl ⟨r, hr⟩ ⟨⟨bS1, bA1⟩, hB1⟩ ⟨Bx, hBx, bX, rfl⟩ hlt
    have cS := bS1.cell
    have fS := bS1.frozen
    obtain ⟨x1, x2, x3, x4⟩ := bX.cells
    have h1' : 1 ≤ 10 - 1 - 1 := by decide
    have hyb := sgS_bd pre
    obtain ⟨y, hy⟩ : ∃ y, sgS pre = y := ⟨_, rfl⟩
    obtain ⟨d, hd⟩ : ∃ d, dist x.1 x.2 = d := ⟨_, rfl⟩
    have hdb := dist_bd x.1 x.2
    have hV2 := hV.l2
    rw [hy] at hyb cS
    rw [hd] at hdb
    have hwk : IntKind.i64.wrap (y + d) = y + d := IntWalk.i64_in _ ⟨by omega, by omega⟩
    have HQ := Lib.hid (fun W1 : World => (hd ▸ Distance_p x.1.1 x.1.2 x.2.1 x.2.2 W1 : Calls Try.prog 30 #[pt x.1.1 x.1.2, pt x.2.1 x.2.2] W1 fun e w' => e = .returned (.int .i64 d) ∧ Grew W1 w'))
    have HS := Lib.hid (show sgS (pre ++ [x]) = y + d by rw [sgS_snoc, hy, hd])
    have HB1 := Lib.hid hB1
    have HbA := Lib.hid bA1
    have HbS := Lib.hid bS1
    have HbX := Lib.hid bX
    have hsA := bA1.lt
    have hsX := bX.lt
    clear hyb hy hd hdb hB1 bA1 bS1 bX hr hl
    gi_wp2
    gi_region_with (first
      | (refine ⟨trivial, ?_⟩; gi_at_call 30; refine (CallsIn.inRound l (callsIn_wide.2 (HQ.out _))).mono ?_; rintro e w' ⟨rfl, z, rfl⟩)
      | (gi_at_call 30; refine (CallsIn.inRound l (callsIn_wide.2 (HQ.out _))).mono ?_; rintro e w' ⟨rfl, z, rfl⟩))
    all_goals
      gi_wp2
      exact body_end (by (repeat (first | exact Grew.refl _ | refine Grew.over ?_ _ | refine Grew.alloc ?_ _ | refine Grew.drew ?_ | refine Grew.drewN ?_ _))) HS.out HB1.out HB1.out.size HbS.out HbA.out
  case done =>
    rintro D ys W hD rfl ⟨⟨bS1, bA1⟩, hB1⟩ hK
    have cS := bS1.cell
    gi_wp2
    refine ⟨by simp, .inl ⟨_, _, rfl, run_takeDeferred hK, ?_⟩⟩
    refine ⟨_, results_tmp rfl _ _ _, ?_, ?_⟩
    · rw [Hf.out, lenK_fold]; rfl
    · exact Hg1.out.trans (Grew.of_below (hB1.trans (belowK_b (w := w1) (Nat.le_refl _) W D _ _ (by omega) hK rfl rfl)))
  case stop =>
    rintro D c pre W _ _ h _
    exact h.elim
end Go.Proofs.Ytmljfjcebfonaaa
