/- Crossings of the program. -/
import Derived.Test.YtmljfjcebfonaaaPolK
import Derived.Test.YtmljfjcebfonaaaPolO
set_option linter.unusedSimpArgs false
set_option linter.unusedVariables false
namespace Go.Proofs.Ytmljfjcebfonaaa
open Go.RowKit Go.Shelf
attribute [local go_sem] Oper.semAt_some

def x2 (x y : Sg) : Bool := crs2 x.1 x.2 y.1 y.2
def rowS (x : Sg) (l : List Sg) : Int := (l.map fun y => if x2 x y then (1 : Int) else 0).sum
def crsS (B : List Sg) (l : List Sg) : Int := (l.map fun x => rowS x B).sum
theorem rowS_snoc (x : Sg) (l : List Sg) (y : Sg) : rowS x (l ++ [y]) = rowS x l + if x2 x y then 1 else 0 := by simp [rowS]
theorem crsS_snoc (B l : List Sg) (x : Sg) : crsS B (l ++ [x]) = crsS B l + rowS x B := by simp [crsS]
theorem rowS_bd (x : Sg) : ∀ l : List Sg, 0 ≤ rowS x l ∧ rowS x l ≤ l.length
  | [] => by simp [rowS]
  | y :: l => by
    have h := rowS_bd x l
    have e : rowS x (y :: l) = (if x2 x y then 1 else 0) + rowS x l := by simp [rowS]
    rw [e, List.length_cons]
    push_cast
    split <;> omega
theorem crsS_bd {B : List Sg} (hB : B.length ≤ 512) : ∀ l : List Sg, 0 ≤ crsS B l ∧ crsS B l ≤ l.length * 512
  | [] => by simp [crsS]
  | x :: l => by
    have h := crsS_bd hB l
    have h2 := rowS_bd x B
    have e : crsS B (x :: l) = rowS x B + crsS B l := by simp [crsS]
    rw [e, List.length_cons]
    push_cast
    omega
theorem croRow_sg (A B : List (Int × Int)) (i : Nat) : ∀ k, croRow A B i k = rowS (pr A i, pr A (i + 1)) (sgK B k)
  | 0 => rfl
  | k + 1 => by rw [croRow, sgK_succ, rowS_snoc, croRow_sg A B i k]; rfl
theorem croK_sg (A B : List (Int × Int)) : ∀ i, croK A B i = crsS (sgK B (B.length - 1)) (sgK A i)
  | 0 => rfl
  | i + 1 => by rw [croK, sgK_succ, crsS_snoc, croK_sg A B i, croRow_sg]

theorem boxedS_grew {W W' : World} {B : Nat} {x : Sg} (h : BoxedS W B x) (hg : Grew W W') : BoxedS W' B x := (hg.below.block B h.lt).trans h
theorem body2_end {W W' wf : World} {S Bw Bx N KB KB' : Nat} {t : TypeId} {vA vB vN : Value} {v : Int} {x : Sg} (hg : Grew W' wf) (b1 : Boxed W' S 3 (.int .i64 v)) (b2 : Boxed W' (S + 1) t vA) (b3 : Boxed W' Bw t vB) (b4 : BoxedS W' Bx x) (b5 : Boxed W' N t vN)
    (hB : Below S W W') (hK : KeepsFrom KB W W') {v' : Int} (he : v' = v) :
    KeepsFrom KB' W' wf ∧ KpS S N W' wf ∧ (((((Boxed wf S 3 (.int .i64 v') ∧ Boxed wf (S + 1) t vA) ∧ Boxed wf Bw t vB) ∧ BoxedS wf Bx x) ∧ Boxed wf N t vN) ∧ (Below S W wf ∧ KeepsFrom KB W wf)) := by
  subst he
  have h1 : Below S W' wf := hg.below.mono (by have := b1.lt; omega)
  exact ⟨(keeps_grew hg).from _, kpS_of h1 b5 (boxed_grew b5 hg), ⟨⟨⟨⟨boxed_grew b1 hg, boxed_grew b2 hg⟩, boxed_grew b3 hg⟩, boxedS_grew b4 hg⟩, boxed_grew b5 hg⟩, hB.trans h1, hK.trans ((keeps_grew hg).from _)⟩
theorem body2_set {W W' wf : World} {S Bw Bx N KB KB' : Nat} {t : TypeId} {vA vB vN : Value} {v u : Int} {x : Sg} (hg : Grew (W'.setCell ⟨S, 0, none⟩ (.int .i64 u)) wf) (b1 : Boxed W' S 3 (.int .i64 v)) (b2 : Boxed W' (S + 1) t vA) (b3 : Boxed W' Bw t vB) (b4 : BoxedS W' Bx x) (b5 : Boxed W' N t vN)
    (hB : Below S W W') (hK : KeepsFrom KB W W') (h3 : Bw ≠ S) (h4 : Bx ≠ S) (h5 : N ≠ S) {v' : Int} (he : v' = u) :
    KeepsFrom KB' W' wf ∧ KpS S N W' wf ∧ (((((Boxed wf S 3 (.int .i64 v') ∧ Boxed wf (S + 1) t vA) ∧ Boxed wf Bw t vB) ∧ BoxedS wf Bx x) ∧ Boxed wf N t vN) ∧ (Below S W wf ∧ KeepsFrom KB W wf)) := by
  subst he
  have h1 : Below S W' wf := ((Below.refl S W').setCell (p := ⟨S, 0, none⟩) (Nat.le_refl _) (.int .i64 v')).trans (hg.below.mono (by have := b1.lt; simp; omega))
  have k1 : KeepsOthers W' wf := (KeepsOthers.setCell _ _ _).trans (keeps_grew hg)
  have c5 := boxed_grew (b5.other h5 (.int .i64 v')) hg
  exact ⟨k1.from _, kpS_of h1 b5 c5, ⟨⟨⟨⟨boxed_grew (b1.set (.int .i64 v')) hg, boxed_grew (b2.other (by omega) _) hg⟩, boxed_grew (b3.other h3 _) hg⟩, boxedS_grew (b4.kept (grownBy_setCell' W' S _) (fun e => h4 (by cases e; rfl))) hg⟩, c5⟩, hB.trans h1, hK.trans (k1.from _)⟩
theorem crossS_call {x y : Sg} {b : Bool} (h : x2 x y = b) (w : World) :
    Calls Try.prog 37 #[sgW x, sgW y] w fun e w' => e = .returned (.bool b) ∧ Grew w w' := h ▸ Cross_p x.1.1 x.1.2 x.2.1 x.2.2 y.1.1 y.1.2 y.2.1 y.2.2 w

set_option maxRecDepth 100000 in
set_option maxHeartbeats 8000000 in
theorem crossings_l (p q : Option Addr) (n m c d : Nat) (A B : List (Int × Int)) (w : World) (hP : Prs w p A) (hQ : Prs w q B) (hn : A.length = n) (hm : B.length = m) :
    Calls Try.prog 24 #[.slice p n c, .slice q m d] w fun e w' => e = .returned (.int .i64 (croF A B)) ∧ Grew w w' := by
  subst hn hm
  have HP := Lib.hid hP
  have HQ := Lib.hid hQ
  cases hv : vPB A
  case false =>
    have Hv := Lib.hid hv
    have Hf := Lib.hid (croF_no1 (B := B) hv)
    clear hP hQ hv
    go_enter Try.func24, Try.ntmps24
    go_wp2_with (go_at_call 9; apply Calls.mono; (with_reducible exact valid_pe Hv.out (HP.out.grew (by (repeat (first | exact Grew.refl _ | refine Grew.over ?_ _ | refine Grew.alloc ?_ _ | refine Grew.drew ?_ | refine Grew.drewN ?_ _)))) rfl); rintro e w' ⟨rfl, x, rfl⟩)
    go_ret
    exact ⟨by rw [Hf.out]; rfl, by (repeat (first | exact Grew.refl _ | refine Grew.over ?_ _ | refine Grew.alloc ?_ _ | refine Grew.drew ?_ | refine Grew.drewN ?_ _))⟩
  cases hu : vPB B
  case false =>
    have Hv := Lib.hid hv
    have Hu := Lib.hid hu
    have Hf := Lib.hid (croF_no2 (A := A) hu)
    clear hP hQ hv hu
    go_enter Try.func24, Try.ntmps24
    go_wp2_with (first
      | (go_at_call 9; apply Calls.mono; (with_reducible exact valid_pe Hv.out (HP.out.grew (by (repeat (first | exact Grew.refl _ | refine Grew.over ?_ _ | refine Grew.alloc ?_ _ | refine Grew.drew ?_ | refine Grew.drewN ?_ _)))) rfl); rintro e w' ⟨rfl, x, rfl⟩)
      | (go_at_call 9; apply Calls.mono; (with_reducible exact valid_pe Hu.out (HQ.out.grew (by (repeat (first | exact Grew.refl _ | refine Grew.over ?_ _ | refine Grew.alloc ?_ _ | refine Grew.drew ?_ | refine Grew.drewN ?_ _)))) rfl); rintro e w' ⟨rfl, x, rfl⟩))
    go_ret
    exact ⟨by rw [Hf.out]; rfl, by (repeat (first | exact Grew.refl _ | refine Grew.over ?_ _ | refine Grew.alloc ?_ _ | refine Grew.drew ?_ | refine Grew.drewN ?_ _))⟩
  have Hv := Lib.hid hv
  have Hu := Lib.hid hu
  have hV := vPB_iff.1 hv
  have hU := vPB_iff.1 hu
  have Hf : Hid (croF A B = crsS (sgK B (B.length - 1)) (sgK A (A.length - 1))) := Lib.hid (by rw [croF_yes hv hu, croK_sg])
  clear hP hQ hv hu
  refine (callsIn_wide (n := 10)).1 ?_
  refine callsIn_of_wp_marks Try.func24 rfl trivial ?_ rfl
  simp only [Try.ntmps24, List.size_toArray, List.length_cons, List.length_nil, Nat.reduceAdd, Nat.reduceSub, Array.replicate_succ, Array.replicate_zero, List.push_toArray, List.append_toArray, List.nil_append, List.cons_append]
  have HA := Lib.hid (fun (W : World) (hg : Grew w W) => (valid_pe Hv.out (HP.out.grew hg) rfl : Calls Try.prog 9 #[.slice p A.length c] W fun e w' => e = .returned (.bool true) ∧ Grew W w'))
  have HB := Lib.hid (fun (W : World) (hg : Grew w W) => (valid_pe Hu.out (HQ.out.grew hg) rfl : Calls Try.prog 9 #[.slice q B.length d] W fun e w' => e = .returned (.bool true) ∧ Grew W w'))
  gi_wp2_with (first
    | ((try refine ⟨trivial, ?_⟩); gi_at_call 9; with_reducible refine (callsIn_wide.2 (HA.out _ (by (repeat (first | exact Grew.refl _ | refine Grew.over ?_ _ | refine Grew.alloc ?_ _ | refine Grew.drew ?_ | refine Grew.drewN ?_ _))))).mono ?_; rintro e w1 ⟨rfl, hg1⟩; have Hg1 := Lib.hid hg1; have bB := boxed_grew (Boxed.new w 22 (.slice q B.length d)) hg1; have cB := bB.cell; clear hg1)
    | ((try refine ⟨trivial, ?_⟩); gi_at_call 9; with_reducible refine (callsIn_wide.2 (HB.out _ (((Grew.refl w).alloc _).trans Hg1.out))).mono ?_; rintro e w2 ⟨rfl, hg2⟩; replace bB := boxed_grew bB hg2; have Hg2 := Lib.hid (Hg1.out.trans hg2); clear hg2 Hg1 cB))
  refine ⟨trivial, ?_⟩
  refine (segs_in Fence.wide _ trivial rfl p A.length c _).mono ?_
  rintro e w' ⟨rfl, rfl⟩
  gi_wp2
  have hB2 : Below w.heap.size w w2 := ((Below.refl _ w).alloc (Nat.le_refl _) (.cells #[.slice q B.length d] 22)).trans (Hg2.out.below.mono (by simp))
  have hs2 : w.heap.size + 1 ≤ w2.heap.size := by have := Hg2.out.below.size; simpa using this
  have Gw := Lib.hid (Grew.of_below hB2)
  replace bB := (bB.alloc (.cells #[.int .i64 0] 3)).alloc (.cells #[.slice p A.length c] 22)
  have bS := (Boxed.new w2 3 (.int .i64 0)).alloc (.cells #[.slice p A.length c] 22)
  have bA := Boxed.new (w2.alloc (.cells #[.int .i64 0] 3)) 22 (.slice p A.length c)
  simp only [World.size_alloc] at bA
  have hB0 : Below w2.heap.size w2 ((w2.alloc (.cells #[.int .i64 0] 3)).alloc (.cells #[.slice p A.length c] 22)) := ((Below.refl _ w2).alloc (Nat.le_refl _) _).alloc (by simp) _
  have hsz : ((w2.alloc (.cells #[.int .i64 0] 3)).alloc (.cells #[.slice p A.length c] 22)).heap.size = w2.heap.size + 2 := by simp
  obtain ⟨W0, hW0⟩ : ∃ W0, (w2.alloc (.cells #[.int .i64 0] 3)).alloc (.cells #[.slice p A.length c] 22) = W0 := ⟨_, rfl⟩
  rw [hW0] at bB bS bA hB0 hsz ⊢
  clear hW0
  have SP := Lib.hid (segs_stops 9 (by decide) (w2.heap.size + 1) w2.heap.size c p A hV W0 w2 (HP.out.grew Gw.out) (Nat.le_refl _) hB0 (by omega) (by omega) bA.cell)
  refine wpIn_rangeFunc_ownH (F := Fence.wide) rfl (by decide) (gf := 42) (lb := #[.pointer (some ⟨w2.heap.size + 1, 0, none⟩)]) rfl trivial (enters_of Try.func42 (by kernel_rfl) rfl)
    SP.out KpS.trans (kpS_b (by omega) (by omega)) (Below.refl _ _) (fun _ => rfl)
    (fun pre W => ((Boxed W w2.heap.size 3 (.int .i64 (crsS (sgK B (B.length - 1)) pre)) ∧ Boxed W (w2.heap.size + 1) 22 (.slice p A.length c)) ∧ Boxed W w.heap.size 22 (.slice q B.length d)) ∧ Below w2.heap.size w2 W)
    (fun _ _ _ => False)
    (OwnFrom.and (OwnFrom.and (OwnFrom.and (Own.from (boxed_own _ _ _) _) (Own.from (boxed_own _ _ _) _)) (Own.from (boxed_own _ _ _) _)) (ownFrom_below (Nat.le_refl _) (by omega)))
    (fun _ _ _ _ _ hs _ _ => hs)
    ⟨⟨⟨bS, bA⟩, bB⟩, hB0⟩
    (fun x a' W => ∃ Bx, w2.heap.size + 1 < Bx ∧ BoxedS W Bx x ∧ a' = { tmps := #[.slice p A.length c, .slice q B.length d, undef, .pointer (some ⟨w.heap.size, 0, none⟩), .int .i64 0, .pointer (some ⟨w2.heap.size, 0, none⟩), .pointer (some ⟨Bx, 0, none⟩), undef, .slice p A.length c, .bool true, .bool false, .bool false, .slice q B.length d, .bool true, .bool false, .bool false, .slice p A.length c, .func (.func 42) #[] #[.pointer (some ⟨w2.heap.size + 1, 0, none⟩)], sgW x, undef, undef, undef, undef, undef, undef, undef, undef, undef], defers := [] })
    (fun x a' _ X Y row hs hg hr => by obtain ⟨Bx, h1, h2, h3⟩ := hs; exact ⟨Bx, h1, boxedS_own (β := Unit) Bx x () X Y row h2 hg (fun r e => (hr r e).2), h3⟩)
    ?assign ?body ?done ?stop
  case assign =>
    rintro l pre x W K ⟨⟨⟨bS1, bA1⟩, bB1⟩, hB1⟩ hK
    have hlt := bA1.lt
    gi_wp2
    exact hK _ _ ((KeepsOthers.alloc _ _).from _) (kpS_of ((Below.refl _ W).alloc hB1.size _) bA1 (bA1.alloc _)) ⟨⟨⟨bS1.alloc _, bA1.alloc _⟩, bB1.alloc _⟩, hB1.alloc hB1.size _⟩ ⟨W.heap.size, hlt, BoxedS.new W x, rfl⟩
  case body =>
    rintro l pre x a' W hl ⟨r, hr⟩ ⟨⟨⟨bS1, bA1⟩, bB1⟩, hB1⟩ ⟨Bx, hBx, bX, rfl⟩ hlt
    have cB := bB1.cell
    have h1' : 1 ≤ 10 - 1 - 1 := by decide
    have hsW := hB1.size
    have hlA := bA1.lt
    have hlX := bX.lt
    gi_wp2_with ((try refine ⟨trivial, ?_⟩); gi_at_call 29; refine (CallsIn.inRound l (segs_in Fence.wide _ trivial rfl _ _ _ _)).mono ?_; rintro e w' ⟨rfl, rfl⟩)
    have bN := Boxed.new W 22 (.slice q B.length d)
    have hr' : (W.alloc (.cells #[.slice q B.length d] 22)).heap[l]? = some (.loop r) := (Below.heap_alloc W _ l (Array.getElem?_eq_some_iff.1 hr).1).trans hr
    have hszW : (W.alloc (.cells #[.slice q B.length d] 22)).heap.size = W.heap.size + 1 := by simp
    have SQ := Lib.hid (segs_stops 7 (by decide) W.heap.size w2.heap.size d q B hU (W.alloc (.cells #[.slice q B.length d] 22)) w2 (HQ.out.grew Gw.out) (Nat.le_refl _) (hB1.alloc hsW _) (by omega) (by omega) bN.cell)
    refine wpIn_rangeFunc_ownN (l₀ := l) (r₀ := r) rfl hr' h1' (gf := 42) (lb := #[.pointer (some ⟨W.heap.size, 0, none⟩)]) rfl trivial (enters_of Try.func42 (by kernel_rfl) rfl)
      (SQ.out.inRound l) KpS.trans (kpS_b (by omega) (by omega)) (Below.refl _ _) (fun _ => rfl)
      (fun pre' W' => (((((Boxed W' w2.heap.size 3 (.int .i64 (crsS (sgK B (B.length - 1)) pre + rowS x pre')) ∧ Boxed W' (w2.heap.size + 1) 22 (.slice p A.length c)) ∧ Boxed W' w.heap.size 22 (.slice q B.length d)) ∧ BoxedS W' Bx x) ∧ Boxed W' W.heap.size 22 (.slice q B.length d)) ∧ (Below w2.heap.size W W' ∧ KeepsFrom W0.heap.size W W')))
      (fun _ _ _ => False)
      (OwnFrom.and (OwnFrom.and (OwnFrom.and (OwnFrom.and (OwnFrom.and (Own.from (boxed_own _ _ _) _) (Own.from (boxed_own _ _ _) _)) (Own.from (boxed_own _ _ _) _)) (Own.from (boxedS_own _ _) _)) (Own.from (boxed_own _ _ _) _)) (OwnFrom.and (ownFrom_below hsW (by omega)) (ownFrom_keepsFrom (by omega))))
      (fun _ _ _ _ _ hs _ _ => hs)
      ⟨⟨⟨⟨⟨by rw [show rowS x [] = 0 from rfl, Int.add_zero]; exact bS1.alloc _, bA1.alloc _⟩, bB1.alloc _⟩, boxedS_grew bX ((Grew.refl W).alloc _)⟩, bN⟩, (Below.refl _ W).alloc hsW _, (KeepsOthers.alloc _ _).from _⟩
      (fun y a'' W' => ∃ By, W.heap.size < By ∧ BoxedS W' By y ∧ a'' = { tmps := #[.slice p A.length c, .slice q B.length d, undef, .pointer (some ⟨w.heap.size, 0, none⟩), .int .i64 0, .pointer (some ⟨w2.heap.size, 0, none⟩), .pointer (some ⟨Bx, 0, none⟩), .pointer (some ⟨By, 0, none⟩), .slice p A.length c, .bool true, .bool false, .bool false, .slice q B.length d, .bool true, .bool false, .bool false, .slice p A.length c, .func (.func 42) #[] #[.pointer (some ⟨w2.heap.size + 1, 0, none⟩)], sgW x, .slice q B.length d, .func (.func 42) #[] #[.pointer (some ⟨W.heap.size, 0, none⟩)], sgW y, undef, undef, undef, undef, undef, undef], defers := [] })
      (fun x a' _ X Y row hs hg hr => by obtain ⟨Bx, h1, h2, h3⟩ := hs; exact ⟨Bx, h1, boxedS_own (β := Unit) Bx x () X Y row h2 hg (fun r e => (hr r e).2), h3⟩)
      ?assign2 ?body2 ?done2 ?stop2
    case assign2 =>
      rintro l2 pre' y W' K ⟨⟨⟨⟨⟨bS2, bA2⟩, bB2⟩, bX2⟩, bN2⟩, hBW, hKF⟩ hK
      have hlt2 := bN2.lt
      have hsz2 := bA2.lt
      gi_wp2
      exact hK _ _ ((KeepsOthers.alloc _ _).from _) (kpS_of ((Below.refl _ W').alloc (by omega) _) bN2 (bN2.alloc _)) ⟨⟨⟨⟨⟨bS2.alloc _, bA2.alloc _⟩, bB2.alloc _⟩, boxedS_grew bX2 ((Grew.refl W').alloc _)⟩, bN2.alloc _⟩, hBW.alloc (by omega) _, hKF.trans ((KeepsOthers.alloc _ _).from _)⟩ ⟨W'.heap.size, hlt2, BoxedS.new W' y, rfl⟩
    case body2 =>
      rintro l2 pre' y a'' W' _ _ ⟨⟨⟨⟨⟨bS2, bA2⟩, bB2⟩, bX2⟩, bN2⟩, hBW, hKF⟩ ⟨By, hBy, bY, rfl⟩ hlt2
      have cS := bS2.cell
      have fS := bS2.frozen
      obtain ⟨x1, x2', x3, x4⟩ := bX2.cells
      obtain ⟨y1, y2, y3, y4⟩ := bY.cells
      have hz1 := crsS_bd (B := sgK B (B.length - 1)) (by rw [sgK_length]; have := hU.l2; omega) pre
      have hz2 := rowS_bd x pre'
      obtain ⟨z, hz⟩ : ∃ z, crsS (sgK B (B.length - 1)) pre + rowS x pre' = z := ⟨_, rfl⟩
      have hV2 := hV.l2
      have hU2 := hU.l2
      have hzb : 0 ≤ z ∧ z ≤ 1000000 := by omega
      rw [hz] at cS
      obtain ⟨hzb1, hzb2⟩ := hzb
      have hlS := bS2.lt
      have hlN := bN2.lt
      have hlY := bY.lt
      have hlX2 := bX2.lt
      rw [hz] at bS2
      cases hb : x2 x y
      · have HC := Lib.hid (fun W1 : World => crossS_call hb W1)
        have HS := Lib.hid (show crsS (sgK B (B.length - 1)) pre + rowS x (pre' ++ [y]) = z by rw [rowS_snoc, hb, ← hz]; simp)
        clear hb hz hz1 hz2
        gi_wp2_with ((try refine ⟨trivial, ?_⟩); gi_at_call 37; refine (CallsIn.inRound l2 (CallsIn.inRound l (callsIn_wide.2 (HC.out _)))).mono ?_; rintro e w' ⟨rfl, v, rfl⟩)
        exact body2_end (by (repeat (first | exact Grew.refl _ | refine Grew.over ?_ _ | refine Grew.alloc ?_ _ | refine Grew.drew ?_ | refine Grew.drewN ?_ _))) bS2 bA2 bB2 bX2 bN2 hBW hKF HS.out
      · have HC := Lib.hid (fun W1 : World => crossS_call hb W1)
        have HS := Lib.hid (show crsS (sgK B (B.length - 1)) pre + rowS x (pre' ++ [y]) = z + 1 by rw [rowS_snoc, hb, ← hz]; simp; omega)
        clear hb hz hz1 hz2
        gi_wp2_with ((try refine ⟨trivial, ?_⟩); gi_at_call 37; refine (CallsIn.inRound l2 (CallsIn.inRound l (callsIn_wide.2 (HC.out _)))).mono ?_; rintro e w' ⟨rfl, v, rfl⟩)
        refine body2_set ?_ bS2 bA2 bB2 bX2 bN2 hBW hKF (by omega) (by omega) (by omega) HS.out
        (repeat (first | exact Grew.refl _ | refine Grew.over ?_ _ | refine Grew.alloc ?_ _ | refine Grew.drew ?_ | refine Grew.drewN ?_ _))
    case done2 =>
      rintro ys' W' rfl ⟨⟨⟨⟨⟨bS2, bA2⟩, bB2⟩, bX2⟩, bN2⟩, hBW, hKF⟩
      gi_wp2
      exact ⟨hKF, kpS_of hBW bA1 bA2, ⟨⟨by rw [crsS_snoc]; exact bS2, bA2⟩, bB2⟩, hB1.trans hBW⟩
    case stop2 =>
      rintro c pre' W' _ h
      exact h.elim
  case done =>
    rintro D ys W hD rfl ⟨⟨⟨bS1, bA1⟩, bB1⟩, hB1⟩ hK
    have cS := bS1.cell
    gi_wp2
    refine ⟨by simp, .inl ⟨_, _, rfl, run_takeDeferred hK, ?_⟩⟩
    refine ⟨_, results_tmp rfl _ _ _, ?_, ?_⟩
    · rw [Hf.out]; rfl
    · exact Gw.out.trans (Grew.of_below (hB1.trans (belowK_b (w := w2) (Nat.le_refl _) W D _ _ (by omega) hK rfl rfl)))
  case stop =>
    rintro D c pre W _ _ h _
    exact h.elim
end Go.Proofs.Ytmljfjcebfonaaa
