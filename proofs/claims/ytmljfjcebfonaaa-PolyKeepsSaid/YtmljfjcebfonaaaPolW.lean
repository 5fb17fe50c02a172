/- The statements' awake. -/
import Derived.Test.YtmljfjcebfonaaaPolE
import Derived.Test.YtmljfjcebfonaaaPolI
import Derived.Test.YtmljfjcebfonaaaPolL
import Derived.Test.YtmljfjcebfonaaaPolM
import Derived.Test.YtmljfjcebfonaaaPolP
import Derived.Test.YtmljfjcebfonaaaPolU
import Derived.Test.YtmljfjcebfonaaaPolV
set_option linter.unusedSimpArgs false
set_option linter.unusedVariables false
namespace Go.Proofs.Ytmljfjcebfonaaa
open Go.RowKit
attribute [local go_sem ↓] Go.wp_at_zero Go.wp_at_succ

/-! ### Equality of boxes -/
def eqx (a b : Bx) : Bool := a.x0 == b.x0 && (a.y0 == b.y0 && (a.x1 == b.x1 && a.y1 == b.y1))
theorem eqx_self (a : Bx) : eqx a a = true := by simp [eqx]
theorem eq_bx (a b : Bx) (w : World) : (Op.equalIn 10000 27 (bxV a) (bxV b)).run Try.prog w = .ok (eqx a b) w := by
  obtain ⟨a1, a2, a3, a4⟩ := a
  obtain ⟨b1, b2, b3, b4⟩ := b
  have hS : Try.prog.underlying 27 = some (.struct (Try.prog.fieldsOf 27)) := by kernel_rfl
  rw [show (10000 : Nat) = 9999 + 1 from rfl, run_equalIn_agg w 9999 27 _ _ hS (by kernel_rfl)]
  simp only [Program.fieldsOf, Try.underlying27, eqx]
  have u3 := Try.underlying3
  go_simp
  by_cases h1 : a1 = b1 <;> by_cases h2 : a2 = b2 <;> by_cases h3 : a3 = b3 <;> by_cases h4 : a4 = b4 <;> simp [h1, h2, h3, h4]
@[go_sem] theorem guard_bx (op : BinOp) (x y : Operand) (xs ys : Array Value) (w : World) : (eqGuard op 27 x y (.agg xs) (.agg ys)).run Try.prog w = .ok () w := run_eqGuard_agg w op _ x y xs ys (by kernel_rfl)
theorem eql_bx (a b : Bx) (w : World) : (binOp .eql 27 (bxV a) (bxV b)).run Try.prog w = .ok (.bool (eqx a b)) w := by
  rw [run_eql_struct, eq_bx]
  rfl
@[go_sem ↓] theorem eql_bx' (a b c d a' b' c' d' : Int) (w : World) : (binOp .eql 27 (.agg #[.int .i64 a, .int .i64 b, .int .i64 c, .int .i64 d]) (.agg #[.int .i64 a', .int .i64 b', .int .i64 c', .int .i64 d'])).run Try.prog w = .ok (.bool (eqx ⟨a, b, c, d⟩ ⟨a', b', c', d'⟩)) w :=
  eql_bx ⟨a, b, c, d⟩ ⟨a', b', c', d'⟩ w

/-! ### Lists laid by the statements -/
theorem Prs.made (w : World) (cs : Array Value) (E : List (Int × Int)) (t : TypeId) (b : Nat) (hcs : cs = (prVs E).toArray) (hb : b = w.heap.size) (hl : E.length ≤ 2000) : Prs (w.alloc (.cells cs t)) (some ⟨b, 0, none⟩) E := by
  subst hb hcs
  refine ⟨by omega, w.heap.size, 0, fun _ => ⟨rfl, by simp⟩, fun i hi => ?_⟩
  obtain ⟨g1, g2⟩ := prVs_get E i hi
  have hc : ∀ j, (w.alloc (.cells (prVs E).toArray t)).cell? ⟨w.heap.size, j, none⟩ = (prVs E)[j]? := fun j => by
    rw [World.cell?_alloc_new]
    simp
  rw [Nat.zero_add, hc, hc]
  exact ⟨g1, g2⟩
theorem mk2 (W : World) (b : Nat) (a1 b1 a2 b2 : Int) (hb : b = W.heap.size) : Prs (W.alloc (.cells #[.int .i64 a1, .int .i64 b1, .int .i64 a2, .int .i64 b2] 32)) (some ⟨b, 0, none⟩) [(a1, b1), (a2, b2)] := Prs.made _ _ _ _ _ rfl hb (by simp)
theorem mk3 (W : World) (b : Nat) (a1 b1 a2 b2 a3 b3 : Int) (hb : b = W.heap.size) : Prs (W.alloc (.cells #[.int .i64 a1, .int .i64 b1, .int .i64 a2, .int .i64 b2, .int .i64 a3, .int .i64 b3] 32)) (some ⟨b, 0, none⟩) [(a1, b1), (a2, b2), (a3, b3)] := Prs.made _ _ _ _ _ rfl hb (by simp)
theorem mk4 (W : World) (b : Nat) (a1 b1 a2 b2 a3 b3 a4 b4 : Int) (hb : b = W.heap.size) : Prs (W.alloc (.cells #[.int .i64 a1, .int .i64 b1, .int .i64 a2, .int .i64 b2, .int .i64 a3, .int .i64 b3, .int .i64 a4, .int .i64 b4] 32)) (some ⟨b, 0, none⟩) [(a1, b1), (a2, b2), (a3, b3), (a4, b4)] := Prs.made _ _ _ _ _ rfl hb (by simp)

theorem length_pe {p : Option Addr} {n c : Nat} {E : List (Int × Int)} {w : World} {b : Int} (h : lenF E = b) (hP : Prs w p E) (hn : E.length = n) :
    Calls Try.prog 11 #[.slice p n c] w fun e w' => e = .returned (.int .i64 b) ∧ Grew w w' := h ▸ length_l p n c E w hP hn
theorem crossings_pe {p q : Option Addr} {n m c d : Nat} {A B : List (Int × Int)} {w : World} {b : Int} (h : croF A B = b) (hP : Prs w p A) (hQ : Prs w q B) (hn : A.length = n) (hm : B.length = m) :
    Calls Try.prog 24 #[.slice p n c, .slice q m d] w fun e w' => e = .returned (.int .i64 b) ∧ Grew w w' := h ▸ crossings_l p q n m c d A B w hP hQ hn hm
def SimE (E S : List (Int × Int)) (w : World) (e : Ending) (w' : World) : Prop := Grew w w' ∧ ∃ q c, e = .returned (.slice q S.length c) ∧ Prs w' q S
theorem SimPost.open {E S : List (Int × Int)} {w w' : World} {e : Ending} (hS : simF E = S) (h : SimPost E w e w') : SimE E S w e w' := by
  subst hS
  obtain ⟨hg, v, rfl, hO⟩ := h
  obtain ⟨q, c, rfl, _, hP⟩ := prs_of_owns hO (k := 0) rfl
  exact ⟨hg, q, c, rfl, hP⟩
theorem simplify_pe {p : Option Addr} {n c : Nat} {E S : List (Int × Int)} {w : World} (h : simF E = S) (hP : Prs w p E) (hn : E.length = n) :
    Calls Try.prog 20 #[.slice p n c] w (SimE E S w) := (simplify_p p n c E w hP hn).mono fun _ _ k => k.open h
theorem simplify_re {p : Option Addr} {n c : Nat} {E S : List (Int × Int)} {w : World} (h : simF E = S) (hP : Prs w p E) (hn : E.length = n) :
    Calls Try.prog 21 #[.slice p n c] w (SimE E S w) := (simplify_r p n c E w hP hn).mono fun _ _ k => k.open h

def awL : List (Int × Int) := [(0, 0), (10, 0), (20, 0), (20, 30)]
def awS : List (Int × Int) := [(0, 0), (20, 0), (20, 30)]
def awA : List (Int × Int) := [(0, 0), (10, 10)]
def awB : List (Int × Int) := [(0, 10), (10, 0)]
def awC : List (Int × Int) := [(5, 5), (9, 0)]
def awD : List (Int × Int) := [(0, 0), (10, 0), (5, 0)]
theorem nL (W : World) (b : Nat) (hb : b = W.heap.size) : Prs (W.alloc (.cells #[.int .i64 0, .int .i64 0, .int .i64 10, .int .i64 0, .int .i64 20, .int .i64 0, .int .i64 20, .int .i64 30] 32)) (some ⟨b, 0, none⟩) awL := mk4 W b 0 0 10 0 20 0 20 30 hb
theorem nS (W : World) (b : Nat) (hb : b = W.heap.size) : Prs (W.alloc (.cells #[.int .i64 0, .int .i64 0, .int .i64 20, .int .i64 0, .int .i64 20, .int .i64 30] 32)) (some ⟨b, 0, none⟩) awS := mk3 W b 0 0 20 0 20 30 hb
theorem nA (W : World) (b : Nat) (hb : b = W.heap.size) : Prs (W.alloc (.cells #[.int .i64 0, .int .i64 0, .int .i64 10, .int .i64 10] 32)) (some ⟨b, 0, none⟩) awA := mk2 W b 0 0 10 10 hb
theorem nB (W : World) (b : Nat) (hb : b = W.heap.size) : Prs (W.alloc (.cells #[.int .i64 0, .int .i64 10, .int .i64 10, .int .i64 0] 32)) (some ⟨b, 0, none⟩) awB := mk2 W b 0 10 10 0 hb
theorem nC (W : World) (b : Nat) (hb : b = W.heap.size) : Prs (W.alloc (.cells #[.int .i64 5, .int .i64 5, .int .i64 9, .int .i64 0] 32)) (some ⟨b, 0, none⟩) awC := mk2 W b 5 5 9 0 hb
theorem nD (W : World) (b : Nat) (hb : b = W.heap.size) : Prs (W.alloc (.cells #[.int .i64 0, .int .i64 0, .int .i64 10, .int .i64 0, .int .i64 5, .int .i64 0] 32)) (some ⟨b, 0, none⟩) awD := mk3 W b 0 0 10 0 5 0 hb
theorem aw1 : vPB awL = true := by decide +kernel
theorem aw2 : lenF awL = 50 := by decide +kernel
theorem aw3 : bndF awL = ⟨0, 0, 20, 30⟩ := by decide +kernel
theorem aw4 : benF awL = 1 := by decide +kernel
theorem aw5 : orthF awL = true := by decide +kernel
theorem aw6 : simF awL = awS := by decide +kernel
theorem aw7 : benF awD = 1 := by decide +kernel
theorem aw8 : croF awA awB = 1 := by decide +kernel
theorem aw9 : croF awA awC = 0 := by decide +kernel

set_option maxHeartbeats 4000000 in
theorem awake_l (w : World) : Calls Try.prog 8 #[] w fun e w' => e = .returned (.bool true) ∧ Grew w w' := by
  go_enter Try.func8, Try.ntmps8
  go_upto_region 3 with (go_at_call 20; apply Calls.mono; (with_reducible exact simplify_pe aw6 (nL _ _ (by first | rfl | omega | (simp <;> omega))) rfl); rintro e w1 ⟨hg1, q, c1, rfl, hS⟩)
  have HL := Lib.hid ((nL w _ rfl).grew hg1)
  have HS := Lib.hid hS
  have Hg1 : Hid (Grew w w1) := Lib.hid ((show Grew w _ by (repeat (first | exact Grew.refl _ | refine Grew.over ?_ _ | refine Grew.alloc ?_ _ | refine Grew.drew ?_ | refine Grew.drewN ?_ _))).trans hg1)
  clear hg1 hS
  go_upto_region 4 with fail
  obtain ⟨w3, hw3⟩ : ∃ w3, (((w1.alloc (.cells #[.int .i64 0, .int .i64 0, .int .i64 10, .int .i64 10] 32)).alloc (.cells #[.int .i64 0, .int .i64 10, .int .i64 10, .int .i64 0] 32)).alloc (.cells #[.int .i64 5, .int .i64 5, .int .i64 9, .int .i64 0] 32)) = w3 := ⟨_, rfl⟩
  have Hg3 : Hid (Grew w1 w3) := Lib.hid (by rw [← hw3]; (repeat (first | exact Grew.refl _ | refine Grew.over ?_ _ | refine Grew.alloc ?_ _ | refine Grew.drew ?_ | refine Grew.drewN ?_ _)))
  have HA : Hid (Prs w3 (some ⟨w1.heap.size, 0, none⟩) awA) := Lib.hid (by rw [← hw3]; exact ((nA w1 _ rfl).grew (by (repeat (first | exact Grew.refl _ | refine Grew.over ?_ _ | refine Grew.alloc ?_ _ | refine Grew.drew ?_ | refine Grew.drewN ?_ _)))))
  have HB : Hid (Prs w3 (some ⟨w1.heap.size + 1, 0, none⟩) awB) := Lib.hid (by rw [← hw3]; exact ((nB (w1.alloc (.cells #[.int .i64 0, .int .i64 0, .int .i64 10, .int .i64 10] 32)) _ (by simp)).grew (by (repeat (first | exact Grew.refl _ | refine Grew.over ?_ _ | refine Grew.alloc ?_ _ | refine Grew.drew ?_ | refine Grew.drewN ?_ _)))))
  have HC : Hid (Prs w3 (some ⟨w1.heap.size + 1 + 1, 0, none⟩) awC) := Lib.hid (by rw [← hw3]; exact ((nC ((w1.alloc (.cells #[.int .i64 0, .int .i64 0, .int .i64 10, .int .i64 10] 32)).alloc (.cells #[.int .i64 0, .int .i64 10, .int .i64 10, .int .i64 0] 32)) _ (by simp)).grew (by (repeat (first | exact Grew.refl _ | refine Grew.over ?_ _ | refine Grew.alloc ?_ _ | refine Grew.drew ?_ | refine Grew.drewN ?_ _)))))
  rw [hw3]
  clear hw3
  obtain ⟨b1, hb1⟩ : ∃ b, w.heap.size = b := ⟨_, rfl⟩
  obtain ⟨b2, hb2⟩ : ∃ b, w1.heap.size = b := ⟨_, rfl⟩
  rw [hb1] at HL ⊢
  rw [hb2] at HA HB HC ⊢
  obtain ⟨b3, hb3⟩ : ∃ b, b2 + 1 = b := ⟨_, rfl⟩
  rw [hb3] at HB HC ⊢
  obtain ⟨b4, hb4⟩ : ∃ b, b3 + 1 = b := ⟨_, rfl⟩
  rw [hb4] at HC ⊢
  have HL3 := Lib.hid (HL.out.grew Hg3.out)
  have HS3 := Lib.hid (HS.out.grew Hg3.out)
  have hbx := eqx_self ⟨0, 0, 20, 30⟩
  clear HL HS hb1 hb2 hb3 hb4
  go_wp2_with (first
    | (go_at_call 9; apply Calls.mono; (with_reducible exact valid_pe aw1 (HL3.out.grew (by (repeat (first | exact Grew.refl _ | refine Grew.over ?_ _ | refine Grew.alloc ?_ _ | refine Grew.drew ?_ | refine Grew.drewN ?_ _)))) rfl); rintro e w' ⟨rfl, x, rfl⟩)
    | (go_at_call 11; apply Calls.mono; (with_reducible exact length_pe aw2 (HL3.out.grew (by (repeat (first | exact Grew.refl _ | refine Grew.over ?_ _ | refine Grew.alloc ?_ _ | refine Grew.drew ?_ | refine Grew.drewN ?_ _)))) rfl); rintro e w' ⟨rfl, x, rfl⟩)
    | (go_at_call 13; apply Calls.mono; (with_reducible exact bounds_pe aw3 (HL3.out.grew (by (repeat (first | exact Grew.refl _ | refine Grew.over ?_ _ | refine Grew.alloc ?_ _ | refine Grew.drew ?_ | refine Grew.drewN ?_ _)))) rfl); rintro e w' ⟨rfl, x, rfl⟩)
    | (go_at_call 15; apply Calls.mono; (with_reducible exact bends_pe aw4 (HL3.out.grew (by (repeat (first | exact Grew.refl _ | refine Grew.over ?_ _ | refine Grew.alloc ?_ _ | refine Grew.drew ?_ | refine Grew.drewN ?_ _)))) rfl); rintro e w' ⟨rfl, x, rfl⟩)
    | (go_at_call 17; apply Calls.mono; (with_reducible exact orth_pe aw5 (HL3.out.grew (by (repeat (first | exact Grew.refl _ | refine Grew.over ?_ _ | refine Grew.alloc ?_ _ | refine Grew.drew ?_ | refine Grew.drewN ?_ _)))) rfl); rintro e w' ⟨rfl, x, rfl⟩)
    | (go_at_call 19; apply Calls.mono; (with_reducible exact same_re (show decide (awS = awS) = true by decide) (HS3.out.grew (by (repeat (first | exact Grew.refl _ | refine Grew.over ?_ _ | refine Grew.alloc ?_ _ | refine Grew.drew ?_ | refine Grew.drewN ?_ _)))) (nS _ _ (by (simp [go_sem, ↓IntWalk.iteOmega]))) rfl rfl); rintro e w' ⟨rfl, x, rfl⟩)
    | (go_at_call 15; apply Calls.mono; (with_reducible exact bends_pe aw7 (nD _ _ (by (simp [go_sem, ↓IntWalk.iteOmega]))) rfl); rintro e w' ⟨rfl, x, rfl⟩)
    | (go_at_call 24; apply Calls.mono; (with_reducible exact crossings_pe aw8 (HA.out.grew (by (repeat (first | exact Grew.refl _ | refine Grew.over ?_ _ | refine Grew.alloc ?_ _ | refine Grew.drew ?_ | refine Grew.drewN ?_ _)))) (HB.out.grew (by (repeat (first | exact Grew.refl _ | refine Grew.over ?_ _ | refine Grew.alloc ?_ _ | refine Grew.drew ?_ | refine Grew.drewN ?_ _)))) rfl rfl); rintro e w' ⟨rfl, x, rfl⟩)
    | (go_at_call 24; apply Calls.mono; (with_reducible exact crossings_pe aw9 (HA.out.grew (by (repeat (first | exact Grew.refl _ | refine Grew.over ?_ _ | refine Grew.alloc ?_ _ | refine Grew.drew ?_ | refine Grew.drewN ?_ _)))) (HC.out.grew (by (repeat (first | exact Grew.refl _ | refine Grew.over ?_ _ | refine Grew.alloc ?_ _ | refine Grew.drew ?_ | refine Grew.drewN ?_ _)))) rfl rfl); rintro e w' ⟨rfl, x, rfl⟩))
  go_ret
  exact ⟨rfl, Hg1.out.trans (Hg3.out.trans (by (repeat (first | exact Grew.refl _ | refine Grew.over ?_ _ | refine Grew.alloc ?_ _ | refine Grew.drew ?_ | refine Grew.drewN ?_ _))))⟩
end Go.Proofs.Ytmljfjcebfonaaa
