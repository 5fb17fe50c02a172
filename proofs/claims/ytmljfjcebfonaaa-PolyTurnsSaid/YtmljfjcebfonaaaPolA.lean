/- Paths in memory, and what the layer computes of them. -/
import Derived.Test.YtmljfjcebfonaaaPolG
import Derived.Test.YtmljfjcebfonaaaMem
import Derived.Test.YtmljfjcebfonaaaHeld
import Derived.Deep.DeepCutAuto
import Derived.Deep.DrawnRows
import Derived.Laws.StructEq
set_option linter.unusedSimpArgs false
set_option linter.unusedVariables false
namespace Go.Proofs.Ytmljfjcebfonaaa
open Go.RowKit
attribute [local go_sem ↓] Go.wp_at_zero Go.wp_at_succ

/-! ### Pairs in memory -/
def pr (E : List (Int × Int)) (i : Nat) : Int × Int := E.getD i (0, 0)
theorem pr_eq (E : List (Int × Int)) {i : Nat} (h : i < E.length) : pr E i = E[i] := by simp [pr, h]
theorem pr_mem {E : List (Int × Int)} {i : Nat} (h : i < E.length) : pr E i ∈ E := by rw [pr_eq E h]; exact List.getElem_mem h
theorem prs_ext {E E' : List (Int × Int)} (hl : E.length = E'.length) (h : ∀ i, i < E.length → pr E i = pr E' i) : E = E' := by
  refine List.ext_getElem hl fun i h1 h2 => ?_
  have := h i h1
  rw [pr_eq E h1, pr_eq E' h2] at this
  exact this
def Prs (w : World) (p : Option Addr) (E : List (Int × Int)) : Prop :=
  E.length ≤ 9223372036854775807 ∧ ∃ b o, (0 < E.length → p = some ⟨b, o, none⟩ ∧ b < w.heap.size) ∧ ∀ i, i < E.length → w.cell? ⟨b, o + i * 2, none⟩ = some (.int .i64 (pr E i).1) ∧ w.cell? ⟨b, o + i * 2 + 1, none⟩ = some (.int .i64 (pr E i).2)
theorem Prs.grew {w w' : World} {p : Option Addr} {E : List (Int × Int)} (h : Prs w p E) (hg : Grew w w') : Prs w' p E := by
  obtain ⟨h1, b, o, h3, h4⟩ := h
  exact ⟨h1, b, o, fun hp => ⟨(h3 hp).1, Nat.lt_of_lt_of_le (h3 hp).2 hg.below.size⟩, fun i hi => ⟨hg.cellEq (h4 i hi).1, hg.cellEq (h4 i hi).2⟩⟩
theorem Prs.cells {w : World} {p : Option Addr} {E : List (Int × Int)} (h : Prs w p E) (h0 : 0 < E.length) : ∃ b o, p = some ⟨b, o, none⟩ ∧ b < w.heap.size ∧
    ∀ w' : World, Grew w w' → ∀ i, i < E.length → w'.cell? ⟨b, o + i * 2, none⟩ = some (.int .i64 (pr E i).1) ∧ w'.cell? ⟨b, o + i * 2 + 1, none⟩ = some (.int .i64 (pr E i).2) := by
  obtain ⟨_, b, o, h3, h4⟩ := h
  obtain ⟨e, hb⟩ := h3 h0
  exact ⟨b, o, e, hb, fun w' hg i hi => ⟨hg.cellEq (h4 i hi).1, hg.cellEq (h4 i hi).2⟩⟩
theorem Prs.nil (w : World) (p : Option Addr) : Prs w p [] := ⟨by simp, 0, 0, fun h => by simp at h, fun u hu => by simp at hu⟩

/-! ### Equality of points -/
/-- Equality of points, as a word that the walk does not open. -/
def eqb (a b c d : Int) : Bool := a == c && b == d
theorem eq_pt (a b c d : Int) (w : World) : (Op.equalIn 10000 32 (.agg #[.int .i64 a, .int .i64 b]) (.agg #[.int .i64 c, .int .i64 d])).run Try.prog w = .ok (eqb a b c d) w := by
  have hS : Try.prog.underlying 32 = some (.struct (Try.prog.fieldsOf 32)) := by kernel_rfl
  rw [show (10000 : Nat) = 9999 + 1 from rfl, run_equalIn_agg w 9999 32 _ _ hS (by kernel_rfl)]
  simp only [Program.fieldsOf, Try.underlying32, eqb]
  have u3 := Try.underlying3
  go_simp
  by_cases h1 : a = c <;> by_cases h2 : b = d <;> simp [h1, h2]
@[go_sem] theorem guard_pt (op : BinOp) (x y : Operand) (xs ys : Array Value) (w : World) : (eqGuard op 32 x y (.agg xs) (.agg ys)).run Try.prog w = .ok () w := run_eqGuard_agg w op _ x y xs ys (by kernel_rfl)
@[go_sem ↓] theorem neq_pt (a b c d : Int) (w : World) : (binOp .neq 32 (.agg #[.int .i64 a, .int .i64 b]) (.agg #[.int .i64 c, .int .i64 d])).run Try.prog w = .ok (.bool (!(eqb a b c d))) w := by
  rw [run_neq_struct, eq_pt]
  rfl
@[go_sem ↓] theorem eql_pt (a b c d : Int) (w : World) : (binOp .eql 32 (.agg #[.int .i64 a, .int .i64 b]) (.agg #[.int .i64 c, .int .i64 d])).run Try.prog w = .ok (.bool (eqb a b c d)) w := by
  rw [run_eql_struct, eq_pt]
  rfl
theorem eqb_pt (p q : Int × Int) : eqb p.1 p.2 q.1 q.2 = decide (p = q) := by
  obtain ⟨a, b⟩ := p
  obtain ⟨c, d⟩ := q
  unfold eqb
  by_cases h1 : a = c <;> by_cases h2 : b = d <;> simp [h1, h2]
theorem eqb_yes {p q : Int × Int} (h : p = q) : eqb p.1 p.2 q.1 q.2 = true := by rw [eqb_pt]; exact decide_eq_true h
theorem eqb_no {p q : Int × Int} (h : p ≠ q) : eqb p.1 p.2 q.1 q.2 = false := by rw [eqb_pt]; exact decide_eq_false h

/-! ### Valid paths -/
def ok1 (p : Int × Int) : Bool := vld p.1 p.2
def dstB (E : List (Int × Int)) : Bool := (List.range (E.length - 1)).all fun i => decide (pr E i ≠ pr E (i + 1))
def ptsB (E : List (Int × Int)) : Bool := decide (1 ≤ E.length ∧ E.length ≤ 512) && E.all ok1
def vPB (E : List (Int × Int)) : Bool := dstB E && ptsB E
theorem dstB_iff {E : List (Int × Int)} : dstB E = true ↔ ∀ i, i + 1 < E.length → pr E i ≠ pr E (i + 1) := by
  unfold dstB
  simp only [List.all_eq_true, List.mem_range, decide_eq_true_eq]
  exact ⟨fun h i hi => h i (by omega), fun h i hi => h i (by omega)⟩
theorem ptsB_iff {E : List (Int × Int)} : ptsB E = true ↔ 1 ≤ E.length ∧ E.length ≤ 512 ∧ ∀ i, i < E.length → ok1 (pr E i) = true := by
  unfold ptsB
  simp only [Bool.and_eq_true, decide_eq_true_eq, List.all_eq_true]
  refine ⟨fun h => ⟨h.1.1, h.1.2, fun i hi => h.2 _ (pr_mem hi)⟩, fun h => ⟨⟨h.1, h.2.1⟩, fun p hp => ?_⟩⟩
  obtain ⟨i, hi, rfl⟩ := List.getElem_of_mem hp
  rw [← pr_eq E hi]
  exact h.2.2 i hi
theorem ptsB_no {E : List (Int × Int)} (h : ¬ (1 ≤ E.length ∧ E.length ≤ 512 ∧ ∀ i, i < E.length → ok1 (pr E i) = true)) : ptsB E = false := Bool.eq_false_iff.2 fun e => h (ptsB_iff.1 e)
theorem dstB_no {E : List (Int × Int)} {i : Nat} (h : i + 1 < E.length) (he : pr E i = pr E (i + 1)) : dstB E = false := Bool.eq_false_iff.2 fun e => dstB_iff.1 e i h he
structure vP (E : List (Int × Int)) : Prop where
  l1 : 1 ≤ E.length
  l2 : E.length ≤ 512
  ok : ∀ i, i < E.length → vld (pr E i).1 (pr E i).2 = true
  ne : ∀ i, i + 1 < E.length → pr E i ≠ pr E (i + 1)
theorem vPB_iff {E : List (Int × Int)} : vPB E = true ↔ vP E := by
  unfold vPB
  rw [Bool.and_eq_true, dstB_iff, ptsB_iff]
  exact ⟨fun h => ⟨h.2.1, h.2.2.1, h.2.2.2, h.1⟩, fun h => ⟨h.ne, h.l1, h.l2, h.ok⟩⟩
theorem vPB_no {E : List (Int × Int)} (h : ¬ vP E) : vPB E = false := Bool.eq_false_iff.2 fun e => h (vPB_iff.1 e)

/-! ### What is computed -/
def dist (p q : Int × Int) : Int := dst p.1 p.2 q.1 q.2
def lenK (E : List (Int × Int)) : Nat → Int
  | 0 => 0
  | k + 1 => lenK E k + dist (pr E k) (pr E (k + 1))
def lenF (E : List (Int × Int)) : Int := if vPB E then lenK E (E.length - 1) else 0
def bend3 (p q r : Int × Int) : Bool := decide (crs p.1 p.2 q.1 q.2 r.1 r.2 ≠ 0) || decide ((q.1 - p.1) * (r.1 - q.1) + (q.2 - p.2) * (r.2 - q.2) < 0)
def benK (E : List (Int × Int)) : Nat → Int
  | 0 => 0
  | k + 1 => benK E k + if bend3 (pr E k) (pr E (k + 1)) (pr E (k + 2)) then 1 else 0
def benF (E : List (Int × Int)) : Int := if vPB E then benK E (E.length - 2) else 0
structure Bx where
  x0 : Int
  y0 : Int
  x1 : Int
  y1 : Int
deriving DecidableEq
abbrev bxV (b : Bx) : Value := .agg #[.int .i64 b.x0, .int .i64 b.y0, .int .i64 b.x1, .int .i64 b.y1]
def bxP (p : Int × Int) : Bx := ⟨p.1, p.2, p.1, p.2⟩
def bxAdd (b : Bx) (p : Int × Int) : Bx := ⟨min b.x0 p.1, min b.y0 p.2, max b.x1 p.1, max b.y1 p.2⟩
def bndK (E : List (Int × Int)) : Nat → Bx
  | 0 => bxP (pr E 0)
  | k + 1 => bxAdd (bndK E k) (pr E (k + 1))
def bndF (E : List (Int × Int)) : Bx := if vPB E then bndK E (E.length - 1) else ⟨0, 0, 0, 0⟩
def hvB (p q : Int × Int) : Bool := decide (p.1 = q.1) || decide (p.2 = q.2)
def orthF (E : List (Int × Int)) : Bool := vPB E && (List.range (E.length - 1)).all fun i => hvB (pr E i) (pr E (i + 1))

theorem lenK_bd (E : List (Int × Int)) : ∀ k, 0 ≤ lenK E k ∧ lenK E k ≤ k * 2000000000
  | 0 => by simp [lenK]
  | k + 1 => by
    have := lenK_bd E k
    have h1 : 0 ≤ dist (pr E k) (pr E (k + 1)) ∧ dist (pr E k) (pr E (k + 1)) ≤ 2000000000 := by
      unfold dist dst
      split
      · rename_i h
        obtain ⟨h1, h2⟩ := and_vld h
        rw [vld_iff] at h1 h2
        omega
      · omega
    rw [lenK]
    push_cast
    omega
theorem benK_bd (E : List (Int × Int)) : ∀ k, 0 ≤ benK E k ∧ benK E k ≤ k
  | 0 => by simp [benK]
  | k + 1 => by
    have := benK_bd E k
    rw [benK]
    push_cast
    split <;> omega
theorem bndK_bd {E : List (Int × Int)} (h : vP E) : ∀ k, k < E.length → vld (bndK E k).x0 (bndK E k).y0 = true ∧ vld (bndK E k).x1 (bndK E k).y1 = true
  | 0, hk => ⟨h.ok 0 hk, h.ok 0 hk⟩
  | k + 1, hk => by
    obtain ⟨h1, h2⟩ := bndK_bd h k (by omega)
    have h3 := h.ok (k + 1) hk
    simp only [bndK, bxAdd]
    rw [vld_iff] at h1 h2 h3 ⊢
    rw [vld_iff]
    omega
end Go.Proofs.Ytmljfjcebfonaaa
