/- The chapter's examples, plain and in memory. -/
import Derived.Test.YtdacnkjmimhcaaaDoorCanJ
set_option linter.unusedSimpArgs false
set_option linter.unusedVariables false
namespace Go.Proofs.YtdacnkjmimhcaaaDoor
open Go.RowKit
attribute [local go_sem ↓] Go.wp_at_zero Go.wp_at_succ

def E3 : List (Int × Int) := [(0, 1), (1, 2), (2, 0)]
def A3 : List (List Int) := [[0, 5], [2, 1], [4, 3]]
def E4 : List (Int × Int) := [(0, 1), (1, 2), (2, 0), (3, 0), (3, 1), (3, 2)]
def A4 : List (List Int) := [[0, 7, 5], [2, 9, 1], [4, 11, 3], [6, 8, 10]]

theorem vRot3 : vRot 3 E3 A3 := by
  refine ⟨by decide, by decide, by decide, rfl, fun i hi => ?_, ?_, ?_, ?_⟩
  · have : i = 0 ∨ i = 1 ∨ i = 2 := by simp [E3] at hi; omega
    rcases this with rfl | rfl | rfl <;> (unfold okEdge; decide +kernel)
  · show ∀ q ∈ pre A3 A3.length, 0 ≤ q.2 ∧ q.2 < 2 * (E3.length : Int) ∧ tailE E3 q.2 = q.1
    decide +kernel
  · decide +kernel
  · decide +kernel
theorem vRot4 : vRot 4 E4 A4 := by
  refine ⟨by decide, by decide, by decide, rfl, fun i hi => ?_, ?_, ?_, ?_⟩
  · have : i = 0 ∨ i = 1 ∨ i = 2 ∨ i = 3 ∨ i = 4 ∨ i = 5 := by simp [E4] at hi; omega
    rcases this with rfl | rfl | rfl | rfl | rfl | rfl <;> (unfold okEdge; decide +kernel)
  · show ∀ q ∈ pre A4 A4.length, 0 ≤ q.2 ∧ q.2 < 2 * (E4.length : Int) ∧ tailE E4 q.2 = q.1
    decide +kernel
  · decide +kernel
  · decide +kernel
theorem v3B : vRotB 3 E3 A3 = true := vRotB_iff.2 vRot3
theorem v4B : vRotB 4 E4 A4 = true := vRotB_iff.2 vRot4
theorem fc3 : facesO 3 E3 A3 = [[0, 2, 4], [1, 5, 3]] := by unfold facesO; rw [if_pos v3B]; decide +kernel
theorem fc4 : (facesO 4 E4 A4).length = 4 ∧ ((facesO 4 E4 A4).all fun l => decide (l.length = 3)) = true := by unfold facesO; rw [if_pos v4B]; decide +kernel
theorem cntP_yes {p : Nat → Prop} {n : Nat} (h : p n) : cntP p (n + 1) = cntP p n + 1 := by simp only [cntP]; rw [if_pos h]
theorem cntP_not {p : Nat → Prop} {n : Nat} (h : ¬ p n) : cntP p (n + 1) = cntP p n := by simp only [cntP]; rw [if_neg h]; rfl
theorem cn3 : cntL E3 A3.length = 1 := by
  refine (one_comp (by decide)).2 fun v hv => ?_
  have : v = 0 ∨ v = 1 ∨ v = 2 := by simp [A3] at hv; omega
  rcases this with rfl | rfl | rfl
  · exact Cn.refl _
  · exact (Cn.refl _).step ⟨0, by decide, Or.inl ⟨rfl, rfl⟩⟩
  · exact (Cn.refl _).step ⟨2, by decide, Or.inr ⟨rfl, rfl⟩⟩
theorem cn4 : cntL E4 A4.length = 1 := by
  refine (one_comp (by decide)).2 fun v hv => ?_
  have : v = 0 ∨ v = 1 ∨ v = 2 ∨ v = 3 := by simp [A4] at hv; omega
  rcases this with rfl | rfl | rfl | rfl
  · exact Cn.refl _
  · exact (Cn.refl _).step ⟨0, by decide, Or.inl ⟨rfl, rfl⟩⟩
  · exact (Cn.refl _).step ⟨2, by decide, Or.inr ⟨rfl, rfl⟩⟩
  · exact (Cn.refl _).step ⟨3, by decide, Or.inr ⟨rfl, rfl⟩⟩
theorem gn3 : genusF 3 E3 A3 = 0 := by
  unfold genusF
  have h2 : cntP (fun u => (rowOf A3 u).length = 0) A3.length = 0 := by
    show cntP _ 3 = 0
    rw [cntP_not (by decide), cntP_not (by decide), cntP_not (by decide)]
    rfl
  rw [if_pos v3B, fc3, cn3, h2]
  decide
theorem gn4 : genusF 4 E4 A4 = 0 := by
  unfold genusF
  have h2 : cntP (fun u => (rowOf A4 u).length = 0) A4.length = 0 := by
    show cntP _ 4 = 0
    rw [cntP_not (by decide), cntP_not (by decide), cntP_not (by decide), cntP_not (by decide)]
    rfl
  rw [if_pos v4B, fc4.1, cn4, h2]
  decide
theorem tg3 : trgB 3 E3 A3 = true := by
  unfold trgB chkC connB
  rw [if_pos gn3, cn3, fc3, show simB E3 = true by decide +kernel]
  decide
theorem tg4 : trgB 4 E4 A4 = true := by
  unfold trgB chkC connB
  rw [if_pos gn4, cn4, fc4.2, show simB E4 = true by decide +kernel]
  decide
theorem tl3 (d : Int) (h0 : 0 ≤ d) (h1 : d < 6) : tailF 3 E3 A3 d = tailE E3 d := by unfold tailF; rw [if_pos ⟨v3B, h0, h1⟩]
theorem tl4 (d : Int) (h0 : 0 ≤ d) (h1 : d < 12) : tailF 4 E4 A4 d = tailE E4 d := by unfold tailF; rw [if_pos ⟨v4B, h0, h1⟩]
theorem nx3 (d : Int) (h0 : 0 ≤ d) (h1 : d < 6) : nextF 3 E3 A3 d = sucF A3 (oth d) := by unfold nextF; rw [if_pos ⟨v3B, h0, h1⟩]
theorem nx4 (d : Int) (h0 : 0 ≤ d) (h1 : d < 12) : nextF 4 E4 A4 d = sucF A4 (oth d) := by unfold nextF; rw [if_pos ⟨v4B, h0, h1⟩]
theorem th3 : thirdF 3 E3 A3 = 2 := by
  unfold thirdF
  rw [nx3 0 (by decide) (by decide), show sucF A3 (oth 0) = 2 by decide +kernel, nx3 2 (by decide) (by decide), show sucF A3 (oth 2) = 4 by decide +kernel, tl3 4 (by decide) (by decide)]
  decide +kernel
theorem th4 : thirdF 4 E4 A4 = 2 := by
  unfold thirdF
  rw [nx4 0 (by decide) (by decide), show sucF A4 (oth 0) = 2 by decide +kernel, nx4 2 (by decide) (by decide), show sucF A4 (oth 2) = 4 by decide +kernel, tl4 4 (by decide) (by decide)]
  decide +kernel
theorem t03 : tailF 3 E3 A3 0 = 0 ∧ tailF 3 E3 A3 1 = 1 := ⟨by rw [tl3 0 (by decide) (by decide)]; decide +kernel, by rw [tl3 1 (by decide) (by decide)]; decide +kernel⟩
theorem t04 : tailF 4 E4 A4 0 = 0 ∧ tailF 4 E4 A4 1 = 1 := ⟨by rw [tl4 0 (by decide) (by decide)]; decide +kernel, by rw [tl4 1 (by decide) (by decide)]; decide +kernel⟩
theorem pl3 : peelF E3 A3 5 (stOut (List.replicate A3.length 0) (peel0 3 E3 A3)) (peel0 3 E3 A3) [] = some [2] := by
  unfold peel0
  rw [t03.1, t03.2, th3]
  decide +kernel
theorem pl4 : peelF E4 A4 5 (stOut (List.replicate A4.length 0) (peel0 4 E4 A4)) (peel0 4 E4 A4) [] = some [2, 3] := by
  unfold peel0
  rw [t04.1, t04.2, th4]
  decide +kernel
theorem hd4 (O : List Int) : headB 4 E4 A4 O = (decide ((O.length : Int) = 4) && decide (ge O 0 = 0) && decide (ge O 1 = 1) && decide (ge O 3 = 2)) := by
  unfold headB
  rw [t04.1, t04.2, th4]
  rfl
theorem ck4 : chkO 4 E4 A4 [0, 1, 3, 2] = true := by
  unfold chkO
  rw [tg4, hd4]
  decide +kernel
theorem ck4n : chkO 4 E4 A4 [0, 1, 2, 3] = false := by
  unfold chkO
  rw [tg4, hd4]
  decide +kernel
theorem ct4 : contRes 4 E4 A4 [0, 1, 3, 2] 3 = ([0, 3, 1], 0) := by
  unfold contRes
  rw [tg4, ck4]
  decide +kernel

/-! ### In memory -/
def prVs (E : List (Int × Int)) : List Value := E.flatMap fun a => [.int .i64 a.1, .int .i64 a.2]
theorem prVs_app (a b : List (Int × Int)) : prVs (a ++ b) = prVs a ++ prVs b := by simp [prVs]
theorem prVs_len (E : List (Int × Int)) : (prVs E).length = E.length * 2 := by
  induction E with
  | nil => rfl
  | cons a E ih => simp only [prVs, List.flatMap_cons, List.length_append] at ih ⊢; simp [ih]; omega
theorem prVs_one (E : List (Int × Int)) : ∀ u ∈ prVs E, u.oneCell' = true := by
  intro u hu
  obtain ⟨a, _, hu⟩ := List.mem_flatMap.1 hu
  simp at hu
  rcases hu with rfl | rfl <;> rfl
theorem prVs_get (E : List (Int × Int)) : ∀ i, i < E.length → (prVs E)[i * 2]? = some (.int .i64 (pr E i).1) ∧ (prVs E)[i * 2 + 1]? = some (.int .i64 (pr E i).2) := by
  induction E with
  | nil => intro i hi; simp at hi
  | cons a E ih =>
    intro i hi
    cases i with
    | zero => exact ⟨rfl, rfl⟩
    | succ i =>
      have := ih i (by simpa using hi)
      have e1 : (i + 1) * 2 = i * 2 + 1 + 1 := by omega
      rw [e1]
      exact this
theorem Prs.made (W : World) (t : TypeId) (E : List (Int × Int)) (cs : Array Value) (b : Nat) (hcs : cs.toList = prVs E) (hb : b = W.heap.size) (hl : E.length ≤ 1000) : Prs (W.alloc (.cells cs t)) (some ⟨b, 0, none⟩) E := by
  subst hb
  refine ⟨by omega, W.heap.size, 0, fun _ => ⟨rfl, by simp⟩, fun i hi => ?_⟩
  obtain ⟨g1, g2⟩ := prVs_get E i hi
  rw [cell?_alloc_if, if_neg (by omega), if_pos rfl, cell?_alloc_if, if_neg (by omega), if_pos rfl, Nat.zero_add, ← Array.getElem?_toList, ← Array.getElem?_toList, hcs]
  exact ⟨g1, g2⟩
def mat3 (w : World) (tE ti ts : TypeId) (cE c1 c2 c3 : Array Value) (b1 b2 b3 n1 n2 n3 : Nat) : World :=
  ((((w.alloc (.cells cE tE)).alloc (.cells c1 ti)).alloc (.cells c2 ti)).alloc (.cells c3 ti)).alloc (.cells #[.slice (some ⟨b1, 0, none⟩) n1 n1, .slice (some ⟨b2, 0, none⟩) n2 n2, .slice (some ⟨b3, 0, none⟩) n3 n3] ts)
theorem mat3_at (w : World) (tE ti ts : TypeId) (cE c1 c2 c3 : Array Value) (b0 b1 b2 b3 b4 n1 n2 n3 : Nat) (E : List (Int × Int)) (r1 r2 r3 : List Int) (h0 : b0 = w.heap.size) (h1 : b1 = w.heap.size + 1) (h2 : b2 = w.heap.size + 2) (h3 : b3 = w.heap.size + 3) (h4 : b4 = w.heap.size + 4)
    (hE : cE.toList = prVs E) (e1 : c1.toList = r1.map (Value.int .i64)) (e2 : c2.toList = r2.map (Value.int .i64)) (e3 : c3.toList = r3.map (Value.int .i64)) (l1 : r1.length = n1) (l2 : r2.length = n2) (l3 : r3.length = n3)
    (hle : E.length ≤ 100) (hl1 : n1 ≤ 100) (hl2 : n2 ≤ 100) (hl3 : n3 ≤ 100) (hb : ∀ r ∈ [r1, r2, r3], ∀ x ∈ r, -9223372036854775808 ≤ x ∧ x ≤ 9223372036854775807) :
    RotAt (mat3 w tE ti ts cE c1 c2 c3 b1 b2 b3 n1 n2 n3) (some ⟨b0, 0, none⟩) (some ⟨b4, 0, none⟩) E [r1, r2, r3] ∧ Grew w (mat3 w tE ti ts cE c1 c2 c3 b1 b2 b3 n1 n2 n3) := by
  subst h0 h1 h2 h3 h4 l1 l2 l3
  have i1 := Ints.made (w.alloc (.cells cE tE)) ti r1 c1 (w.heap.size + 1) e1 (by simp) (by omega) (hb r1 (by simp))
  have i2 := Ints.made ((w.alloc (.cells cE tE)).alloc (.cells c1 ti)) ti r2 c2 (w.heap.size + 2) e2 (by simp) (by omega) (hb r2 (by simp))
  have i3 := Ints.made (((w.alloc (.cells cE tE)).alloc (.cells c1 ti)).alloc (.cells c2 ti)) ti r3 c3 (w.heap.size + 3) e3 (by simp) (by omega) (hb r3 (by simp))
  refine ⟨⟨(Prs.made w tE E cE w.heap.size hE rfl (by omega)).grew (by unfold mat3; (repeat (first | exact Grew.refl _ | refine Grew.over ?_ _ | refine Grew.alloc ?_ _ | refine Grew.drew ?_ | refine Grew.drewN ?_ _))), ?_, hle, by simp, fun v hv => ?_⟩, by unfold mat3; (repeat (first | exact Grew.refl _ | refine Grew.over ?_ _ | refine Grew.alloc ?_ _ | refine Grew.drew ?_ | refine Grew.drewN ?_ _))⟩
  · refine Mat.made _ _ _ _ _ (fun u => if u = 0 then some ⟨w.heap.size + 1, 0, none⟩ else if u = 1 then some ⟨w.heap.size + 2, 0, none⟩ else some ⟨w.heap.size + 3, 0, none⟩) (fun u => if u = 0 then r1.length else if u = 1 then r2.length else r3.length) (by simp) (by simp) (fun u hu => ?_)
    match u, hu with
    | 0, _ => exact ⟨rfl, i1.grew (by (repeat (first | exact Grew.refl _ | refine Grew.over ?_ _ | refine Grew.alloc ?_ _ | refine Grew.drew ?_ | refine Grew.drewN ?_ _)))⟩
    | 1, _ => exact ⟨rfl, i2.grew (by (repeat (first | exact Grew.refl _ | refine Grew.over ?_ _ | refine Grew.alloc ?_ _ | refine Grew.drew ?_ | refine Grew.drewN ?_ _)))⟩
    | 2, _ => exact ⟨rfl, i3.grew (by (repeat (first | exact Grew.refl _ | refine Grew.over ?_ _ | refine Grew.alloc ?_ _ | refine Grew.drew ?_ | refine Grew.drewN ?_ _)))⟩
  · match v, hv with
    | 0, _ => exact hl1
    | 1, _ => exact hl2
    | 2, _ => exact hl3
theorem Tryd.infoRot : (Tryd.prog.info? 25).map (fun i => (i.zero, i.size, i.bytes)) = some (some (.agg #[.int .i64 0, .slice none 0 0, .slice none 0 0]), 3, 56) := by kernel_rfl
theorem ret_rot0 {fn : Func} {R : Ending → World → Prop} {a : Act} {w : World} (h : fn.results = #[.cell 0 25]) {g : Nat} {t : TypeId} {fr : Nat × Nat} {v0 v1 v2 : Value}
    (hp : a.tmps.getD 0 undef = .pointer (some ⟨g, 0, none⟩)) (hg : w.heap[g]? = some (.cells #[v0, v1, v2] t fr)) (hd : a.defers = [])
    (hR : R (.returned (.agg #[v0, v1, v2])) w) : bodyPost Tryd.prog fn R .ret a w := by
  obtain ⟨i0, hi, _, hz1, _⟩ := info_parts Tryd.infoRot
  exact bodyPost_ret (results_cell_row h a.tmps w g t #[v0, v1, v2] fr _ hp hg Tryd.underlying25 rfl (by simp [hi, hz1])) hd hR

def mat4 (w : World) (tE ti ts : TypeId) (cE c1 c2 c3 c4 : Array Value) (b1 b2 b3 b4 n1 n2 n3 n4 : Nat) : World :=
  (((((w.alloc (.cells cE tE)).alloc (.cells c1 ti)).alloc (.cells c2 ti)).alloc (.cells c3 ti)).alloc (.cells c4 ti)).alloc (.cells #[.slice (some ⟨b1, 0, none⟩) n1 n1, .slice (some ⟨b2, 0, none⟩) n2 n2, .slice (some ⟨b3, 0, none⟩) n3 n3, .slice (some ⟨b4, 0, none⟩) n4 n4] ts)
theorem mat4_at (w : World) (tE ti ts : TypeId) (cE c1 c2 c3 c4 : Array Value) (b0 b1 b2 b3 b4 b5 n1 n2 n3 n4 : Nat) (E : List (Int × Int)) (r1 r2 r3 r4 : List Int) (h0 : b0 = w.heap.size) (h1 : b1 = w.heap.size + 1) (h2 : b2 = w.heap.size + 2) (h3 : b3 = w.heap.size + 3) (h4 : b4 = w.heap.size + 4) (h5 : b5 = w.heap.size + 5)
    (hE : cE.toList = prVs E) (e1 : c1.toList = r1.map (Value.int .i64)) (e2 : c2.toList = r2.map (Value.int .i64)) (e3 : c3.toList = r3.map (Value.int .i64)) (e4 : c4.toList = r4.map (Value.int .i64)) (l1 : r1.length = n1) (l2 : r2.length = n2) (l3 : r3.length = n3) (l4 : r4.length = n4)
    (hle : E.length ≤ 100) (hl1 : n1 ≤ 100) (hl2 : n2 ≤ 100) (hl3 : n3 ≤ 100) (hl4 : n4 ≤ 100) (hb : ∀ r ∈ [r1, r2, r3, r4], ∀ x ∈ r, -9223372036854775808 ≤ x ∧ x ≤ 9223372036854775807) :
    RotAt (mat4 w tE ti ts cE c1 c2 c3 c4 b1 b2 b3 b4 n1 n2 n3 n4) (some ⟨b0, 0, none⟩) (some ⟨b5, 0, none⟩) E [r1, r2, r3, r4] ∧ Grew w (mat4 w tE ti ts cE c1 c2 c3 c4 b1 b2 b3 b4 n1 n2 n3 n4) := by
  subst h0 h1 h2 h3 h4 h5 l1 l2 l3 l4
  have i1 := Ints.made (w.alloc (.cells cE tE)) ti r1 c1 (w.heap.size + 1) e1 (by simp) (by omega) (hb r1 (by simp))
  have i2 := Ints.made ((w.alloc (.cells cE tE)).alloc (.cells c1 ti)) ti r2 c2 (w.heap.size + 2) e2 (by simp) (by omega) (hb r2 (by simp))
  have i3 := Ints.made (((w.alloc (.cells cE tE)).alloc (.cells c1 ti)).alloc (.cells c2 ti)) ti r3 c3 (w.heap.size + 3) e3 (by simp) (by omega) (hb r3 (by simp))
  have i4 := Ints.made ((((w.alloc (.cells cE tE)).alloc (.cells c1 ti)).alloc (.cells c2 ti)).alloc (.cells c3 ti)) ti r4 c4 (w.heap.size + 4) e4 (by simp) (by omega) (hb r4 (by simp))
  refine ⟨⟨(Prs.made w tE E cE w.heap.size hE rfl (by omega)).grew (by unfold mat4; (repeat (first | exact Grew.refl _ | refine Grew.over ?_ _ | refine Grew.alloc ?_ _ | refine Grew.drew ?_ | refine Grew.drewN ?_ _))), ?_, hle, by simp, fun v hv => ?_⟩, by unfold mat4; (repeat (first | exact Grew.refl _ | refine Grew.over ?_ _ | refine Grew.alloc ?_ _ | refine Grew.drew ?_ | refine Grew.drewN ?_ _))⟩
  · refine Mat.made _ _ _ _ _ (fun u => if u = 0 then some ⟨w.heap.size + 1, 0, none⟩ else if u = 1 then some ⟨w.heap.size + 2, 0, none⟩ else if u = 2 then some ⟨w.heap.size + 3, 0, none⟩ else some ⟨w.heap.size + 4, 0, none⟩) (fun u => if u = 0 then r1.length else if u = 1 then r2.length else if u = 2 then r3.length else r4.length) (by simp) (by simp) (fun u hu => ?_)
    match u, hu with
    | 0, _ => exact ⟨rfl, i1.grew (by (repeat (first | exact Grew.refl _ | refine Grew.over ?_ _ | refine Grew.alloc ?_ _ | refine Grew.drew ?_ | refine Grew.drewN ?_ _)))⟩
    | 1, _ => exact ⟨rfl, i2.grew (by (repeat (first | exact Grew.refl _ | refine Grew.over ?_ _ | refine Grew.alloc ?_ _ | refine Grew.drew ?_ | refine Grew.drewN ?_ _)))⟩
    | 2, _ => exact ⟨rfl, i3.grew (by (repeat (first | exact Grew.refl _ | refine Grew.over ?_ _ | refine Grew.alloc ?_ _ | refine Grew.drew ?_ | refine Grew.drewN ?_ _)))⟩
    | 3, _ => exact ⟨rfl, i4.grew (by (repeat (first | exact Grew.refl _ | refine Grew.over ?_ _ | refine Grew.alloc ?_ _ | refine Grew.drew ?_ | refine Grew.drewN ?_ _)))⟩
  · match v, hv with
    | 0, _ => exact hl1
    | 1, _ => exact hl2
    | 2, _ => exact hl3
    | 3, _ => exact hl4

set_option maxRecDepth 8000 in
set_option maxHeartbeats 8000000 in
theorem four_l (w : World) : Calls Tryd.prog 18 #[] w fun e w' => (∃ pE pA, e = .returned (.agg #[.int .i64 4, .slice pE 6 6, .slice pA 4 4]) ∧ RotIn w' pE pA 6 E4 A4) ∧ Grew w w' := by
  go_enter Tryd.func18, Tryd.ntmps18
  go_wp2
  obtain ⟨w1, hw1⟩ : ∃ w1, w.alloc (.cells #[.int .i64 4, .slice (some ⟨w.heap.size + 1, 0, none⟩) 6 6, .slice (some ⟨w.heap.size + 1 + 1 + 1 + 1 + 1 + 1, 0, none⟩) 4 4] 25) = w1 := ⟨_, rfl⟩
  have hs1 : w1.heap.size = w.heap.size + 1 := by rw [← hw1]; simp
  obtain ⟨hR, hG⟩ := mat4_at w1 39 3 26 #[.int .i64 0, .int .i64 1, .int .i64 1, .int .i64 2, .int .i64 2, .int .i64 0, .int .i64 3, .int .i64 0, .int .i64 3, .int .i64 1, .int .i64 3, .int .i64 2] #[.int .i64 0, .int .i64 7, .int .i64 5] #[.int .i64 2, .int .i64 9, .int .i64 1] #[.int .i64 4, .int .i64 11, .int .i64 3] #[.int .i64 6, .int .i64 8, .int .i64 10]
    (w.heap.size + 1) (w.heap.size + 1 + 1) (w.heap.size + 1 + 1 + 1) (w.heap.size + 1 + 1 + 1 + 1) (w.heap.size + 1 + 1 + 1 + 1 + 1) (w.heap.size + 1 + 1 + 1 + 1 + 1 + 1) 3 3 3 3 E4 [0, 7, 5] [2, 9, 1] [4, 11, 3] [6, 8, 10]
    (by omega) (by omega) (by omega) (by omega) (by omega) (by omega) rfl rfl rfl rfl rfl rfl rfl rfl rfl (by decide) (by decide) (by decide) (by decide) (by decide) (by decide)
  have hW : Grew w w1 := by rw [← hw1]; (repeat (first | exact Grew.refl _ | refine Grew.over ?_ _ | refine Grew.alloc ?_ _ | refine Grew.drew ?_ | refine Grew.drewN ?_ _))
  have hb : w1.heap[w.heap.size]? = some (.cells #[.int .i64 4, .slice (some ⟨w.heap.size + 1, 0, none⟩) 6 6, .slice (some ⟨w.heap.size + 1 + 1 + 1 + 1 + 1 + 1, 0, none⟩) 4 4] 25) := by rw [← hw1, heap_alloc_if, if_neg (by omega), if_pos rfl]
  have hb2 := (hG.below.block w.heap.size (by omega)).trans hb
  rw [hw1]
  refine ret_rot0 rfl rfl hb2 rfl ⟨⟨_, _, rfl, ⟨hR.aw, by decide, by decide, by decide⟩⟩, hW.trans hG⟩

end Go.Proofs.YtdacnkjmimhcaaaDoor
