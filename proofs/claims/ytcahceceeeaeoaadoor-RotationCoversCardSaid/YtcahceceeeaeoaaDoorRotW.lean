/- The chapter's examples. -/
import Derived.Test.YtcahceceeeaeoaaDoorRotV
import Derived.Test.YtcahceceeeaeoaaDoorRotN
set_option linter.unusedSimpArgs false
set_option linter.unusedVariables false
namespace Go.Proofs.YtcahceceeeaeoaaDoor
open Go.RowKit
attribute [local go_sem ↓] Go.wp_at_zero Go.wp_at_succ

def E0 : List (Int × Int) := [(0, 1), (1, 2), (2, 0)]
def A0 : List (List Int) := [[0, 5], [2, 1], [4, 3]]
def E1 : List (Int × Int) := [(0, 1)]
def A1 : List (List Int) := [[0], [1], []]

theorem vRot0 : vRot 3 E0 A0 := by
  refine ⟨by decide, by decide, by decide, rfl, fun i hi => ?_, ?_, ?_, ?_⟩
  · have : i = 0 ∨ i = 1 ∨ i = 2 := by simp [E0] at hi; omega
    rcases this with rfl | rfl | rfl <;> (unfold okEdge; decide +kernel)
  · show ∀ q ∈ pre A0 A0.length, 0 ≤ q.2 ∧ q.2 < 2 * (E0.length : Int) ∧ tailE E0 q.2 = q.1
    decide +kernel
  · decide +kernel
  · decide +kernel
theorem vRot1 : vRot 3 E1 A1 := by
  refine ⟨by decide, by decide, by decide, rfl, fun i hi => ?_, ?_, ?_, ?_⟩
  · have : i = 0 := by simp [E1] at hi; omega
    subst this
    unfold okEdge
    decide +kernel
  · show ∀ q ∈ pre A1 A1.length, 0 ≤ q.2 ∧ q.2 < 2 * (E1.length : Int) ∧ tailE E1 q.2 = q.1
    decide +kernel
  · decide +kernel
  · decide +kernel
theorem aw_v0 : vRotB 3 E0 A0 = true := vRotB_iff.2 vRot0
theorem aw_v1 : vRotB 3 E1 A1 = true := vRotB_iff.2 vRot1
theorem aw_v2 : vRotB 1 [] [] = false := vRotB_no fun h => by have := h.al; simp at this
theorem aw_tail : tailF 3 E0 A0 3 = 2 := by unfold tailF; rw [if_pos ⟨aw_v0, by decide, by decide⟩]; decide +kernel
theorem aw_next : nextF 3 E0 A0 0 = 2 := by unfold nextF; rw [if_pos ⟨aw_v0, by decide, by decide⟩]; decide +kernel
theorem aw_faces : facesO 3 E0 A0 = [[0, 2, 4], [1, 5, 3]] := by unfold facesO; rw [if_pos aw_v0]; decide +kernel
theorem aw_faces1 : facesO 3 E1 A1 = [[0, 1]] := by unfold facesO; rw [if_pos aw_v1]; decide +kernel
theorem cntP_yes {p : Nat → Prop} {n : Nat} (h : p n) : cntP p (n + 1) = cntP p n + 1 := by simp only [cntP]; rw [if_pos h]
theorem cntP_not {p : Nat → Prop} {n : Nat} (h : ¬ p n) : cntP p (n + 1) = cntP p n := by simp only [cntP]; rw [if_neg h]; rfl
theorem aw_genus : genusF 3 E0 A0 = 0 := by
  unfold genusF
  rw [if_pos aw_v0, aw_faces]
  have h1 : cntL E0 A0.length = 1 := by
    show cntP (fun v : Nat => isL E0 3 v) 3 = 1
    rw [cntP_not, cntP_not, cntP_yes]
    · rfl
    · intro u h0 h1; omega
    · intro h
      exact h 0 (by decide) (by decide) ((Cn.refl _).step ⟨0, by decide, Or.inl ⟨rfl, rfl⟩⟩)
    · intro h
      exact h 0 (by decide) (by decide) ((Cn.refl _).step ⟨2, by decide, Or.inr ⟨rfl, rfl⟩⟩)
  have h2 : cntP (fun u => (rowOf A0 u).length = 0) A0.length = 0 := by
    show cntP _ 3 = 0
    rw [cntP_not (by decide), cntP_not (by decide), cntP_not (by decide)]
    rfl
  rw [h1, h2]
  decide
theorem aw_genus1 : genusF 3 E1 A1 = 0 := by
  unfold genusF
  rw [if_pos aw_v1, aw_faces1]
  have h1 : cntL E1 A1.length = 2 := by
    show cntP (fun v : Nat => isL E1 1 v) 3 = 2
    rw [cntP_yes, cntP_not, cntP_yes]
    · rfl
    · intro u h0 h1; omega
    · intro h
      exact h 0 (by decide) (by decide) ((Cn.refl _).step ⟨0, by decide, Or.inl ⟨rfl, rfl⟩⟩)
    · intro u h0 h1 h
      have e1 : (pr E1 0).1 = 0 := rfl
      have e2 : (pr E1 0).2 = 1 := rfl
      rcases h.split with h | ⟨_, h⟩ | ⟨_, h⟩
      · have := Cn_zero h; omega
      · have := Cn_zero h; rw [e2] at this; omega
      · have := Cn_zero h; rw [e1] at this; omega
  have h2 : cntP (fun u => (rowOf A1 u).length = 0) A1.length = 1 := by
    show cntP _ 3 = 1
    rw [cntP_yes (by decide), cntP_not (by decide), cntP_not (by decide)]
    rfl
  rw [h1, h2]
  decide
theorem aw_del : delF 3 E0 A0 0 = ⟨0, 3, [(1, 2), (2, 0)], [[3], [0], [2, 1]]⟩ := by
  unfold delF
  rw [if_pos aw_v0, if_pos (by decide)]
  congr 1
theorem aw_del3 : delF 3 E0 A0 3 = ⟨3, 0, [], []⟩ := by
  unfold delF
  rw [if_pos aw_v0, if_neg (by decide)]

/-! ### The examples in memory -/
theorem Prs.made (W : World) (t : TypeId) (E : List (Int × Int)) (cs : Array Value) (b : Nat) (hcs : cs.toList = prVs E) (hb : b = W.heap.size) (hl : E.length ≤ 1000) : Prs (W.alloc (.cells cs t)) (some ⟨b, 0, none⟩) E := by
  subst hb
  refine ⟨by omega, W.heap.size, 0, fun _ => ⟨rfl, by simp⟩, fun i hi => ?_⟩
  obtain ⟨g1, g2⟩ := prVs_get E i hi
  rw [cell?_alloc_if, if_neg (by omega), if_pos rfl, cell?_alloc_if, if_neg (by omega), if_pos rfl, Nat.zero_add, ← Array.getElem?_toList, ← Array.getElem?_toList, hcs]
  exact ⟨g1, g2⟩
def mat3 (w : World) (tE ti ts : TypeId) (cE c1 c2 c3 : Array Value) (b1 b2 b3 n1 n2 n3 : Nat) : World :=
  ((((w.alloc (.cells cE tE)).alloc (.cells c1 ti)).alloc (.cells c2 ti)).alloc (.cells c3 ti)).alloc (.cells #[.slice (some ⟨b1, 0, none⟩) n1 n1, .slice (some ⟨b2, 0, none⟩) n2 n2, .slice (some ⟨b3, 0, none⟩) n3 n3] ts)
theorem mat3_at (w : World) (tE ti ts : TypeId) (cE c1 c2 c3 : Array Value) (b0 b1 b2 b3 b4 n1 n2 n3 : Nat) (E : List (Int × Int)) (r1 r2 r3 : List Int) (h0 : b0 = w.heap.size) (h1 : b1 = w.heap.size + 1) (h2 : b2 = w.heap.size + 2) (h3 : b3 = w.heap.size + 3) (h4 : b4 = w.heap.size + 4)
    (hE : cE.toList = prVs E) (e1 : c1.toList = r1.map (Value.int .i64)) (e2 : c2.toList = r2.map (Value.int .i64)) (e3 : c3.toList = r3.map (Value.int .i64)) (l1 : r1.length = n1) (l2 : r2.length = n2) (l3 : r3.length = n3)
    (hle : E.length ≤ 100) (hl1 : n1 ≤ 100) (hl2 : n2 ≤ 100) (hl3 : n3 ≤ 100) (hb : ∀ r ∈ [r1, r2, r3], ∀ x ∈ r, -9223372036854775808 ≤ x ∧ x ≤ 9223372036854775807) :
    RotAt (mat3 w tE ti ts cE c1 c2 c3 b1 b2 b3 n1 n2 n3) (some ⟨b0, 0, none⟩) (some ⟨b4, 0, none⟩) E [r1, r2, r3] ∧ Grew w (mat3 w tE ti ts cE c1 c2 c3 b1 b2 b3 n1 n2 n3) := by
  subst h0 h1 h2 h3 h4 l1 l2 l3
  have i1 := Ints.made (w.alloc (.cells cE tE)) ti r1 c1 (w.heap.size + 1) e1 (by simp) (by omega) (hb r1 (by simp))
  have i2 := Ints.made ((w.alloc (.cells cE tE)).alloc (.cells c1 ti)) ti r2 c2 (w.heap.size + 2) e2 (by simp) (by omega) (hb r2 (by simp))
  have i3 := Ints.made (((w.alloc (.cells cE tE)).alloc (.cells c1 ti)).alloc (.cells c2 ti)) ti r3 c3 (w.heap.size + 3) e3 (by simp) (by omega) (hb r3 (by simp))
  refine ⟨⟨(Prs.made w tE E cE w.heap.size hE rfl (by omega)).grew (by unfold mat3; (repeat (first | exact Grew.refl _ | refine Grew.over ?_ _ | refine Grew.alloc ?_ _ | refine Grew.drew ?_ | refine Grew.drewN ?_ _))), ?_, hle, by simp, fun v hv => ?_⟩, by unfold mat3; (repeat (first | exact Grew.refl _ | refine Grew.over ?_ _ | refine Grew.alloc ?_ _ | refine Grew.drew ?_ | refine Grew.drewN ?_ _))⟩
  · refine Mat.made _ _ _ _ _ (fun u => if u = 0 then some ⟨w.heap.size + 1, 0, none⟩ else if u = 1 then some ⟨w.heap.size + 2, 0, none⟩ else some ⟨w.heap.size + 3, 0, none⟩) (fun u => if u = 0 then r1.length else if u = 1 then r2.length else r3.length) (by simp) (by simp) (fun u hu => ?_)
    match u, hu with
    | 0, _ => exact ⟨rfl, i1.grew (by (repeat (first | exact Grew.refl _ | refine Grew.over ?_ _ | refine Grew.alloc ?_ _ | refine Grew.drew ?_ | refine Grew.drewN ?_ _)))⟩
    | 1, _ => exact ⟨rfl, i2.grew (by (repeat (first | exact Grew.refl _ | refine Grew.over ?_ _ | refine Grew.alloc ?_ _ | refine Grew.drew ?_ | refine Grew.drewN ?_ _)))⟩
    | 2, _ => exact ⟨rfl, i3.grew (by (repeat (first | exact Grew.refl _ | refine Grew.over ?_ _ | refine Grew.alloc ?_ _ | refine Grew.drew ?_ | refine Grew.drewN ?_ _)))⟩
  · match v, hv with
    | 0, _ => exact hl1
    | 1, _ => exact hl2
    | 2, _ => exact hl3

theorem delete_pe {N : Int} {pE pA : Option Addr} {nE nA cE cA : Nat} {E : List (Int × Int)} {A : List (List Int)} {e : Int} {w : World} {D : Del} (h : delF N E A e = D) (hR : RotAt w pE pA E A) (hL : Lim w) (hnE : E.length = nE) (hnA : A.length = nA) :
    Calls Tryd.prog 21 #[.agg #[.int .i64 N, .slice pE nE cE, .slice pA nA cA], .int .i64 e] w (RotPost D w) := h ▸ delete_p N pE pA nE nA cE cA E A e w hR hL hnE hnA
theorem tail_pe {N : Int} {pE pA : Option Addr} {nE nA cE cA : Nat} {E : List (Int × Int)} {A : List (List Int)} {d x : Int} {w : World} (h : tailF N E A d = x) (hR : RotAt w pE pA E A) (hL : Lim w) (hnE : E.length = nE) (hnA : A.length = nA) :
    Calls Tryd.prog 17 #[.agg #[.int .i64 N, .slice pE nE cE, .slice pA nA cA], .int .i64 d] w fun e w' => e = .returned (.int .i64 x) ∧ Grew w w' := h ▸ tailp_l N pE pA nE nA cE cA E A d w hR hL hnE hnA
theorem next_pe {N : Int} {pE pA : Option Addr} {nE nA cE cA : Nat} {E : List (Int × Int)} {A : List (List Int)} {d x : Int} {w : World} (h : nextF N E A d = x) (hR : RotAt w pE pA E A) (hL : Lim w) (hnE : E.length = nE) (hnA : A.length = nA) :
    Calls Tryd.prog 19 #[.agg #[.int .i64 N, .slice pE nE cE, .slice pA nA cA], .int .i64 d] w fun e w' => e = .returned (.int .i64 x) ∧ Grew w w' := h ▸ nextp_l N pE pA nE nA cE cA E A d w hR hL hnE hnA
theorem faces_pe {N : Int} {pE pA : Option Addr} {nE nA cE cA : Nat} {E : List (Int × Int)} {A : List (List Int)} {w : World} {fs : List (List Int)} (h : facesO N E A = fs) (hR : RotAt w pE pA E A) (hL : Lim w) (hnE : E.length = nE) (hnA : A.length = nA) :
    Calls Tryd.prog 13 #[.agg #[.int .i64 N, .slice pE nE cE, .slice pA nA cA]] w (FacesPost fs w) := h ▸ faces_p N pE pA nE nA cE cA E A w hR hL hnE hnA
theorem genus_pe {N : Int} {pE pA : Option Addr} {nE nA cE cA : Nat} {E : List (Int × Int)} {A : List (List Int)} {w : World} {x : Int} (h : genusF N E A = x) (hR : RotAt w pE pA E A) (hL : Lim w) (hnE : E.length = nE) (hnA : A.length = nA) :
    Calls Tryd.prog 15 #[.agg #[.int .i64 N, .slice pE nE cE, .slice pA nA cA]] w fun e w' => e = .returned (.int .i64 x) ∧ Grew w w' := h ▸ genus_p N pE pA nE nA cE cA E A w hR hL hnE hnA
theorem no_rot (w : World) : RotAt w none none [] [] := ⟨⟨by simp, 0, 0, fun h => by simp at h, fun i hi => by simp at hi⟩, Mat.nil _ _, by simp, by simp, fun v hv => by simp at hv⟩
theorem mat2_made (W : World) (ti t : TypeId) (c1 c2 : Array Value) (r1 r2 : List Int) (b b1 b2 : Nat) (n1 n2 : Nat) (h1 : b1 = W.heap.size) (h2 : b2 = W.heap.size + 1) (hb : b = W.heap.size + 1 + 1) (e1 : c1.toList = r1.map (Value.int .i64)) (e2 : c2.toList = r2.map (Value.int .i64)) (l1 : r1.length = n1) (l2 : r2.length = n2)
    (k1 : n1 ≤ 1000) (k2 : n2 ≤ 1000) (hx : ∀ r ∈ [r1, r2], ∀ x ∈ r, -9223372036854775808 ≤ x ∧ x ≤ 9223372036854775807) :
    Mat (((W.alloc (.cells c1 ti)).alloc (.cells c2 ti)).alloc (.cells #[.slice (some ⟨b1, 0, none⟩) n1 n1, .slice (some ⟨b2, 0, none⟩) n2 n2] t)) (some ⟨b, 0, none⟩) [r1, r2] := by
  subst l1 l2 h1 h2
  have i1 := Ints.made W ti r1 c1 W.heap.size e1 rfl k1 (hx r1 (by simp))
  have i2 := Ints.made (W.alloc (.cells c1 ti)) ti r2 c2 (W.heap.size + 1) e2 (by simp) k2 (hx r2 (by simp))
  refine Mat.made _ _ _ _ _ (fun u => if u = 0 then some ⟨W.heap.size, 0, none⟩ else some ⟨W.heap.size + 1, 0, none⟩) (fun u => if u = 0 then r1.length else r2.length) (by simp [hb]) (by simp) (fun u hu => ?_)
  match u, hu with
  | 0, _ => exact ⟨rfl, i1.grew (by (repeat (first | exact Grew.refl _ | refine Grew.over ?_ _ | refine Grew.alloc ?_ _ | refine Grew.drew ?_ | refine Grew.drewN ?_ _)))⟩
  | 1, _ => exact ⟨rfl, i2⟩

set_option maxRecDepth 8000 in
set_option maxHeartbeats 8000000 in
theorem awake_l (w : World) (hL : Lim w) : Calls Tryd.prog 9 #[] w fun e w' => e = .returned (.bool true) ∧ Grew w w' := by
  have HL := Lib.hid hL
  clear hL
  go_enter Tryd.func9, Tryd.ntmps9
  go_upto_region 3 with fail
  obtain ⟨hR0, hG0⟩ := mat3_at w 41 3 38 #[.int .i64 0, .int .i64 1, .int .i64 1, .int .i64 2, .int .i64 2, .int .i64 0] #[.int .i64 0, .int .i64 5] #[.int .i64 2, .int .i64 1] #[.int .i64 4, .int .i64 3] w.heap.size (w.heap.size + 1) (w.heap.size + 1 + 1) (w.heap.size + 1 + 1 + 1) (w.heap.size + 1 + 1 + 1 + 1) 2 2 2 E0 [0, 5] [2, 1] [4, 3]
    rfl rfl rfl rfl rfl rfl rfl rfl rfl rfl rfl rfl (by decide) (by decide) (by decide) (by decide) (by decide)
  obtain ⟨W1, hW1⟩ : ∃ W1, (mat3 w 41 3 38 #[.int .i64 0, .int .i64 1, .int .i64 1, .int .i64 2, .int .i64 2, .int .i64 0] #[.int .i64 0, .int .i64 5] #[.int .i64 2, .int .i64 1] #[.int .i64 4, .int .i64 3] (w.heap.size + 1) (w.heap.size + 1 + 1) (w.heap.size + 1 + 1 + 1) 2 2 2).alloc (.cells #[.int .i64 3, .slice (some ⟨w.heap.size, 0, none⟩) 3 3, .slice (some ⟨w.heap.size + 1 + 1 + 1 + 1, 0, none⟩) 3 3] 25) = W1 := ⟨_, rfl⟩
  have hs1 : W1.heap.size = w.heap.size + 6 := by rw [← hW1]; simp [mat3]
  obtain ⟨hR1, hG1⟩ := mat3_at W1 41 3 38 #[.int .i64 0, .int .i64 1] #[.int .i64 0] #[.int .i64 1] #[] (w.heap.size + 1 + 1 + 1 + 1 + 1 + 1) (w.heap.size + 1 + 1 + 1 + 1 + 1 + 1 + 1) (w.heap.size + 1 + 1 + 1 + 1 + 1 + 1 + 1 + 1) (w.heap.size + 1 + 1 + 1 + 1 + 1 + 1 + 1 + 1 + 1) (w.heap.size + 1 + 1 + 1 + 1 + 1 + 1 + 1 + 1 + 1 + 1) 1 1 0 E1 [0] [1] []
    (by omega) (by omega) (by omega) (by omega) (by omega) rfl rfl rfl rfl rfl rfl rfl (by decide) (by decide) (by decide) (by decide) (by decide)
  obtain ⟨W2, hW2⟩ : ∃ W2, (mat3 W1 41 3 38 #[.int .i64 0, .int .i64 1] #[.int .i64 0] #[.int .i64 1] #[] (w.heap.size + 1 + 1 + 1 + 1 + 1 + 1 + 1) (w.heap.size + 1 + 1 + 1 + 1 + 1 + 1 + 1 + 1) (w.heap.size + 1 + 1 + 1 + 1 + 1 + 1 + 1 + 1 + 1) 1 1 0).alloc (.cells #[.int .i64 3, .slice (some ⟨w.heap.size + 1 + 1 + 1 + 1 + 1 + 1, 0, none⟩) 1 1, .slice (some ⟨w.heap.size + 1 + 1 + 1 + 1 + 1 + 1 + 1 + 1 + 1 + 1, 0, none⟩) 3 3] 25) = W2 := ⟨_, rfl⟩
  have hs2 : W2.heap.size = w.heap.size + 12 := by rw [← hW2]; simp [mat3, hs1]
  have hg12 : Grew W1 W2 := by rw [← hW2]; exact hG1.alloc _
  have HR0 : Hid (RotAt W2 (some ⟨w.heap.size, 0, none⟩) (some ⟨w.heap.size + 1 + 1 + 1 + 1, 0, none⟩) E0 A0) := Lib.hid ((hR0.grew ((Grew.refl _).alloc _)).grew (by rw [hW1]; exact hg12))
  have HR1 : Hid (RotAt W2 (some ⟨w.heap.size + 1 + 1 + 1 + 1 + 1 + 1, 0, none⟩) (some ⟨w.heap.size + 1 + 1 + 1 + 1 + 1 + 1 + 1 + 1 + 1 + 1, 0, none⟩) E1 A1) := Lib.hid (hR1.grew (by rw [← hW2]; exact (Grew.refl _).alloc _))
  have HG : Hid (Grew w W2) := Lib.hid (Grew.trans (by rw [← hW1]; exact hG0.alloc _) hg12)
  have HL2 : Hid (Lim W2) := Lib.hid (HL.out.grew HG.out)
  have a0 : W1.cell? ⟨w.heap.size + 1 + 1 + 1 + 1 + 1, 0, none⟩ = some (.int .i64 3) := by rw [← hW1, cell?_alloc_if]; simp [mat3]
  have a1 : W1.cell? ⟨w.heap.size + 1 + 1 + 1 + 1 + 1, 1, none⟩ = some (.slice (some ⟨w.heap.size, 0, none⟩) 3 3) := by rw [← hW1, cell?_alloc_if]; simp [mat3]
  have a2 : W1.cell? ⟨w.heap.size + 1 + 1 + 1 + 1 + 1, 2, none⟩ = some (.slice (some ⟨w.heap.size + 1 + 1 + 1 + 1, 0, none⟩) 3 3) := by rw [← hW1, cell?_alloc_if]; simp [mat3]
  have b0 : W2.cell? ⟨w.heap.size + 1 + 1 + 1 + 1 + 1, 0, none⟩ = some (.int .i64 3) := hg12.cellEq a0
  have b1 : W2.cell? ⟨w.heap.size + 1 + 1 + 1 + 1 + 1, 1, none⟩ = some (.slice (some ⟨w.heap.size, 0, none⟩) 3 3) := hg12.cellEq a1
  have b2 : W2.cell? ⟨w.heap.size + 1 + 1 + 1 + 1 + 1, 2, none⟩ = some (.slice (some ⟨w.heap.size + 1 + 1 + 1 + 1, 0, none⟩) 3 3) := hg12.cellEq a2
  have b3 : W2.cell? ⟨w.heap.size + 1 + 1 + 1 + 1 + 1 + 1 + 1 + 1 + 1 + 1 + 1, 0, none⟩ = some (.int .i64 3) := by rw [← hW2, cell?_alloc_if]; simp [mat3, hs1]
  have b4 : W2.cell? ⟨w.heap.size + 1 + 1 + 1 + 1 + 1 + 1 + 1 + 1 + 1 + 1 + 1, 1, none⟩ = some (.slice (some ⟨w.heap.size + 1 + 1 + 1 + 1 + 1 + 1, 0, none⟩) 1 1) := by rw [← hW2, cell?_alloc_if]; simp [mat3, hs1]
  have b5 : W2.cell? ⟨w.heap.size + 1 + 1 + 1 + 1 + 1 + 1 + 1 + 1 + 1 + 1 + 1, 2, none⟩ = some (.slice (some ⟨w.heap.size + 1 + 1 + 1 + 1 + 1 + 1 + 1 + 1 + 1 + 1, 0, none⟩) 3 3) := by rw [← hW2, cell?_alloc_if]; simp [mat3, hs1]
  generalize hWW : World.alloc _ _ = W3
  have hW3 : W3 = W2 := hWW.symm.trans (by rw [← hW2, ← hW1]; rfl)
  subst hW3
  clear a0 a1 a2 hR0 hG0 hR1 hG1 hg12 hWW hW2 hW1
  clear hs1 W1
  go_wp2_with (first
    | (go_at_call 21; apply Calls.mono; (with_reducible exact delete_pe aw_del HR0.out HL2.out rfl rfl); rintro e w' ⟨⟨x1, rfl⟩, pD, qD, cD, dD, rfl, _, _⟩)
    | (go_at_call 21; apply Calls.mono; (with_reducible exact delete_pe aw_del3 (HR0.out.grew (by (repeat (first | exact Grew.refl _ | refine Grew.over ?_ _ | refine Grew.alloc ?_ _ | refine Grew.drew ?_ | refine Grew.drewN ?_ _)))) (HL2.out.grew (by (repeat (first | exact Grew.refl _ | refine Grew.over ?_ _ | refine Grew.alloc ?_ _ | refine Grew.drew ?_ | refine Grew.drewN ?_ _)))) rfl rfl); rintro e w' ⟨⟨x2, rfl⟩, pF, qF, cF, dF, rfl, _, _⟩)
    | (go_at_call 10; apply Calls.mono; (with_reducible exact valid_pe aw_v0 (HR0.out.grew (by (repeat (first | exact Grew.refl _ | refine Grew.over ?_ _ | refine Grew.alloc ?_ _ | refine Grew.drew ?_ | refine Grew.drewN ?_ _)))) (HL2.out.grew (by (repeat (first | exact Grew.refl _ | refine Grew.over ?_ _ | refine Grew.alloc ?_ _ | refine Grew.drew ?_ | refine Grew.drewN ?_ _)))) rfl rfl); rintro e w' ⟨rfl, x3, rfl⟩)
    | (go_at_call 10; apply Calls.mono; (with_reducible exact valid_pe aw_v2 (no_rot _) (HL2.out.grew (by (repeat (first | exact Grew.refl _ | refine Grew.over ?_ _ | refine Grew.alloc ?_ _ | refine Grew.drew ?_ | refine Grew.drewN ?_ _)))) rfl rfl); rintro e w' ⟨rfl, x4, rfl⟩)
    | (go_at_call 17; apply Calls.mono; (with_reducible exact tail_pe aw_tail (HR0.out.grew (by (repeat (first | exact Grew.refl _ | refine Grew.over ?_ _ | refine Grew.alloc ?_ _ | refine Grew.drew ?_ | refine Grew.drewN ?_ _)))) (HL2.out.grew (by (repeat (first | exact Grew.refl _ | refine Grew.over ?_ _ | refine Grew.alloc ?_ _ | refine Grew.drew ?_ | refine Grew.drewN ?_ _)))) rfl rfl); rintro e w' ⟨rfl, x5, rfl⟩)
    | (go_at_call 19; apply Calls.mono; (with_reducible exact next_pe aw_next (HR0.out.grew (by (repeat (first | exact Grew.refl _ | refine Grew.over ?_ _ | refine Grew.alloc ?_ _ | refine Grew.drew ?_ | refine Grew.drewN ?_ _)))) (HL2.out.grew (by (repeat (first | exact Grew.refl _ | refine Grew.over ?_ _ | refine Grew.alloc ?_ _ | refine Grew.drew ?_ | refine Grew.drewN ?_ _)))) rfl rfl); rintro e w' ⟨rfl, x6, rfl⟩)
    | (go_at_call 13; apply Calls.mono; (with_reducible exact faces_pe aw_faces (HR0.out.grew (by (repeat (first | exact Grew.refl _ | refine Grew.over ?_ _ | refine Grew.alloc ?_ _ | refine Grew.drew ?_ | refine Grew.drewN ?_ _)))) (HL2.out.grew (by (repeat (first | exact Grew.refl _ | refine Grew.over ?_ _ | refine Grew.alloc ?_ _ | refine Grew.drew ?_ | refine Grew.drewN ?_ _)))) rfl rfl); rintro e w' ⟨⟨x7, rfl⟩, pA, cA, rfl, hA⟩)
    | (go_at_call 15; apply Calls.mono; (with_reducible exact genus_pe aw_genus (HR0.out.grew (by (repeat (first | exact Grew.refl _ | refine Grew.over ?_ _ | refine Grew.alloc ?_ _ | refine Grew.drew ?_ | refine Grew.drewN ?_ _)))) (HL2.out.grew (by (repeat (first | exact Grew.refl _ | refine Grew.over ?_ _ | refine Grew.alloc ?_ _ | refine Grew.drew ?_ | refine Grew.drewN ?_ _)))) rfl rfl); rintro e w' ⟨rfl, x8, rfl⟩)
    | (go_at_call 15; apply Calls.mono; (with_reducible exact genus_pe aw_genus1 (HR1.out.grew (by (repeat (first | exact Grew.refl _ | refine Grew.over ?_ _ | refine Grew.alloc ?_ _ | refine Grew.drew ?_ | refine Grew.drewN ?_ _)))) (HL2.out.grew (by (repeat (first | exact Grew.refl _ | refine Grew.over ?_ _ | refine Grew.alloc ?_ _ | refine Grew.drew ?_ | refine Grew.drewN ?_ _)))) rfl rfl); rintro e w' ⟨rfl, x9, rfl⟩)
    | (go_at_call 12; apply Calls.mono; (with_reducible exact lists_e _ _ _ _ _ _ [[0, 2, 4], [1, 5, 3]] [[0, 2, 4], [1, 5, 3]] _ rfl (hA.grew (by (repeat (first | exact Grew.refl _ | refine Grew.over ?_ _ | refine Grew.alloc ?_ _ | refine Grew.drew ?_ | refine Grew.drewN ?_ _)))) (mat2_made _ _ _ _ _ [0, 2, 4] [1, 5, 3] _ _ _ 3 3 (by first | rfl | omega | (simp <;> omega)) (by first | rfl | omega | (simp <;> omega)) (by first | rfl | omega | (simp <;> omega)) rfl rfl rfl rfl (by decide) (by decide) (by decide)) rfl rfl); rintro e w' ⟨rfl, x10, rfl⟩))
  go_ret
  exact ⟨rfl, HG.out.trans (by (repeat (first | exact Grew.refl _ | refine Grew.over ?_ _ | refine Grew.alloc ?_ _ | refine Grew.drew ?_ | refine Grew.drewN ?_ _)))⟩
end Go.Proofs.YtcahceceeeaeoaaDoor
