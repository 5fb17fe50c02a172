/- Joined by a program from the texts Awk Law PlnM Laid. -/
import Derived.Test.YtlealdicoceekaaDoorRPi
import Derived.LaidLaws
import Derived.Lib.LaidTab
import Derived.SevenTiedAt
/- The chapter's example: awake. -/
set_option linter.unusedSimpArgs false
set_option linter.unusedVariables false
namespace Go.Proofs.YtlealdicoceekaaDoor
open Go.RowKit
attribute [local go_sem ↓] Go.wp_at_zero Go.wp_at_succ

def E4 : List (Int × Int) := [(0, 1), (0, 2), (0, 3), (1, 2), (2, 3), (3, 1)]
def A4 : List (List Int) := [[0, 2, 4], [1, 11, 6], [3, 7, 8], [5, 9, 10]]
def L4 : List Int := [-1, -1, -1, 0, -1, -1, -1, 1, 2, -1, -1, -1]
theorem vRot4 : vRot 4 E4 A4 := by
  refine ⟨by decide, by decide, by decide, rfl, fun i hi => ?_, ?_, ?_, ?_⟩
  · have : i = 0 ∨ i = 1 ∨ i = 2 ∨ i = 3 ∨ i = 4 ∨ i = 5 := by simp [E4] at hi; omega
    rcases this with rfl | rfl | rfl | rfl | rfl | rfl <;> (unfold okEdge; decide +kernel)
  · show ∀ q ∈ pre A4 A4.length, 0 ≤ q.2 ∧ q.2 < 2 * (E4.length : Int) ∧ tailE E4 q.2 = q.1
    decide +kernel
  · decide +kernel
  · decide +kernel
theorem v4B : vRotB 4 E4 A4 = true := vRotB_iff.2 vRot4
theorem fc4 : facesO 4 E4 A4 = [[0, 11, 5], [1, 2, 7], [3, 4, 9], [6, 8, 10]] := by unfold facesO; rw [if_pos v4B]; decide +kernel
theorem cntP_not {p : Nat → Prop} {n : Nat} (h : ¬ p n) : cntP p (n + 1) = cntP p n := by simp only [cntP]; rw [if_neg h]; rfl
theorem cn4 : cntL E4 A4.length = 1 := by
  refine (one_comp (by decide)).2 fun v hv => ?_
  have : v = 0 ∨ v = 1 ∨ v = 2 ∨ v = 3 := by simp [A4] at hv; omega
  rcases this with rfl | rfl | rfl | rfl
  · exact Cn.refl _
  · exact (Cn.refl _).step ⟨0, by decide, Or.inl ⟨rfl, rfl⟩⟩
  · exact (Cn.refl _).step ⟨1, by decide, Or.inl ⟨rfl, rfl⟩⟩
  · exact (Cn.refl _).step ⟨2, by decide, Or.inl ⟨rfl, rfl⟩⟩
theorem gn4 : genusF 4 E4 A4 = 0 := by
  unfold genusF
  have h2 : cntP (fun u => (rowOf A4 u).length = 0) A4.length = 0 := by
    show cntP _ 4 = 0
    rw [cntP_not (by decide), cntP_not (by decide), cntP_not (by decide), cntP_not (by decide)]
    rfl
  rw [if_pos v4B, fc4, cn4, h2]
  decide
theorem tg4 : trgB 4 E4 A4 = true := by
  unfold trgB chkC connB
  rw [if_pos gn4, cn4, fc4, show simB E4 = true by decide +kernel]
  decide
theorem tl4 (d : Int) (h0 : 0 ≤ d) (h1 : d < 12) : tailF 4 E4 A4 d = tailE E4 d := by unfold tailF; rw [if_pos ⟨v4B, h0, h1⟩]
theorem nx4 (d : Int) (h0 : 0 ≤ d) (h1 : d < 12) : nextF 4 E4 A4 d = sucF A4 (oth d) := by unfold nextF; rw [if_pos ⟨v4B, h0, h1⟩]
theorem th4 : thirdF 4 E4 A4 = 3 := by
  unfold thirdF
  rw [nx4 0 (by decide) (by decide), show sucF A4 (oth 0) = 11 by decide +kernel, nx4 11 (by decide) (by decide), show sucF A4 (oth 11) = 5 by decide +kernel, tl4 5 (by decide) (by decide)]
  decide +kernel
theorem t04 : tailF 4 E4 A4 0 = 0 ∧ tailF 4 E4 A4 1 = 1 := ⟨by rw [tl4 0 (by decide) (by decide)]; decide +kernel, by rw [tl4 1 (by decide) (by decide)]; decide +kernel⟩
theorem hd4 (O : List Int) : headB 4 E4 A4 O = (decide ((O.length : Int) = 4) && decide (ge O 0 = 0) && decide (ge O 1 = 1) && decide (ge O 3 = 3)) := by
  unfold headB
  rw [t04.1, t04.2, th4]
  rfl
theorem ck4 : chkO 4 E4 A4 [0, 1, 2, 3] = true := by
  unfold chkO
  rw [tg4, hd4]
  decide +kernel
theorem ck4n : chkO 4 E4 A4 [0, 1, 3, 2] = false := by
  unfold chkO
  rw [tg4, hd4]
  decide +kernel
theorem bu4 : buildRes 4 E4 A4 [0, 1, 2, 3] = (L4, 0) := by
  unfold buildRes
  rw [tg4, ck4]
  decide +kernel
theorem bu4n : buildRes 4 E4 A4 [0, 1, 3, 2] = ([], 1) := by
  unfold buildRes
  rw [tg4, ck4n]
  decide +kernel
theorem ft4 : fitB E4 A4 L4 = true := by decide +kernel
theorem pa4 : parRes 4 E4 A4 L4 2 = ([-1, -1, 3, -1], 0) := by
  unfold parRes
  rw [tg4, ft4]
  decide +kernel
open Classical in
theorem reg_one {R : Int → Int → Prop} {F : Nat} {a : Nat} (h : ∀ f g, ¬ R f g) (ha : a < F) : regN R F a = 1 := by
  have hr : ∀ f, Rc R a f ↔ f = a := fun f => ⟨fun k => by
    cases k with
    | refl => rfl
    | step _ k => exact absurd k (h _ _), fun e => by rw [e]; exact Rc.refl⟩
  unfold regN
  have : (idL F).filter (fun f => decide (Rc R a f)) = [(a : Int)] := by
    refine list_one ((idL_nodup F).sublist List.filter_sublist) (List.mem_filter.2 ⟨mem_idL.2 ⟨by omega, by omega⟩, by simpa using Rc.refl⟩) fun x hx => ?_
    exact (hr x).1 (of_decide_eq_true (List.mem_filter.1 hx).2)
  rw [this]
  rfl
theorem rf4 (d : Nat) (hd : d < 12) : regF 4 E4 A4 L4 2 (d : Int) = 1 := by
  unfold regF
  obtain ⟨h0, h1, h2⟩ := face_range vRot4 (d := d) hd
  rw [Int.toNat_natCast]
  obtain ⟨a, ha⟩ : ∃ a : Nat, ge (faceL 4 E4 A4) d = (a : Int) := ⟨(ge (faceL 4 E4 A4) d).toNat, by omega⟩
  rw [ha] at h1 ⊢
  refine reg_one (fun f g ⟨e, he, _, hw, _⟩ => hw ?_) (by omega)
  have key : ∀ e : Nat, e < 12 → ((e : Int) / 2) ∈ wallF E4 A4 L4 2 := by decide +kernel
  exact key e he
theorem dr4 : drawRes 4 E4 A4 L4 = ([(0, 0), (3, 0), (1, 1), (0, 3)], 0) := by
  unfold drawRes drawL
  rw [tg4, ft4, if_neg (by decide), if_neg (by decide)]
  have hr : rts E4 A4 = [0, 1, 3] := by decide +kernel
  have h2 : ptF 4 E4 A4 L4 2 = (1, 1) := by
    unfold ptF
    rw [hr, if_neg (by decide), show oth (nxF A4 (nxF A4 0)) = ((4 : Nat) : Int) by decide +kernel, rf4 4 (by decide), show (1 : Int) = ((1 : Nat) : Int) from rfl, rf4 1 (by decide)]
  show ([ptF 4 E4 A4 L4 0, ptF 4 E4 A4 L4 1, ptF 4 E4 A4 L4 2, ptF 4 E4 A4 L4 3], (0 : Int)) = _
  rw [h2]
  unfold ptF
  rw [hr]
  decide
theorem ac4 : trgB 4 E4 A4 = true → fitB E4 A4 L4 = true → Acy E4 A4 L4 := fun h1 h2 => sch_acy h1 (fit_sch h1 h2)

/-! ### In memory -/
theorem Prs.made (W : World) (t : TypeId) (E : List (Int × Int)) (cs : Array Value) (b : Nat) (hcs : cs.toList = prVs E) (hb : b = W.heap.size) (hl : E.length ≤ 1000) : Prs (W.alloc (.cells cs t)) (some ⟨b, 0, none⟩) E := by
  subst hb
  refine ⟨by omega, W.heap.size, 0, fun _ => ⟨rfl, by simp⟩, fun i hi => ?_⟩
  obtain ⟨g1, g2⟩ := prVs_get E i hi
  rw [cell?_alloc_if, if_neg (by omega), if_pos rfl, cell?_alloc_if, if_neg (by omega), if_pos rfl, Nat.zero_add, ← Array.getElem?_toList, ← Array.getElem?_toList, hcs]
  exact ⟨g1, g2⟩
theorem Tryd.infoRot : (Tryd.prog.info? 25).map (fun i => (i.zero, i.size, i.bytes)) = some (some (.agg #[.int .i64 0, .slice none 0 0, .slice none 0 0]), 3, 56) := by kernel_rfl
theorem ret_rot0 {fn : Func} {R : Ending → World → Prop} {a : Act} {w : World} (h : fn.results = #[.cell 0 25]) {g : Nat} {t : TypeId} {fr : Nat × Nat} {v0 v1 v2 : Value}
    (hp : a.tmps.getD 0 undef = .pointer (some ⟨g, 0, none⟩)) (hg : w.heap[g]? = some (.cells #[v0, v1, v2] t fr)) (hd : a.defers = [])
    (hR : R (.returned (.agg #[v0, v1, v2])) w) : bodyPost Tryd.prog fn R .ret a w := by
  obtain ⟨i0, hi, _, hz1, _⟩ := info_parts Tryd.infoRot
  exact bodyPost_ret (results_cell_row h a.tmps w g t #[v0, v1, v2] fr _ hp hg Tryd.underlying25 rfl (by simp [hi, hz1])) hd hR
def mat4 (w : World) (tE ti ts : TypeId) (cE c1 c2 c3 c4 : Array Value) (b1 b2 b3 b4 n1 n2 n3 n4 : Nat) : World :=
  (((((w.alloc (.cells cE tE)).alloc (.cells c1 ti)).alloc (.cells c2 ti)).alloc (.cells c3 ti)).alloc (.cells c4 ti)).alloc (.cells #[.slice (some ⟨b1, 0, none⟩) n1 n1, .slice (some ⟨b2, 0, none⟩) n2 n2, .slice (some ⟨b3, 0, none⟩) n3 n3, .slice (some ⟨b4, 0, none⟩) n4 n4] ts)
theorem mat4_at (w : World) (tE ti ts : TypeId) (cE c1 c2 c3 c4 : Array Value) (b0 b1 b2 b3 b4 b5 n1 n2 n3 n4 : Nat) (E : List (Int × Int)) (r1 r2 r3 r4 : List Int) (h0 : b0 = w.heap.size) (h1 : b1 = w.heap.size + 1) (h2 : b2 = w.heap.size + 2) (h3 : b3 = w.heap.size + 3) (h4 : b4 = w.heap.size + 4) (h5 : b5 = w.heap.size + 5)
    (hE : cE.toList = prVs E) (e1 : c1.toList = r1.map (Value.int .i64)) (e2 : c2.toList = r2.map (Value.int .i64)) (e3 : c3.toList = r3.map (Value.int .i64)) (e4 : c4.toList = r4.map (Value.int .i64)) (l1 : r1.length = n1) (l2 : r2.length = n2) (l3 : r3.length = n3) (l4 : r4.length = n4)
    (hle : E.length ≤ 100) (hl1 : n1 ≤ 100) (hl2 : n2 ≤ 100) (hl3 : n3 ≤ 100) (hl4 : n4 ≤ 100) (hb : ∀ r ∈ [r1, r2, r3, r4], ∀ x ∈ r, -9223372036854775808 ≤ x ∧ x ≤ 9223372036854775807) :
    RotAt (mat4 w tE ti ts cE c1 c2 c3 c4 b1 b2 b3 b4 n1 n2 n3 n4) (some ⟨b0, 0, none⟩) (some ⟨b5, 0, none⟩) E [r1, r2, r3, r4] ∧ Grew w (mat4 w tE ti ts cE c1 c2 c3 c4 b1 b2 b3 b4 n1 n2 n3 n4) := by
  subst h0 h1 h2 h3 h4 h5 l1 l2 l3 l4
  have i1 := Ints.made (w.alloc (.cells cE tE)) ti r1 c1 (w.heap.size + 1) e1 (by simp) (by omega) (hb r1 (by simp))
  have i2 := Ints.made ((w.alloc (.cells cE tE)).alloc (.cells c1 ti)) ti r2 c2 (w.heap.size + 2) e2 (by simp) (by omega) (hb r2 (by simp))
  have i3 := Ints.made (((w.alloc (.cells cE tE)).alloc (.cells c1 ti)).alloc (.cells c2 ti)) ti r3 c3 (w.heap.size + 3) e3 (by simp) (by omega) (hb r3 (by simp))
  have i4 := Ints.made ((((w.alloc (.cells cE tE)).alloc (.cells c1 ti)).alloc (.cells c2 ti)).alloc (.cells c3 ti)) ti r4 c4 (w.heap.size + 4) e4 (by simp) (by omega) (hb r4 (by simp))
  refine ⟨⟨(Prs.made w tE E cE w.heap.size hE rfl (by omega)).grew (by unfold mat4; (repeat (first | exact gR _ | refine gO ?_ _ | refine gA ?_ _ | refine gD ?_ | refine gN ?_ _))), ?_, hle, by simp, fun v hv => ?_⟩, by unfold mat4; (repeat (first | exact gR _ | refine gO ?_ _ | refine gA ?_ _ | refine gD ?_ | refine gN ?_ _))⟩
  · refine Mat.made _ _ _ _ _ (fun u => if u = 0 then some ⟨w.heap.size + 1, 0, none⟩ else if u = 1 then some ⟨w.heap.size + 2, 0, none⟩ else if u = 2 then some ⟨w.heap.size + 3, 0, none⟩ else some ⟨w.heap.size + 4, 0, none⟩) (fun u => if u = 0 then r1.length else if u = 1 then r2.length else if u = 2 then r3.length else r4.length) (by simp) (by simp) (fun u hu => ?_)
    match u, hu with
    | 0, _ => exact ⟨rfl, i1.grew (by (repeat (first | exact gR _ | refine gO ?_ _ | refine gA ?_ _ | refine gD ?_ | refine gN ?_ _)))⟩
    | 1, _ => exact ⟨rfl, i2.grew (by (repeat (first | exact gR _ | refine gO ?_ _ | refine gA ?_ _ | refine gD ?_ | refine gN ?_ _)))⟩
    | 2, _ => exact ⟨rfl, i3.grew (by (repeat (first | exact gR _ | refine gO ?_ _ | refine gA ?_ _ | refine gD ?_ | refine gN ?_ _)))⟩
    | 3, _ => exact ⟨rfl, i4.grew (by (repeat (first | exact gR _ | refine gO ?_ _ | refine gA ?_ _ | refine gD ?_ | refine gN ?_ _)))⟩
  · match v, hv with
    | 0, _ => exact hl1
    | 1, _ => exact hl2
    | 2, _ => exact hl3
    | 3, _ => exact hl4

set_option maxRecDepth 8000 in
set_option maxHeartbeats 8000000 in
theorem four_l (w : World) : Calls Tryd.prog 27 #[] w fun e w' => (∃ pE pA, e = .returned (.agg #[.int .i64 4, .slice pE 6 6, .slice pA 4 4]) ∧ RotIn w' pE pA 6 E4 A4) ∧ Grew w w' := by
  go_enter Tryd.func27, Tryd.ntmps27
  go_wp2
  obtain ⟨w1, hw1⟩ : ∃ w1, w.alloc (.cells #[.int .i64 4, .slice (some ⟨w.heap.size + 1, 0, none⟩) 6 6, .slice (some ⟨w.heap.size + 1 + 1 + 1 + 1 + 1 + 1, 0, none⟩) 4 4] 25) = w1 := ⟨_, rfl⟩
  have hs1 : w1.heap.size = w.heap.size + 1 := by rw [← hw1]; simp
  obtain ⟨hR, hG⟩ := mat4_at w1 45 3 26 #[.int .i64 0, .int .i64 1, .int .i64 0, .int .i64 2, .int .i64 0, .int .i64 3, .int .i64 1, .int .i64 2, .int .i64 2, .int .i64 3, .int .i64 3, .int .i64 1] #[.int .i64 0, .int .i64 2, .int .i64 4] #[.int .i64 1, .int .i64 11, .int .i64 6] #[.int .i64 3, .int .i64 7, .int .i64 8] #[.int .i64 5, .int .i64 9, .int .i64 10]
    (w.heap.size + 1) (w.heap.size + 1 + 1) (w.heap.size + 1 + 1 + 1) (w.heap.size + 1 + 1 + 1 + 1) (w.heap.size + 1 + 1 + 1 + 1 + 1) (w.heap.size + 1 + 1 + 1 + 1 + 1 + 1) 3 3 3 3 E4 [0, 2, 4] [1, 11, 6] [3, 7, 8] [5, 9, 10]
    (by omega) (by omega) (by omega) (by omega) (by omega) (by omega) rfl rfl rfl rfl rfl rfl rfl rfl rfl (by decide) (by decide) (by decide) (by decide) (by decide) (by decide)
  have hW : Grew w w1 := by rw [← hw1]; (repeat (first | exact gR _ | refine gO ?_ _ | refine gA ?_ _ | refine gD ?_ | refine gN ?_ _))
  have hb : w1.heap[w.heap.size]? = some (.cells #[.int .i64 4, .slice (some ⟨w.heap.size + 1, 0, none⟩) 6 6, .slice (some ⟨w.heap.size + 1 + 1 + 1 + 1 + 1 + 1, 0, none⟩) 4 4] 25) := by rw [← hw1, heap_alloc_if, if_neg (by omega), if_pos rfl]
  have hb2 := (hG.below.block w.heap.size (by omega)).trans hb
  rw [hw1]
  refine ret_rot0 rfl rfl hb2 rfl ⟨⟨_, _, rfl, ⟨hR.aw, Or.inl (by decide), by decide, by decide⟩⟩, hW.trans hG⟩

def ThreePost (n : Nat) (xs : List Int) (w : World) (e : Ending) (w' : World) : Prop :=
  (∃ q cap, e = .returned (.tuple #[.slice q n cap, .int .i64 0]) ∧ Ints w' q xs) ∧ ∃ x, w' = over w x
section
variable {pE pA : Option Addr} {cE cA : Nat} {w : World}
theorem build4_l {pO : Option Addr} (hR : RotIn w pE pA cE E4 A4) (hL : Lim w) (hO : Ints w pO [0, 1, 2, 3]) : Calls Tryd.prog 10 #[.agg #[.int .i64 4, .slice pE 6 cE, .slice pA 4 cA], .slice pO 4 4] w (ThreePost 12 L4 w) := by
  have h := build_p 4 pE pA pO 6 4 4 cE cA 4 E4 A4 [0, 1, 2, 3] w hR hL hO (by decide) (by decide) (by decide) rfl rfl rfl
  rw [bu4] at h
  exact h.mono fun e w' ⟨hg, q, cap, h1, h2, _⟩ => ⟨⟨q, cap, h1, h2⟩, hg⟩
theorem build4n_l {pO : Option Addr} (hR : RotIn w pE pA cE E4 A4) (hL : Lim w) (hO : Ints w pO [0, 1, 3, 2]) : Calls Tryd.prog 10 #[.agg #[.int .i64 4, .slice pE 6 cE, .slice pA 4 cA], .slice pO 4 4] w fun e w' => (∃ q cap, e = .returned (.tuple #[.slice q 0 cap, .int .i64 1])) ∧ Grew w w' := by
  have h := build_p 4 pE pA pO 6 4 4 cE cA 4 E4 A4 [0, 1, 3, 2] w hR hL hO (by decide) (by decide) (by decide) rfl rfl rfl
  rw [bu4n] at h
  exact h.mono fun e w' ⟨hg, q, cap, h1, h2, _⟩ => ⟨⟨q, cap, h1⟩, hg⟩
theorem par4_l {pL : Option Addr} {cL : Nat} (hR : RotIn w pE pA cE E4 A4) (hL : Lim w) (hI : Ints w pL L4) : Calls Tryd.prog 13 #[.agg #[.int .i64 4, .slice pE 6 cE, .slice pA 4 cA], .slice pL 12 cL, .int .i64 2] w (ThreePost 4 [-1, -1, 3, -1] w) := by
  have h := parents_p 4 pE pA pL 6 4 12 cE cA cL E4 A4 L4 2 w hR hL hI rfl rfl rfl (by decide)
  rw [pa4] at h
  exact h.mono fun e w' ⟨hg, q, cap, h1, h2, _⟩ => ⟨⟨q, cap, h1, h2⟩, hg⟩
theorem check4_l {pL : Option Addr} {cL : Nat} (hR : RotIn w pE pA cE E4 A4) (hL : Lim w) (hI : Ints w pL L4) : Calls Tryd.prog 15 #[.agg #[.int .i64 4, .slice pE 6 cE, .slice pA 4 cA], .slice pL 12 cL] w fun e w' => e = .returned (.bool true) ∧ Grew w w' := by
  have h := check38_p 4 pE pA pL 6 4 12 cE cA cL E4 A4 L4 w hR hL hI rfl rfl rfl (by decide)
  rw [show chk38 4 E4 A4 L4 = true by unfold chk38; rw [tg4, ft4]; rfl] at h
  exact h
theorem draw4_l {pL : Option Addr} {cL : Nat} (hR : RotIn w pE pA cE E4 A4) (hL : Lim w) (hI : Ints w pL L4) : Calls Tryd.prog 17 #[.agg #[.int .i64 4, .slice pE 6 cE, .slice pA 4 cA], .slice pL 12 cL] w fun e w' => (∃ q cap, e = .returned (.tuple #[.slice q 4 cap, .int .i64 0]) ∧ Prs w' q [(0, 0), (3, 0), (1, 1), (0, 3)]) ∧ ∃ x, w' = over w x := by
  have h := draw_p 4 pE pA pL 6 4 12 cE cA cL E4 A4 L4 w hR hL hI rfl rfl rfl (by decide) ac4
  rw [dr4] at h
  exact h.mono fun e w' ⟨hg, q, cap, h1, h2, _⟩ => ⟨⟨q, cap, h1, h2⟩, hg⟩
end
set_option maxRecDepth 8000 in
set_option maxHeartbeats 8000000 in
theorem awake_l (w : World) (hL : Lim w) : Calls Tryd.prog 9 #[] w fun e w' => e = .returned (.bool true) ∧ Grew w w' := by
  have HL := Lib.hid hL
  clear hL
  go_enter Tryd.func9, Tryd.ntmps9
  go_wp2_with (first
    | (go_at_call 27; apply Calls.mono; (with_reducible exact four_l _); rintro e wx ⟨⟨pE, pA, rfl, hRf⟩, x2, rfl⟩; have HRf := Lib.hid hRf; clear hRf)
    | (go_at_call 10; apply Calls.mono; (with_reducible exact build4_l (HRf.out.grew (by (repeat (first | exact gR _ | refine gO ?_ _ | refine gA ?_ _ | refine gD ?_ | refine gN ?_ _)))) (HL.out.grew (by (repeat (first | exact gR _ | refine gO ?_ _ | refine gA ?_ _ | refine gD ?_ | refine gN ?_ _)))) (Ints.made _ _ [0, 1, 2, 3] _ _ rfl (by first | rfl | omega | (simp <;> omega)) (by decide) (by decide))); rintro e wx ⟨⟨ql, cl, rfl, hIl⟩, x3, rfl⟩; have HIl := Lib.hid hIl; clear hIl)
    | (go_at_call 17; apply Calls.mono; (with_reducible exact draw4_l (HRf.out.grew (by (repeat (first | exact gR _ | refine gO ?_ _ | refine gA ?_ _ | refine gD ?_ | refine gN ?_ _)))) (HL.out.grew (by (repeat (first | exact gR _ | refine gO ?_ _ | refine gA ?_ _ | refine gD ?_ | refine gN ?_ _)))) (HIl.out.grew (by (repeat (first | exact gR _ | refine gO ?_ _ | refine gA ?_ _ | refine gD ?_ | refine gN ?_ _))))); rintro e wx ⟨⟨qp, cp, rfl, hPp⟩, x4, rfl⟩; have HPp := Lib.hid hPp; clear hPp)
    | (go_at_call 10; apply Calls.mono; (with_reducible exact build4n_l (HRf.out.grew (by (repeat (first | exact gR _ | refine gO ?_ _ | refine gA ?_ _ | refine gD ?_ | refine gN ?_ _)))) (HL.out.grew (by (repeat (first | exact gR _ | refine gO ?_ _ | refine gA ?_ _ | refine gD ?_ | refine gN ?_ _)))) (Ints.made _ _ [0, 1, 3, 2] _ _ rfl (by first | rfl | omega | (simp <;> omega)) (by decide) (by decide))); rintro e wx ⟨⟨qn, cn, rfl⟩, x5, rfl⟩)
    | (go_at_call 13; apply Calls.mono; (with_reducible exact par4_l (HRf.out.grew (by (repeat (first | exact gR _ | refine gO ?_ _ | refine gA ?_ _ | refine gD ?_ | refine gN ?_ _)))) (HL.out.grew (by (repeat (first | exact gR _ | refine gO ?_ _ | refine gA ?_ _ | refine gD ?_ | refine gN ?_ _)))) (HIl.out.grew (by (repeat (first | exact gR _ | refine gO ?_ _ | refine gA ?_ _ | refine gD ?_ | refine gN ?_ _))))); rintro e wx ⟨⟨qu, cu, rfl, hIu⟩, x6, rfl⟩; have HIu := Lib.hid hIu; clear hIu)
    | (go_at_call 12; apply Calls.mono; (with_reducible exact same_eq rfl (HIl.out.grew (by (repeat (first | exact gR _ | refine gO ?_ _ | refine gA ?_ _ | refine gD ?_ | refine gN ?_ _)))) (Ints.made _ _ L4 _ _ rfl (by first | rfl | omega | (simp <;> omega)) (by decide) (by decide))); rintro e wx ⟨rfl, x7, rfl⟩)
    | (go_at_call 12; apply Calls.mono; (with_reducible exact same_eq rfl (HIu.out.grew (by (repeat (first | exact gR _ | refine gO ?_ _ | refine gA ?_ _ | refine gD ?_ | refine gN ?_ _)))) (Ints.made _ _ [-1, -1, 3, -1] _ _ rfl (by first | rfl | omega | (simp <;> omega)) (by decide) (by decide))); rintro e wx ⟨rfl, x8, rfl⟩)
    | (go_at_call 19; apply Calls.mono; (with_reducible exact points_eq rfl (HPp.out.grew (by (repeat (first | exact gR _ | refine gO ?_ _ | refine gA ?_ _ | refine gD ?_ | refine gN ?_ _)))) (Prs.made _ _ [(0, 0), (3, 0), (1, 1), (0, 3)] _ _ rfl (by first | rfl | omega | (simp <;> omega)) (by decide))); rintro e wx ⟨rfl, x9, rfl⟩)
    | (go_at_call 15; apply Calls.mono; (with_reducible exact check4_l (HRf.out.grew (by (repeat (first | exact gR _ | refine gO ?_ _ | refine gA ?_ _ | refine gD ?_ | refine gN ?_ _)))) (HL.out.grew (by (repeat (first | exact gR _ | refine gO ?_ _ | refine gA ?_ _ | refine gD ?_ | refine gN ?_ _)))) (HIl.out.grew (by (repeat (first | exact gR _ | refine gO ?_ _ | refine gA ?_ _ | refine gD ?_ | refine gN ?_ _))))); rintro e wx ⟨rfl, x10, rfl⟩))
  go_ret
  exact ⟨rfl, by (repeat (first | exact gR _ | refine gO ?_ _ | refine gA ?_ _ | refine gD ?_ | refine gN ?_ _))⟩
end Go.Proofs.YtlealdicoceekaaDoor

/- RealizerBuilds, RealizerChecks, RealizerDraws: the laws' calls. -/
namespace Go.Proofs.YtlealdicoceekaaDoor
open Go.RowKit
attribute [local go_sem ↓] Go.wp_at_zero Go.wp_at_succ

section
variable (N : Int) (pE pA pO : Option Addr) (nE nA nO cE cA cO : Nat) (E : List (Int × Int)) (A : List (List Int)) (O : List Int) (w : World)
end
end Go.Proofs.YtlealdicoceekaaDoor

/- RealizerPlane returns true. -/
namespace Go.Proofs.YtlealdicoceekaaDoor
open Go.RowKit
attribute [local go_sem ↓] Go.wp_at_zero Go.wp_at_succ

set_option maxRecDepth 8000 in
set_option maxHeartbeats 32000000 in
theorem planeL (N : Int) (pE pA : Option Addr) (nE nA cE cA : Nat) (E : List (Int × Int)) (A : List (List Int)) (w : World) (hE : Prs w pE E) (hA : Mat w pA A) (c1 : E.length ≤ cE) (c2 : cE ≤ maxLen)
    (hL : Lim w) (hnE : E.length = nE) (hnA : A.length = nA) :
    Calls Tryd.prog 7 #[.agg #[.int .i64 N, .slice pE nE cE, .slice pA nA cA]] w fun e w' => e = .returned (.bool true) ∧ Grew w w' := by
  have HL := Lib.hid hL
  have HE := Lib.hid hE
  have HA := Lib.hid hA
  have Haw : Hid (∀ W1, Grew w W1 → Calls Tryd.prog 9 #[] W1 fun e w' => e = .returned (.bool true) ∧ Grew W1 w') := Lib.hid (fun W1 h => awake_l W1 (HL.out.grew h))
  obtain ⟨s, hs⟩ : ∃ s, fewB E A = s := ⟨_, rfl⟩
  have Hs : Hid (∀ W1, Grew w W1 → Calls Tryd.prog 20 #[.agg #[.int .i64 N, .slice pE nE cE, .slice pA nA cA]] W1 fun e w' => e = .returned (.bool s) ∧ Grew W1 w') := Lib.hid (fun W1 h => by
    rw [← hs]
    exact few_l N pE pA nE nA cE cA E A W1 (HE.out.grew h) (HA.out.grew h) hnE hnA)
  cases s
  case false =>
    clear hs hE hA hL
    go_enter Tryd.func7, Tryd.ntmps7
    go_wp2_with (first
      | ((go_at_call 20; apply Calls.mono; (with_reducible exact Hs.out _ (by (repeat (first | exact gR _ | refine gO ?_ _ | refine gA ?_ _ | refine gD ?_ | refine gN ?_ _)))); rintro e w' ⟨rfl, x, rfl⟩))
      | ((go_at_call 9; apply Calls.mono; (with_reducible exact Haw.out _ (by (repeat (first | exact gR _ | refine gO ?_ _ | refine gA ?_ _ | refine gD ?_ | refine gN ?_ _)))); rintro e w' ⟨rfl, x, rfl⟩)))
    go_ret
    exact ⟨rfl, by (repeat (first | exact gR _ | refine gO ?_ _ | refine gA ?_ _ | refine gD ?_ | refine gN ?_ _))⟩
  case true =>
  have HR := Lib.hid (few_in hs hE hA c1 c2)
  have HRt := Lib.hid (few_at hs hE hA)
  clear hs hE hA hL
  by_cases h16 : 16 < N
  · have g1 : decide (16 < N) = true := decide_eq_true h16
    go_enter Tryd.func7, Tryd.ntmps7
    go_wp2_with (first
      | ((go_at_call 20; apply Calls.mono; (with_reducible exact Hs.out _ (by (repeat (first | exact gR _ | refine gO ?_ _ | refine gA ?_ _ | refine gD ?_ | refine gN ?_ _)))); rintro e w' ⟨rfl, x, rfl⟩))
      | ((go_at_call 9; apply Calls.mono; (with_reducible exact Haw.out _ (by (repeat (first | exact gR _ | refine gO ?_ _ | refine gA ?_ _ | refine gD ?_ | refine gN ?_ _)))); rintro e w' ⟨rfl, x, rfl⟩)))
    go_ret
    exact ⟨rfl, by (repeat (first | exact gR _ | refine gO ?_ _ | refine gA ?_ _ | refine gD ?_ | refine gN ?_ _))⟩
  have g1 : decide (16 < N) = false := decide_eq_false h16
  obtain ⟨t, ht⟩ : ∃ t, trgB N E A = t := ⟨_, rfl⟩
  have Htr : Hid (∀ W1, Grew w W1 → Calls Tryd.prog 21 #[.agg #[.int .i64 N, .slice pE nE cE, .slice pA nA cA]] W1 fun e w' => e = .returned (.bool t) ∧ Grew W1 w') := Lib.hid (fun W1 h => by
    rw [← ht]
    exact trg_r N pE pA nE nA cE cA E A W1 (HR.out.grew h) hnE hnA)
  cases t
  case false =>
    clear ht
    go_enter Tryd.func7, Tryd.ntmps7
    go_wp2_with (first
      | ((go_at_call 20; apply Calls.mono; (with_reducible exact Hs.out _ (by (repeat (first | exact gR _ | refine gO ?_ _ | refine gA ?_ _ | refine gD ?_ | refine gN ?_ _)))); rintro e w' ⟨rfl, x, rfl⟩))
      | ((go_at_call 21; apply Calls.mono; (with_reducible exact Htr.out _ (by (repeat (first | exact gR _ | refine gO ?_ _ | refine gA ?_ _ | refine gD ?_ | refine gN ?_ _)))); rintro e w' ⟨rfl, x, rfl⟩))
      | ((go_at_call 9; apply Calls.mono; (with_reducible exact Haw.out _ (by (repeat (first | exact gR _ | refine gO ?_ _ | refine gA ?_ _ | refine gD ?_ | refine gN ?_ _)))); rintro e w' ⟨rfl, x, rfl⟩)))
    go_ret
    exact ⟨rfl, by (repeat (first | exact gR _ | refine gO ?_ _ | refine gA ?_ _ | refine gD ?_ | refine gN ?_ _))⟩
  case true =>
  have hV := trg_valid ht
  have hal := hV.al
  have hN3 := trg_three ht
  obtain rfl : N = (nA : Int) := by omega
  have hn16 : nA ≤ 16 := by omega
  have hnA3 : 3 ≤ nA := by omega
  have hnA1 : nA ≤ 100 := by omega
  have HT := Lib.hid ht
  have HV := Lib.hid hV
  have HnE := Lib.hid hnE
  have HnA := Lib.hid hnA
  have Hord : Hid (∀ W1, Grew w W1 → Calls Tryd.prog 22 #[.agg #[.int .i64 nA, .slice pE nE cE, .slice pA nA cA]] W1 fun e w' => Grew W1 w' ∧ ∃ O L : List Int, O.length = nA ∧ L.length = 2 * nE ∧ Sch E A L ∧ fitB E A L = true ∧ buildRes nA E A O = (L, 0) ∧ ∃ q cap, e = .returned (.tuple #[.slice q nA cap, .int .i64 0]) ∧ Ints w' q O ∧ nA ≤ cap ∧ cap ≤ maxLen) := Lib.hid (fun W1 h => (order_l nA pE pA nE nA cE cA E A W1 (HRt.out.grew h) (HR.out.grew h) HT.out HnE.out HnA.out).mono fun e w' ⟨hg, R, hP, q, cap, he, hI, h1, h2⟩ => by
    obtain ⟨hc, hS⟩ := peels_sch HT.out hP
    have hOl := (chkO_iff.1 hc).2.1
    have hl : R.length + 2 = nA := by simp at hOl; omega
    refine ⟨hg, _, _, by omega, ?_, hS, fit_of HT.out hS, ?_, q, cap, by rw [← hl]; exact he, hI, by omega, h2⟩
    · rw [hS.len, HnE.out]
    · unfold buildRes
      rw [if_neg (by rw [HT.out]; simp), if_neg (by rw [hc]; simp), refK_eq hc _ (by omega)])
  clear ht hV hal hN3 hnE hnA h16
  go_enter Tryd.func7, Tryd.ntmps7
  go_upto_region 1 with fail
  have HgB : Hid (Grew w (w.alloc (.cells #[.int .i64 nA, .slice pE nE cE, .slice pA nA cA] 25))) := Lib.hid ((Grew.refl w).alloc _)
  have k0 : (w.alloc (.cells #[.int .i64 nA, .slice pE nE cE, .slice pA nA cA] 25)).cell? ⟨w.heap.size, 0, none⟩ = some (.int .i64 nA) := by simp [go_sem]
  have k1 : (w.alloc (.cells #[.int .i64 nA, .slice pE nE cE, .slice pA nA cA] 25)).cell? ⟨w.heap.size, 1, none⟩ = some (.slice pE nE cE) := by simp [go_sem]
  have k2 : (w.alloc (.cells #[.int .i64 nA, .slice pE nE cE, .slice pA nA cA] 25)).cell? ⟨w.heap.size, 2, none⟩ = some (.slice pA nA cA) := by simp [go_sem]
  obtain ⟨wB, hwB⟩ : ∃ wB, w.alloc (.cells #[.int .i64 nA, .slice pE nE cE, .slice pA nA cA] 25) = wB := ⟨_, rfl⟩
  rw [hwB] at HgB k0 k1 k2 ⊢
  have hwl := World.block_lt_of_cell? wB _ k0
  dsimp only at hwl
  clear hwB
  go_upto_region 6 with (first
    | (go_at_call 20; apply Calls.mono; (with_reducible exact Hs.out _ (HgB.out.trans (by (repeat (first | exact gR _ | refine gO ?_ _ | refine gA ?_ _ | refine gD ?_ | refine gN ?_ _))))); rintro e w2 ⟨rfl, hg2⟩; have Hg2 := Lib.hid ((show Grew wB _ by (repeat (first | exact gR _ | refine gO ?_ _ | refine gA ?_ _ | refine gD ?_ | refine gN ?_ _))).trans hg2); have n0 := Hg2.out.cellEq k0; have n1 := Hg2.out.cellEq k1; have n2 := Hg2.out.cellEq k2; have hlw2 := World.block_lt_of_cell? w2 _ n0; dsimp only at hlw2; clear hg2)
    | (go_at_call 21; apply Calls.mono; (with_reducible exact Htr.out _ (HgB.out.trans (Hg2.out.trans (by (repeat (first | exact gR _ | refine gO ?_ _ | refine gA ?_ _ | refine gD ?_ | refine gN ?_ _)))))); rintro e w3 ⟨rfl, hg3⟩; have Hg3 := Lib.hid (Hg2.out.trans ((show Grew w2 _ by (repeat (first | exact gR _ | refine gO ?_ _ | refine gA ?_ _ | refine gD ?_ | refine gN ?_ _))).trans hg3)); have m0 := Hg3.out.cellEq k0; have m1 := Hg3.out.cellEq k1; have m2 := Hg3.out.cellEq k2; have hlw3 := World.block_lt_of_cell? w3 _ m0; dsimp only at hlw3; clear hg3)
    | (go_at_call 22; apply Calls.mono; (with_reducible exact Hord.out _ (HgB.out.trans (Hg3.out.trans (by (repeat (first | exact gR _ | refine gO ?_ _ | refine gA ?_ _ | refine gD ?_ | refine gN ?_ _)))))); rintro e w4 ⟨hg4, O, L, hOl, hLl, hS, hF, hB, qO, cO, rfl, hIO, hO1, hO2⟩; have Hg4 := Lib.hid (Hg3.out.trans ((show Grew w3 _ by (repeat (first | exact gR _ | refine gO ?_ _ | refine gA ?_ _ | refine gD ?_ | refine gN ?_ _))).trans hg4)); have HIO := Lib.hid hIO; have HS := Lib.hid hS; have HF := Lib.hid hF; have HB := Lib.hid hB; have HOl := Lib.hid hOl; have HLl := Lib.hid hLl; have p0 := Hg4.out.cellEq k0; have p1 := Hg4.out.cellEq k1; have p2 := Hg4.out.cellEq k2; have hlw4 := World.block_lt_of_cell? w4 _ p0; dsimp only at hlw4; clear hg4 hIO hS hF hB hOl hLl; have Hbu : Hid (∀ W1, Grew w4 W1 → Calls Tryd.prog 10 #[.agg #[.int .i64 nA, .slice pE nE cE, .slice pA nA cA], .slice qO nA cO] W1 (ThreePost (2 * nE) L W1)) := Lib.hid (fun W1 h => (by have hb := build_p nA pE pA qO nE nA nA cE cA cO E A O W1 (HR.out.grew (HgB.out.trans (Hg4.out.trans h))) (HL.out.grew (HgB.out.trans (Hg4.out.trans h))) (HIO.out.grew h) (by have := HOl.out; omega) hO1 hO2 HnE.out HnA.out HOl.out; rw [HB.out] at hb; exact hb.mono fun e w' ⟨hg, q, cap, h1, h2, _⟩ => ⟨⟨q, cap, (by rw [h1, HLl.out]), h2⟩, hg⟩)))
    | (go_at_call 10; apply Calls.mono; (with_reducible exact Hbu.out _ (by (repeat (first | exact gR _ | refine gO ?_ _ | refine gA ?_ _ | refine gD ?_ | refine gN ?_ _)))); rintro e w5 ⟨⟨qL, cL, rfl, hIL⟩, hg5⟩; have HIL := Lib.hid hIL; have hgx := Grew.trans (show Grew w4 _ by (repeat (first | exact gR _ | refine gO ?_ _ | refine gA ?_ _ | refine gD ?_ | refine gN ?_ _))) hg5; have Hg5 := Lib.hid (Hg4.out.trans hgx); have q0 := Hg5.out.cellEq k0; have q1 := Hg5.out.cellEq k1; have q2 := Hg5.out.cellEq k2; have hlw5 := World.block_lt_of_cell? w5 _ q0; dsimp only at hlw5; clear hg5 hgx hIL; have Hdr : Hid (∀ W1, Grew w5 W1 → Calls Tryd.prog 17 #[.agg #[.int .i64 nA, .slice pE nE cE, .slice pA nA cA], .slice qL (2 * nE) cL] W1 (PtsPost (drawL nA E A L) 0 W1)) := Lib.hid (fun W1 h => (by have hb := draw_p nA pE pA qL nE nA (2 * nE) cE cA cL E A L W1 (HR.out.grew (HgB.out.trans (Hg5.out.trans h))) (HL.out.grew (HgB.out.trans (Hg5.out.trans h))) (HIL.out.grew h) HnE.out HnA.out HLl.out (by have := HR.out.e1; have := HnE.out; omega) (fun _ _ => sch_acy HT.out HS.out); rw [show drawRes nA E A L = (drawL nA E A L, 0) by unfold drawRes; rw [if_neg (by rw [HT.out]; simp), if_neg (by rw [HF.out]; simp)]] at hb; exact hb)))
    | (go_at_call 17; apply Calls.mono; (with_reducible exact Hdr.out _ (by (repeat (first | exact gR _ | refine gO ?_ _ | refine gA ?_ _ | refine gD ?_ | refine gN ?_ _)))); rintro e w6 ⟨hg6, qP, cP, rfl, hP, hP1, hP2⟩; have HP := Lib.hid hP; have hgx := Grew.trans (show Grew w5 _ by (repeat (first | exact gR _ | refine gO ?_ _ | refine gA ?_ _ | refine gD ?_ | refine gN ?_ _))) hg6; have Hg6 := Lib.hid (Hg5.out.trans hgx); have r0 := Hg6.out.cellEq k0; have r1 := Hg6.out.cellEq k1; have r2 := Hg6.out.cellEq k2; have hlw6 := World.block_lt_of_cell? w6 _ r0; dsimp only at hlw6; clear hg6 hgx hP))
  have K0 := Lib.hid (Hg6.out.cellEq k0)
  have K1 := Lib.hid (Hg6.out.cellEq k1)
  have K2 := Lib.hid (Hg6.out.cellEq k2)
  have Hg6w : Hid (Grew w w6) := Lib.hid (HgB.out.trans Hg6.out)
  have hPl : (drawL nA E A L).length = nA := by unfold drawL; rw [List.length_map, List.length_range, HnA.out]
  have HPv : Hid (∀ v : Nat, v < nA → pr (drawL nA E A L) v = ptF nA E A L v) := Lib.hid (fun v hv => by
    rw [pr_eq _ (by rw [hPl]; exact hv)]
    unfold drawL
    simp)
  have hE0 : 0 < nE := by have := trg_pos HT.out; have := HnE.out; omega
  have hE100 : nE ≤ 100 := by have := HR.out.e1; have := HnE.out; omega
  obtain ⟨bE, oE, rfl, lE, cE'⟩ := HR.out.hE.cells (by have := HnE.out; omega)
  obtain ⟨bP, oP, rfl, lP, cP'⟩ := HP.out.cells (by rw [hPl]; omega)
  obtain ⟨PX, hPX⟩ : ∃ PX : Nat → Int × Int, ∀ v : Nat, ptF nA E A L v = PX v := ⟨_, fun _ => rfl⟩
  obtain ⟨EX, hEX⟩ : ∃ EX : Nat → Nat × Nat, ∀ i : Nat, i < nE → pr E i = (((EX i).1 : Int), ((EX i).2 : Int)) ∧ (EX i).1 < nA ∧ (EX i).2 < nA := ⟨fun i => ((pr E i).1.toNat, (pr E i).2.toNat), fun i hi => by
    have hi' : i < E.length := by have := HnE.out; omega
    obtain ⟨hd, e1, e2⟩ := ends_two HT.out hi'
    have r1 := head_in HV.out hd
    have r2 := head_in HV.out hd.oth
    have := HnA.out
    rw [e1] at r1
    rw [e2] at r2
    refine ⟨?_, ?_, ?_⟩
    · dsimp only; rw [Int.toNat_of_nonneg r1.1, Int.toNat_of_nonneg r2.1]
    · dsimp only; omega
    · dsimp only; omega⟩
  have HcE : Hid (∀ (i : Nat) W, i < nE → Grew w6 W → W.cell? ⟨bE, oE + i * 2, none⟩ = some (.int .i64 ((EX i).1 : Int)) ∧ W.cell? ⟨bE, oE + i * 2 + 1, none⟩ = some (.int .i64 ((EX i).2 : Int))) := Lib.hid (fun i W hi h => by
    have := cE' W (Hg6w.out.trans h) i (by have := HnE.out; omega)
    rw [(hEX i hi).1] at this
    exact this)
  have HcP : Hid (∀ (v : Nat) W, v < nA → Grew w6 W → W.cell? ⟨bP, oP + v * 2, none⟩ = some (.int .i64 (PX v).1) ∧ W.cell? ⟨bP, oP + v * 2 + 1, none⟩ = some (.int .i64 (PX v).2)) := Lib.hid (fun v W hv h => by
    have := cP' W h v (by rw [hPl]; exact hv)
    rw [HPv.out v hv, hPX v] at this
    exact this)
  have HEX := Lib.hid (fun i hi => (hEX i hi).2)
  have Hin : Hid (∀ v : Nat, v < nA → 0 ≤ (PX v).1 ∧ 0 ≤ (PX v).2 ∧ (PX v).1 + (PX v).2 ≤ 2 * (nA : Int) - 5) := Lib.hid (fun v hv => by
    have := pt_in HT.out HS.out (v := v) (by omega) (by have := HnA.out; omega)
    rw [hPX v] at this
    exact this)
  have Hsm : Hid (∀ v : Nat, v < nA → Sml (PX v)) := Lib.hid (fun v hv => by
    have := Hin.out v hv
    exact ⟨by omega, by omega, by omega, by omega⟩)
  have Hon : Hid (∀ i v : Nat, i < nE → v < nA → (EX i).1 ≠ v → (EX i).2 ≠ v → ∀ W, Calls Tryd.prog 24 #[ptV (PX (EX i).1), ptV (PX (EX i).2), ptV (PX v)] W fun e w' => e = .returned (.bool false) ∧ Grew W w') := Lib.hid (fun i v hi hv h1 h2 W => by
    have hn := pt_on HT.out HS.out (v := v) (i := i) (by omega) (by have := HnA.out; omega) (by have := HnE.out; omega) (by rw [(hEX i hi).1]; intro e; dsimp only at e; exact h1 (by omega)) (by rw [(hEX i hi).1]; intro e; dsimp only at e; exact h2 (by omega))
    rw [(hEX i hi).1] at hn
    rw [hPX, hPX, hPX] at hn
    exact on_l _ _ _ W (Hsm.out _ (hEX i hi).2.1) (Hsm.out _ (hEX i hi).2.2) (Hsm.out _ hv) false ⟨(fun k => Bool.noConfusion k), fun k => absurd k hn⟩)
  have Hme : Hid (∀ i k : Nat, i < nE → k < nE → (EX i).1 ≠ (EX k).1 → (EX i).1 ≠ (EX k).2 → (EX i).2 ≠ (EX k).1 → (EX i).2 ≠ (EX k).2 → ∀ W, Calls Tryd.prog 25 #[ptV (PX (EX i).1), ptV (PX (EX i).2), ptV (PX (EX k).1), ptV (PX (EX k).2)] W fun e w' => e = .returned (.bool false) ∧ Grew W w') := Lib.hid (fun i k hi hk h1 h2 h3 h4 W => by
    have hn := pt_meet HT.out HS.out (i := i) (k := k) (by have := HnE.out; omega) (by have := HnE.out; omega) (by rw [(hEX i hi).1, (hEX k hk).1]; intro e; dsimp only at e; exact h1 (by omega)) (by rw [(hEX i hi).1, (hEX k hk).1]; intro e; dsimp only at e; exact h2 (by omega)) (by rw [(hEX i hi).1, (hEX k hk).1]; intro e; dsimp only at e; exact h3 (by omega)) (by rw [(hEX i hi).1, (hEX k hk).1]; intro e; dsimp only at e; exact h4 (by omega))
    rw [(hEX i hi).1, (hEX k hk).1] at hn
    rw [hPX, hPX, hPX, hPX] at hn
    exact meet_l _ _ _ _ W (Hsm.out _ (hEX i hi).2.1) (Hsm.out _ (hEX i hi).2.2) (Hsm.out _ (hEX k hk).2.1) (Hsm.out _ (hEX k hk).2.2) hn)
  have Hva : Hid (∀ W1, Grew w6 W1 → Calls Tryd.prog 26 #[.agg #[.int .i64 nA, .slice (some ⟨bE, oE, none⟩) nE cE, .slice pA nA cA]] W1 fun e w' => e = .returned (.bool true) ∧ Grew W1 w') := Lib.hid (fun W1 h => valid_rwe (vRotB_iff.2 HV.out) (HR.out.toRotAw.grew (Hg6w.out.trans h)) HnE.out HnA.out)
  rw [hPl] at hP1 ⊢
  clear n0 n1 n2 m0 m1 m2 p0 p1 p2 q0 q1 q2 r0 r1 r2 hlw2 hlw3 hlw4 hlw5 k0 k1 k2 hwl Hs Htr Hord Hbu Hdr Hg2 Hg3 Hg4 Hg5 Hg6 HIO HIL HB cE' cP' hPX hEX HP HPv hPl
  have r0 := K0.out
  have r1 := K1.out
  have r2 := K2.out
  go_wp2
  go_loopw [9, 10, 11] (fun vv _ _ wr => ∃ v : Nat, v ≤ nA ∧ vv = .int .i64 v ∧ Grew w6 wr) (fun vv _ _ _ => nA - (intOf vv).toNat)
  case atStart => exact ⟨0, Nat.zero_le _, rfl, by (repeat (first | exact gR _ | refine gO ?_ _ | refine gA ?_ _ | refine gD ?_ | refine gN ?_ _))⟩
  case round =>
    obtain ⟨v, hv, rfl, hg⟩ := hrel
    have Hg := Lib.hid hg
    have m0 := hg.cellEq K0.out
    have m1 := hg.cellEq K1.out
    have m2 := hg.cellEq K2.out
    have hlw := World.block_lt_of_cell? wr _ m0
    dsimp only at hlw
    clear r0 r1 r2
    by_cases hvl : v < nA
    · have hvi : (v : Int) < (nA : Int) := by omega
      obtain ⟨s1, s2, s3⟩ := Hin.out v hvl
      obtain ⟨c0, c1'⟩ := HcP.out v wr hvl hg
      have l6 := Nat.lt_of_lt_of_le lP hg.below.size
      have d1 : decide ((PX v).1 < 0) = false := decide_eq_false (by omega)
      have d2 : decide ((PX v).2 < 0) = false := decide_eq_false (by omega)
      have d3 : decide (2 * (nA : Int) - 5 < (PX v).1 + (PX v).2) = false := decide_eq_false (by omega)
      obtain ⟨px, hpx⟩ : ∃ x, (PX v).1 = x := ⟨_, rfl⟩
      obtain ⟨py, hpy⟩ : ∃ x, (PX v).2 = x := ⟨_, rfl⟩
      rw [hpx] at c0 d1 d3 s1 s3
      rw [hpy] at c1' d2 d3 s2 s3
      clear hg hpx hpy
      go_upto_region 11 with fail
      refine wp_region_over (by kernel_rfl) (by kernel_rfl) ?_; (repeat (go_big_quiet_step (fail))); refine wpQuiet_nil ?_; rintro _ ⟨x, rfl⟩
      go_wp2
      clear c0 c1' d1 d2 d3 s1 s2 s3 m0 m1 m2 hlw l6
      go_loopw [10, 11] (fun iv _ wr => ∃ i : Nat, i ≤ nE ∧ iv = .int .i64 i ∧ Grew w6 wr) (fun iv _ _ => nE - (intOf iv).toNat)
      case atStart => exact ⟨0, Nat.zero_le _, rfl, Hg.out.trans (by (repeat (first | exact gR _ | refine gO ?_ _ | refine gA ?_ _ | refine gD ?_ | refine gN ?_ _)))⟩
      case round =>
        clear Hg
        obtain ⟨i, hi, rfl, hg⟩ := hrel
        have Hg := Lib.hid hg
        have m0 := hg.cellEq K0.out
        have m1 := hg.cellEq K1.out
        have m2 := hg.cellEq K2.out
        have hlw := World.block_lt_of_cell? _ _ m0
        dsimp only at hlw
        by_cases hil : i < nE
        · have hii : (i : Int) < (nE : Int) := by omega
          obtain ⟨e0, e1⟩ := HcE.out i _ hil hg
          obtain ⟨hf, ht⟩ := HEX.out i hil
          have l6 := Nat.lt_of_lt_of_le lP hg.below.size
          have lE6 := Nat.lt_of_lt_of_le (Nat.lt_of_lt_of_le lE Hg6w.out.below.size) hg.below.size
          obtain ⟨f, hfe⟩ : ∃ f, (EX i).1 = f := ⟨_, rfl⟩
          obtain ⟨u, hue⟩ : ∃ u, (EX i).2 = u := ⟨_, rfl⟩
          have HonI := Lib.hid (fun h1 h2 => Hon.out i v hil hvl h1 h2)
          rw [hfe, hue] at HonI
          rw [hfe] at e0 hf
          rw [hue] at e1 ht
          obtain ⟨p0, p1⟩ := HcP.out f _ hf hg
          obtain ⟨q0, q1⟩ := HcP.out u _ ht hg
          obtain ⟨z0, z1⟩ := HcP.out v _ hvl hg
          have k1 : (f : Int) < (nA : Int) := by omega
          have k2 : (u : Int) < (nA : Int) := by omega
          clear hg hfe hue
          by_cases h1 : f = v
          · have g1 : ((f : Int) == (v : Int)) = true := by simp [h1]
            have g1' : ((f : Int) != (v : Int)) = false := by simp [h1]
            clear h1 HonI
            go_upto_region 17 with fail
            refine wp_region_over (by kernel_rfl) (by kernel_rfl) ?_; (repeat (go_big_quiet_step (fail))); refine wpQuiet_nil ?_; rintro _ ⟨x, rfl⟩
            go_wp2
            go_roundw
            case rel => exact ⟨i + 1, by omega, by go_num, Hg.out.trans (by (repeat (first | exact gR _ | refine gO ?_ _ | refine gA ?_ _ | refine gD ?_ | refine gN ?_ _)))⟩
            case measure => (simp [intOf] <;> omega)
          have g1 : ((f : Int) == (v : Int)) = false := by rw [beq_eq_false_iff_ne]; omega
          have g1' : ((f : Int) != (v : Int)) = true := by rw [bne_iff_ne]; omega
          by_cases h2 : u = v
          · have g2 : ((u : Int) == (v : Int)) = true := by simp [h2]
            have g2' : ((u : Int) != (v : Int)) = false := by simp [h2]
            clear h1 h2 HonI
            go_upto_region 17 with fail
            refine wp_region_over (by kernel_rfl) (by kernel_rfl) ?_; (repeat (go_big_quiet_step (fail))); refine wpQuiet_nil ?_; rintro _ ⟨x, rfl⟩
            go_wp2
            go_roundw
            case rel => exact ⟨i + 1, by omega, by go_num, Hg.out.trans (by (repeat (first | exact gR _ | refine gO ?_ _ | refine gA ?_ _ | refine gD ?_ | refine gN ?_ _)))⟩
            case measure => (simp [intOf] <;> omega)
          · have g2 : ((u : Int) == (v : Int)) = false := by rw [beq_eq_false_iff_ne]; omega
            have g2' : ((u : Int) != (v : Int)) = true := by rw [bne_iff_ne]; omega
            have HonJ := Lib.hid (HonI.out h1 h2)
            unfold ptV at HonJ
            clear h1 h2 HonI
            go_upto_region 17 with fail
            refine wp_region_over (by kernel_rfl) (by kernel_rfl) ?_; (repeat (go_big_quiet_step ((go_at_call 24; apply over_call; with_reducible exact HonJ.out _)))); refine wpQuiet_nil ?_; rintro _ ⟨x, rfl⟩
            go_wp2
            go_roundw
            case rel => exact ⟨i + 1, by omega, by go_num, Hg.out.trans (by (repeat (first | exact gR _ | refine gO ?_ _ | refine gA ?_ _ | refine gD ?_ | refine gN ?_ _)))⟩
            case measure => (simp [intOf] <;> omega)
        · have hii : ¬ (i : Int) < (nE : Int) := by omega
          go_wp2
          go_roundw
          case rel => exact ⟨v + 1, by omega, by go_num, Hg.out.trans (by (repeat (first | exact gR _ | refine gO ?_ _ | refine gA ?_ _ | refine gD ?_ | refine gN ?_ _)))⟩
          case measure => (simp [intOf] <;> omega)
    · have hvi : ¬ (v : Int) < (nA : Int) := by omega
      clear hg
      go_wp2
      clear m0 m1 m2 hlw
      go_loopw [12, 13, 14, 15] (fun iv _ _ _ wr => ∃ i : Nat, i ≤ nE ∧ iv = .int .i64 i ∧ Grew w6 wr) (fun iv _ _ _ _ => nE - (intOf iv).toNat)
      case atStart => exact ⟨0, Nat.zero_le _, rfl, Hg.out.trans (by (repeat (first | exact gR _ | refine gO ?_ _ | refine gA ?_ _ | refine gD ?_ | refine gN ?_ _)))⟩
      case round =>
        clear Hg hv hvi hvl
        obtain ⟨i, hi, rfl, hg⟩ := hrel
        have Hg := Lib.hid hg
        have m0 := hg.cellEq K0.out
        have m1 := hg.cellEq K1.out
        have m2 := hg.cellEq K2.out
        have hlw := World.block_lt_of_cell? _ _ m0
        dsimp only at hlw
        by_cases hil : i < nE
        · have hii : (i : Int) < (nE : Int) := by omega
          clear hg
          go_wp2
          clear m0 m1 m2 hlw
          go_loopw [13, 14, 15] (fun kv _ _ wr => ∃ k : Nat, k ≤ i ∧ kv = .int .i64 k ∧ Grew w6 wr) (fun kv _ _ _ => i - (intOf kv).toNat)
          case atStart => exact ⟨0, Nat.zero_le _, rfl, Hg.out.trans (by (repeat (first | exact gR _ | refine gO ?_ _ | refine gA ?_ _ | refine gD ?_ | refine gN ?_ _)))⟩
          case round =>
            clear Hg
            obtain ⟨k, hk, rfl, hg⟩ := hrel
            have Hg := Lib.hid hg
            have m0 := hg.cellEq K0.out
            have m1 := hg.cellEq K1.out
            have m2 := hg.cellEq K2.out
            have hlw := World.block_lt_of_cell? _ _ m0
            dsimp only at hlw
            by_cases hkl : k < i
            · have hki : (k : Int) < (i : Int) := by omega
              have hkn : k < nE := by omega
              have hkni : (k : Int) < (nE : Int) := by omega
              obtain ⟨e0, e1⟩ := HcE.out i _ hil hg
              obtain ⟨d0, d1⟩ := HcE.out k _ hkn hg
              obtain ⟨hf, hu⟩ := HEX.out i hil
              obtain ⟨ha, hb⟩ := HEX.out k hkn
              have l6 := Nat.lt_of_lt_of_le lP hg.below.size
              have lE6 := Nat.lt_of_lt_of_le (Nat.lt_of_lt_of_le lE Hg6w.out.below.size) hg.below.size
              have HmI := Lib.hid (fun h1 h2 h3 h4 => Hme.out i k hil hkn h1 h2 h3 h4)
              obtain ⟨f, hfe⟩ : ∃ f, (EX i).1 = f := ⟨_, rfl⟩
              obtain ⟨u, hue⟩ : ∃ u, (EX i).2 = u := ⟨_, rfl⟩
              obtain ⟨a, hae⟩ : ∃ f, (EX k).1 = f := ⟨_, rfl⟩
              obtain ⟨b, hbe⟩ : ∃ u, (EX k).2 = u := ⟨_, rfl⟩
              rw [hfe, hue, hae, hbe] at HmI
              rw [hfe] at e0 hf
              rw [hue] at e1 hu
              rw [hae] at d0 ha
              rw [hbe] at d1 hb
              obtain ⟨p0, p1⟩ := HcP.out f _ hf hg
              obtain ⟨q0, q1⟩ := HcP.out u _ hu hg
              obtain ⟨x0, x1⟩ := HcP.out a _ ha hg
              obtain ⟨y0, y1⟩ := HcP.out b _ hb hg
              have k1 : (f : Int) < (nA : Int) := by omega
              have k2 : (u : Int) < (nA : Int) := by omega
              have k3 : (a : Int) < (nA : Int) := by omega
              have k4 : (b : Int) < (nA : Int) := by omega
              clear hg hfe hue hae hbe
              go_upto_region 25 with fail
              go_cut [14, 15] from 148 to 211 (fun v14 v15 wx => ∃ r4 r5 : Nat, v14 = .pointer (some ⟨r4, 0, none⟩) ∧ v15 = .pointer (some ⟨r5, 0, none⟩) ∧ Grew wr wx ∧ wx.cell? ⟨r4, 0, none⟩ = some (.int .i64 (f : Int)) ∧ wx.cell? ⟨r4, 1, none⟩ = some (.int .i64 (u : Int)) ∧ wx.cell? ⟨r5, 0, none⟩ = some (.int .i64 (a : Int)) ∧ wx.cell? ⟨r5, 1, none⟩ = some (.int .i64 (b : Int)))
              case first =>
                go_region
                all_goals
                  go_wp2
                  go_meet
                  exact ⟨_, _, rfl, rfl, by (repeat (first | exact gR _ | refine gO ?_ _ | refine gA ?_ _ | refine gD ?_ | refine gN ?_ _)), by simp [go_sem], by simp [go_sem], by simp [go_sem], by simp [go_sem]⟩
              case rest =>
                obtain ⟨r4, r5, rfl, rfl, hgn, t0, t1, v0, v1⟩ := hcut
                have Hgn := Lib.hid (Hg.out.trans hgn)
                replace m0 := hgn.cellEq m0
                replace m1 := hgn.cellEq m1
                replace m2 := hgn.cellEq m2
                replace p0 := hgn.cellEq p0
                replace p1 := hgn.cellEq p1
                replace q0 := hgn.cellEq q0
                replace q1 := hgn.cellEq q1
                replace x0 := hgn.cellEq x0
                replace x1 := hgn.cellEq x1
                replace y0 := hgn.cellEq y0
                replace y1 := hgn.cellEq y1
                replace l6 := Nat.lt_of_lt_of_le l6 hgn.below.size
                replace lE6 := Nat.lt_of_lt_of_le lE6 hgn.below.size
                have hlB := World.block_lt_of_cell? _ _ m0
                have hl4 := World.block_lt_of_cell? _ _ t0
                have hl5 := World.block_lt_of_cell? _ _ v0
                dsimp only at hlB hl4 hl5
                clear hgn Hg hlw e0 e1 d0 d1
                by_cases h1 : f = a
                · have g1 : ((f : Int) == (a : Int)) = true := by simp [h1]
                  have g1' : ((f : Int) != (a : Int)) = false := by simp [h1]
                  clear HmI h1
                  go_upto_region 26 with fail
                  refine wp_region_over (by kernel_rfl) (by kernel_rfl) ?_; (repeat (go_big_quiet_step (fail))); refine wpQuiet_nil ?_; rintro _ ⟨x, rfl⟩
                  go_wp2
                  go_roundw
                  case rel => exact ⟨k + 1, by omega, by go_num, Hgn.out.trans (by (repeat (first | exact gR _ | refine gO ?_ _ | refine gA ?_ _ | refine gD ?_ | refine gN ?_ _)))⟩
                  case measure => (simp [intOf] <;> omega)
                have g1 : ((f : Int) == (a : Int)) = false := by rw [beq_eq_false_iff_ne]; omega
                have g1' : ((f : Int) != (a : Int)) = true := by rw [bne_iff_ne]; omega
                by_cases h2 : f = b
                · have g2 : ((f : Int) == (b : Int)) = true := by simp [h2]
                  have g2' : ((f : Int) != (b : Int)) = false := by simp [h2]
                  clear HmI h1 h2
                  go_upto_region 26 with fail
                  refine wp_region_over (by kernel_rfl) (by kernel_rfl) ?_; (repeat (go_big_quiet_step (fail))); refine wpQuiet_nil ?_; rintro _ ⟨x, rfl⟩
                  go_wp2
                  go_roundw
                  case rel => exact ⟨k + 1, by omega, by go_num, Hgn.out.trans (by (repeat (first | exact gR _ | refine gO ?_ _ | refine gA ?_ _ | refine gD ?_ | refine gN ?_ _)))⟩
                  case measure => (simp [intOf] <;> omega)
                have g2 : ((f : Int) == (b : Int)) = false := by rw [beq_eq_false_iff_ne]; omega
                have g2' : ((f : Int) != (b : Int)) = true := by rw [bne_iff_ne]; omega
                by_cases h3 : u = a
                · have g3 : ((u : Int) == (a : Int)) = true := by simp [h3]
                  have g3' : ((u : Int) != (a : Int)) = false := by simp [h3]
                  clear HmI h1 h2 h3
                  go_upto_region 26 with fail
                  refine wp_region_over (by kernel_rfl) (by kernel_rfl) ?_; (repeat (go_big_quiet_step (fail))); refine wpQuiet_nil ?_; rintro _ ⟨x, rfl⟩
                  go_wp2
                  go_roundw
                  case rel => exact ⟨k + 1, by omega, by go_num, Hgn.out.trans (by (repeat (first | exact gR _ | refine gO ?_ _ | refine gA ?_ _ | refine gD ?_ | refine gN ?_ _)))⟩
                  case measure => (simp [intOf] <;> omega)
                have g3 : ((u : Int) == (a : Int)) = false := by rw [beq_eq_false_iff_ne]; omega
                have g3' : ((u : Int) != (a : Int)) = true := by rw [bne_iff_ne]; omega
                by_cases h4 : u = b
                · have g4 : ((u : Int) == (b : Int)) = true := by simp [h4]
                  have g4' : ((u : Int) != (b : Int)) = false := by simp [h4]
                  clear HmI h1 h2 h3 h4
                  go_upto_region 26 with fail
                  refine wp_region_over (by kernel_rfl) (by kernel_rfl) ?_; (repeat (go_big_quiet_step (fail))); refine wpQuiet_nil ?_; rintro _ ⟨x, rfl⟩
                  go_wp2
                  go_roundw
                  case rel => exact ⟨k + 1, by omega, by go_num, Hgn.out.trans (by (repeat (first | exact gR _ | refine gO ?_ _ | refine gA ?_ _ | refine gD ?_ | refine gN ?_ _)))⟩
                  case measure => (simp [intOf] <;> omega)
                have g4 : ((u : Int) == (b : Int)) = false := by rw [beq_eq_false_iff_ne]; omega
                have g4' : ((u : Int) != (b : Int)) = true := by rw [bne_iff_ne]; omega
                have HmJ := Lib.hid (HmI.out h1 h2 h3 h4)
                unfold ptV at HmJ
                clear HmI h1 h2 h3 h4
                go_upto_region 26 with fail
                refine wp_region_over (by kernel_rfl) (by kernel_rfl) ?_; (repeat (go_big_quiet_step ((go_at_call 25; apply over_call; with_reducible exact HmJ.out _)))); refine wpQuiet_nil ?_; rintro _ ⟨x, rfl⟩
                go_wp2
                go_roundw
                case rel => exact ⟨k + 1, by omega, by go_num, Hgn.out.trans (by (repeat (first | exact gR _ | refine gO ?_ _ | refine gA ?_ _ | refine gD ?_ | refine gN ?_ _)))⟩
                case measure => (simp [intOf] <;> omega)
            · have hki : ¬ (k : Int) < (i : Int) := by omega
              clear hg
              go_wp2
              go_roundw
              case rel => exact ⟨i + 1, by omega, by go_num, Hg.out.trans (by (repeat (first | exact gR _ | refine gO ?_ _ | refine gA ?_ _ | refine gD ?_ | refine gN ?_ _)))⟩
              case measure => (simp [intOf] <;> omega)
        · have hii : ¬ (i : Int) < (nE : Int) := by omega
          clear hg
          go_wp2_with (first | ((go_at_call 26; apply Calls.mono; (with_reducible exact Hva.out _ (Hg.out.trans (by (repeat (first | exact gR _ | refine gO ?_ _ | refine gA ?_ _ | refine gD ?_ | refine gN ?_ _))))); rintro e w' ⟨rfl, x, rfl⟩)) | ((go_at_call 9; apply Calls.mono; (with_reducible exact Haw.out _ (Hg6w.out.trans (Hg.out.trans (by (repeat (first | exact gR _ | refine gO ?_ _ | refine gA ?_ _ | refine gD ?_ | refine gN ?_ _)))))); rintro e w' ⟨rfl, x, rfl⟩)))
          go_ret
          exact ⟨rfl, Hg6w.out.trans (Hg.out.trans (by (repeat (first | exact gR _ | refine gO ?_ _ | refine gA ?_ _ | refine gD ?_ | refine gN ?_ _))))⟩
end Go.Proofs.YtlealdicoceekaaDoor

/- A law's row, lifted, where package-level variables are laid. -/
namespace Go.Proofs.YtlealdicoceekaaDoor
open Go.RowKit Go.ChangeShapes Go.WideShapes

theorem law_laid {H : Type} {enc : TypeId × Value → H} {C : Checked} {os : Os} {f : FuncId} {fn : Func} {s : ChangeSpec} {a : Assume} {apart fresh handsOn again : Bool} {tb : TypeId} (L : List (String × DataW Unit))
    (hown : ownKnob C.prog.godebug = none) (started : os.Started) (hi : C.prog.inits.idxOf? f = none) (hf : C.prog.funcs[f]? = some fn)
    (hwit : ∃ (w : World) (tape : Tape) (i : Input), w.os = os ∧ (w.forCall tape i).Shaped C.prog ∧ i.vars = [] ∧ Input.okWide C.prog (w.forCall tape i) .any w.heap.size f i ∧
      ((s.pre enc C.prog fn [] apart (w.forCall tape i).memory i.args ∧ laidMet C.prog L (w.forCall tape i).memory) ∧ sizedMet enc C.prog fn (OpenSpec.ofChange s) apart (w.forCall tape i).memory i.args) ∧ a.holds C.prog (lone (Frame.enter C.prog f i.args .normal) [] (w.forCall tape i)))
    (hl : laidOutB C.prog = true) (hres : fn.resultTypes = #[tb]) (hb : C.prog.underlying tb = some .bool) (hread : (fn.params.toList.all fun t => C.prog.readableRec t && decide (t < C.prog.types.size)) = true)
    (hvars : s.vars = [])
    (hs : ∀ ds : List (DataW H), ds.length = fn.params.size → (s.fn H ds).results = [.lit (.bool true)] ∧ (s.fn H ds).args = ds ∧ (s.fn H ds).vars = [])
    (hwalk : ∀ (W : World) (base : Nat) (args : Array Value) (ds : List (DataW H)) (ps : List MemPlace),
      (∀ (j : Nat) (t : TypeId) (v : Value), fn.params[j]? = some t → args[j]? = some v → Value.okWide C.prog W Reach.any base t v) →
      DataW.TrodAll enc C.prog W 0 (fun _ => true) true fn.params.toList args.toList ds ps → laidMet C.prog L W →
      Calls C.prog f args W fun e w' => e = .returned (.bool true) ∧ Grew W w') :
    ReturnsInHanded a C os f .any (fun w args => (s.pre enc C.prog fn [] apart w args ∧ laidMet C.prog L w) ∧ sizedMet enc C.prog fn (OpenSpec.ofChange s) apart w args) (s.post enc C.prog fn apart fresh handsOn again) := by
  refine returnsInHanded_of_change_and (X := fun w _ => laidMet C.prog L w) (fun _ _ _ hh h => h.of_heap hh) hown started hi hf hwit ?_
  intro W base args ds gs before hval hW _ _ hL _
  obtain ⟨p, q, h1, h2, _, _, _⟩ := id hW
  have hgs : gs = [] := by
    rw [hvars] at h2
    cases gs with
    | nil => rfl
    | cons => exact h2.elim
  subst hgs
  have hlen : ds.length = fn.params.size := by
    have : ∀ {ts : List TypeId} {vs : List Value} {ds : List (DataW H)} {ps : List MemPlace}, DataW.TrodAll enc C.prog W 0 (fun _ => true) true ts vs ds ps → ds.length = ts.length := by
      intro ts
      induction ts with
      | nil => intro vs ds ps h; cases vs <;> cases ds <;> first | rfl | exact h.elim
      | cons t ts ih =>
        intro vs ds ps h
        cases vs with
        | nil => exact h.elim
        | cons v vs =>
          cases ds with
          | nil => exact h.elim
          | cons d ds =>
            obtain ⟨_, _, _, h', _⟩ := h
            simp [ih h']
    simpa using this h1
  have hs' := hs ds hlen
  refine (hwalk W base args ds p hval h1 hL).mono fun e W' ⟨he, hg⟩ => ⟨_, he, ?_⟩
  exact law_post hl hres hb hread hvars (by rw [List.append_nil]; exact hs'.1) (by rw [List.append_nil]; exact hs'.2.1) (by rw [List.append_nil]; exact hs'.2.2) hW hg
end Go.Proofs.YtlealdicoceekaaDoor
