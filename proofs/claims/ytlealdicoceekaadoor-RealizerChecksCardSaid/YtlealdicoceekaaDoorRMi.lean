/- Joined by a program from the texts Awk Law Laid. -/
import Derived.Test.YtlealdicoceekaaDoorRMh
import Derived.LaidLaws
import Derived.Lib.LaidTab
import Derived.SevenTiedAt
/- The chapter's example: awake. -/
set_option linter.unusedSimpArgs false
set_option linter.unusedVariables false
namespace Go.Proofs.YtlealdicoceekaaDoor
open Go.RowKit
attribute [local go_sem ↓] Go.wp_at_zero Go.wp_at_succ

def E4 : List (Int × Int) := [(0, 1), (0, 2), (0, 3), (1, 2), (2, 3), (3, 1)]
def A4 : List (List Int) := [[0, 2, 4], [1, 11, 6], [3, 7, 8], [5, 9, 10]]
def L4 : List Int := [-1, -1, -1, 0, -1, -1, -1, 1, 2, -1, -1, -1]
theorem vRot4 : vRot 4 E4 A4 := by
  refine ⟨by decide, by decide, by decide, rfl, fun i hi => ?_, ?_, ?_, ?_⟩
  · have : i = 0 ∨ i = 1 ∨ i = 2 ∨ i = 3 ∨ i = 4 ∨ i = 5 := by simp [E4] at hi; omega
    rcases this with rfl | rfl | rfl | rfl | rfl | rfl <;> (unfold okEdge; decide +kernel)
  · show ∀ q ∈ pre A4 A4.length, 0 ≤ q.2 ∧ q.2 < 2 * (E4.length : Int) ∧ tailE E4 q.2 = q.1
    decide +kernel
  · decide +kernel
  · decide +kernel
theorem v4B : vRotB 4 E4 A4 = true := vRotB_iff.2 vRot4
theorem fc4 : facesO 4 E4 A4 = [[0, 11, 5], [1, 2, 7], [3, 4, 9], [6, 8, 10]] := by unfold facesO; rw [if_pos v4B]; decide +kernel
theorem cntP_not {p : Nat → Prop} {n : Nat} (h : ¬ p n) : cntP p (n + 1) = cntP p n := by simp only [cntP]; rw [if_neg h]; rfl
theorem cn4 : cntL E4 A4.length = 1 := by
  refine (one_comp (by decide)).2 fun v hv => ?_
  have : v = 0 ∨ v = 1 ∨ v = 2 ∨ v = 3 := by simp [A4] at hv; omega
  rcases this with rfl | rfl | rfl | rfl
  · exact Cn.refl _
  · exact (Cn.refl _).step ⟨0, by decide, Or.inl ⟨rfl, rfl⟩⟩
  · exact (Cn.refl _).step ⟨1, by decide, Or.inl ⟨rfl, rfl⟩⟩
  · exact (Cn.refl _).step ⟨2, by decide, Or.inl ⟨rfl, rfl⟩⟩
theorem gn4 : genusF 4 E4 A4 = 0 := by
  unfold genusF
  have h2 : cntP (fun u => (rowOf A4 u).length = 0) A4.length = 0 := by
    show cntP _ 4 = 0
    rw [cntP_not (by decide), cntP_not (by decide), cntP_not (by decide), cntP_not (by decide)]
    rfl
  rw [if_pos v4B, fc4, cn4, h2]
  decide
theorem tg4 : trgB 4 E4 A4 = true := by
  unfold trgB chkC connB
  rw [if_pos gn4, cn4, fc4, show simB E4 = true by decide +kernel]
  decide
theorem tl4 (d : Int) (h0 : 0 ≤ d) (h1 : d < 12) : tailF 4 E4 A4 d = tailE E4 d := by unfold tailF; rw [if_pos ⟨v4B, h0, h1⟩]
theorem nx4 (d : Int) (h0 : 0 ≤ d) (h1 : d < 12) : nextF 4 E4 A4 d = sucF A4 (oth d) := by unfold nextF; rw [if_pos ⟨v4B, h0, h1⟩]
theorem th4 : thirdF 4 E4 A4 = 3 := by
  unfold thirdF
  rw [nx4 0 (by decide) (by decide), show sucF A4 (oth 0) = 11 by decide +kernel, nx4 11 (by decide) (by decide), show sucF A4 (oth 11) = 5 by decide +kernel, tl4 5 (by decide) (by decide)]
  decide +kernel
theorem t04 : tailF 4 E4 A4 0 = 0 ∧ tailF 4 E4 A4 1 = 1 := ⟨by rw [tl4 0 (by decide) (by decide)]; decide +kernel, by rw [tl4 1 (by decide) (by decide)]; decide +kernel⟩
theorem hd4 (O : List Int) : headB 4 E4 A4 O = (decide ((O.length : Int) = 4) && decide (ge O 0 = 0) && decide (ge O 1 = 1) && decide (ge O 3 = 3)) := by
  unfold headB
  rw [t04.1, t04.2, th4]
  rfl
theorem ck4 : chkO 4 E4 A4 [0, 1, 2, 3] = true := by
  unfold chkO
  rw [tg4, hd4]
  decide +kernel
theorem ck4n : chkO 4 E4 A4 [0, 1, 3, 2] = false := by
  unfold chkO
  rw [tg4, hd4]
  decide +kernel
theorem bu4 : buildRes 4 E4 A4 [0, 1, 2, 3] = (L4, 0) := by
  unfold buildRes
  rw [tg4, ck4]
  decide +kernel
theorem bu4n : buildRes 4 E4 A4 [0, 1, 3, 2] = ([], 1) := by
  unfold buildRes
  rw [tg4, ck4n]
  decide +kernel
theorem ft4 : fitB E4 A4 L4 = true := by decide +kernel
theorem pa4 : parRes 4 E4 A4 L4 2 = ([-1, -1, 3, -1], 0) := by
  unfold parRes
  rw [tg4, ft4]
  decide +kernel
open Classical in
theorem reg_one {R : Int → Int → Prop} {F : Nat} {a : Nat} (h : ∀ f g, ¬ R f g) (ha : a < F) : regN R F a = 1 := by
  have hr : ∀ f, Rc R a f ↔ f = a := fun f => ⟨fun k => by
    cases k with
    | refl => rfl
    | step _ k => exact absurd k (h _ _), fun e => by rw [e]; exact Rc.refl⟩
  unfold regN
  have : (idL F).filter (fun f => decide (Rc R a f)) = [(a : Int)] := by
    refine list_one ((idL_nodup F).sublist List.filter_sublist) (List.mem_filter.2 ⟨mem_idL.2 ⟨by omega, by omega⟩, by simpa using Rc.refl⟩) fun x hx => ?_
    exact (hr x).1 (of_decide_eq_true (List.mem_filter.1 hx).2)
  rw [this]
  rfl
theorem rf4 (d : Nat) (hd : d < 12) : regF 4 E4 A4 L4 2 (d : Int) = 1 := by
  unfold regF
  obtain ⟨h0, h1, h2⟩ := face_range vRot4 (d := d) hd
  rw [Int.toNat_natCast]
  obtain ⟨a, ha⟩ : ∃ a : Nat, ge (faceL 4 E4 A4) d = (a : Int) := ⟨(ge (faceL 4 E4 A4) d).toNat, by omega⟩
  rw [ha] at h1 ⊢
  refine reg_one (fun f g ⟨e, he, _, hw, _⟩ => hw ?_) (by omega)
  have key : ∀ e : Nat, e < 12 → ((e : Int) / 2) ∈ wallF E4 A4 L4 2 := by decide +kernel
  exact key e he
theorem dr4 : drawRes 4 E4 A4 L4 = ([(0, 0), (3, 0), (1, 1), (0, 3)], 0) := by
  unfold drawRes drawL
  rw [tg4, ft4, if_neg (by decide), if_neg (by decide)]
  have hr : rts E4 A4 = [0, 1, 3] := by decide +kernel
  have h2 : ptF 4 E4 A4 L4 2 = (1, 1) := by
    unfold ptF
    rw [hr, if_neg (by decide), show oth (nxF A4 (nxF A4 0)) = ((4 : Nat) : Int) by decide +kernel, rf4 4 (by decide), show (1 : Int) = ((1 : Nat) : Int) from rfl, rf4 1 (by decide)]
  show ([ptF 4 E4 A4 L4 0, ptF 4 E4 A4 L4 1, ptF 4 E4 A4 L4 2, ptF 4 E4 A4 L4 3], (0 : Int)) = _
  rw [h2]
  unfold ptF
  rw [hr]
  decide
theorem ac4 : trgB 4 E4 A4 = true → fitB E4 A4 L4 = true → Acy E4 A4 L4 := fun h1 h2 => sch_acy h1 (fit_sch h1 h2)

/-! ### In memory -/
theorem Prs.made (W : World) (t : TypeId) (E : List (Int × Int)) (cs : Array Value) (b : Nat) (hcs : cs.toList = prVs E) (hb : b = W.heap.size) (hl : E.length ≤ 1000) : Prs (W.alloc (.cells cs t)) (some ⟨b, 0, none⟩) E := by
  subst hb
  refine ⟨by omega, W.heap.size, 0, fun _ => ⟨rfl, by simp⟩, fun i hi => ?_⟩
  obtain ⟨g1, g2⟩ := prVs_get E i hi
  rw [cell?_alloc_if, if_neg (by omega), if_pos rfl, cell?_alloc_if, if_neg (by omega), if_pos rfl, Nat.zero_add, ← Array.getElem?_toList, ← Array.getElem?_toList, hcs]
  exact ⟨g1, g2⟩
theorem Tryd.infoRot : (Tryd.prog.info? 25).map (fun i => (i.zero, i.size, i.bytes)) = some (some (.agg #[.int .i64 0, .slice none 0 0, .slice none 0 0]), 3, 56) := by kernel_rfl
theorem ret_rot0 {fn : Func} {R : Ending → World → Prop} {a : Act} {w : World} (h : fn.results = #[.cell 0 25]) {g : Nat} {t : TypeId} {fr : Nat × Nat} {v0 v1 v2 : Value}
    (hp : a.tmps.getD 0 undef = .pointer (some ⟨g, 0, none⟩)) (hg : w.heap[g]? = some (.cells #[v0, v1, v2] t fr)) (hd : a.defers = [])
    (hR : R (.returned (.agg #[v0, v1, v2])) w) : bodyPost Tryd.prog fn R .ret a w := by
  obtain ⟨i0, hi, _, hz1, _⟩ := info_parts Tryd.infoRot
  exact bodyPost_ret (results_cell_row h a.tmps w g t #[v0, v1, v2] fr _ hp hg Tryd.underlying25 rfl (by simp [hi, hz1])) hd hR
def mat4 (w : World) (tE ti ts : TypeId) (cE c1 c2 c3 c4 : Array Value) (b1 b2 b3 b4 n1 n2 n3 n4 : Nat) : World :=
  (((((w.alloc (.cells cE tE)).alloc (.cells c1 ti)).alloc (.cells c2 ti)).alloc (.cells c3 ti)).alloc (.cells c4 ti)).alloc (.cells #[.slice (some ⟨b1, 0, none⟩) n1 n1, .slice (some ⟨b2, 0, none⟩) n2 n2, .slice (some ⟨b3, 0, none⟩) n3 n3, .slice (some ⟨b4, 0, none⟩) n4 n4] ts)
theorem mat4_at (w : World) (tE ti ts : TypeId) (cE c1 c2 c3 c4 : Array Value) (b0 b1 b2 b3 b4 b5 n1 n2 n3 n4 : Nat) (E : List (Int × Int)) (r1 r2 r3 r4 : List Int) (h0 : b0 = w.heap.size) (h1 : b1 = w.heap.size + 1) (h2 : b2 = w.heap.size + 2) (h3 : b3 = w.heap.size + 3) (h4 : b4 = w.heap.size + 4) (h5 : b5 = w.heap.size + 5)
    (hE : cE.toList = prVs E) (e1 : c1.toList = r1.map (Value.int .i64)) (e2 : c2.toList = r2.map (Value.int .i64)) (e3 : c3.toList = r3.map (Value.int .i64)) (e4 : c4.toList = r4.map (Value.int .i64)) (l1 : r1.length = n1) (l2 : r2.length = n2) (l3 : r3.length = n3) (l4 : r4.length = n4)
    (hle : E.length ≤ 100) (hl1 : n1 ≤ 100) (hl2 : n2 ≤ 100) (hl3 : n3 ≤ 100) (hl4 : n4 ≤ 100) (hb : ∀ r ∈ [r1, r2, r3, r4], ∀ x ∈ r, -9223372036854775808 ≤ x ∧ x ≤ 9223372036854775807) :
    RotAt (mat4 w tE ti ts cE c1 c2 c3 c4 b1 b2 b3 b4 n1 n2 n3 n4) (some ⟨b0, 0, none⟩) (some ⟨b5, 0, none⟩) E [r1, r2, r3, r4] ∧ Grew w (mat4 w tE ti ts cE c1 c2 c3 c4 b1 b2 b3 b4 n1 n2 n3 n4) := by
  subst h0 h1 h2 h3 h4 h5 l1 l2 l3 l4
  have i1 := Ints.made (w.alloc (.cells cE tE)) ti r1 c1 (w.heap.size + 1) e1 (by simp) (by omega) (hb r1 (by simp))
  have i2 := Ints.made ((w.alloc (.cells cE tE)).alloc (.cells c1 ti)) ti r2 c2 (w.heap.size + 2) e2 (by simp) (by omega) (hb r2 (by simp))
  have i3 := Ints.made (((w.alloc (.cells cE tE)).alloc (.cells c1 ti)).alloc (.cells c2 ti)) ti r3 c3 (w.heap.size + 3) e3 (by simp) (by omega) (hb r3 (by simp))
  have i4 := Ints.made ((((w.alloc (.cells cE tE)).alloc (.cells c1 ti)).alloc (.cells c2 ti)).alloc (.cells c3 ti)) ti r4 c4 (w.heap.size + 4) e4 (by simp) (by omega) (hb r4 (by simp))
  refine ⟨⟨(Prs.made w tE E cE w.heap.size hE rfl (by omega)).grew (by unfold mat4; (repeat (first | exact gR _ | refine gO ?_ _ | refine gA ?_ _ | refine gD ?_ | refine gN ?_ _))), ?_, hle, by simp, fun v hv => ?_⟩, by unfold mat4; (repeat (first | exact gR _ | refine gO ?_ _ | refine gA ?_ _ | refine gD ?_ | refine gN ?_ _))⟩
  · refine Mat.made _ _ _ _ _ (fun u => if u = 0 then some ⟨w.heap.size + 1, 0, none⟩ else if u = 1 then some ⟨w.heap.size + 2, 0, none⟩ else if u = 2 then some ⟨w.heap.size + 3, 0, none⟩ else some ⟨w.heap.size + 4, 0, none⟩) (fun u => if u = 0 then r1.length else if u = 1 then r2.length else if u = 2 then r3.length else r4.length) (by simp) (by simp) (fun u hu => ?_)
    match u, hu with
    | 0, _ => exact ⟨rfl, i1.grew (by (repeat (first | exact gR _ | refine gO ?_ _ | refine gA ?_ _ | refine gD ?_ | refine gN ?_ _)))⟩
    | 1, _ => exact ⟨rfl, i2.grew (by (repeat (first | exact gR _ | refine gO ?_ _ | refine gA ?_ _ | refine gD ?_ | refine gN ?_ _)))⟩
    | 2, _ => exact ⟨rfl, i3.grew (by (repeat (first | exact gR _ | refine gO ?_ _ | refine gA ?_ _ | refine gD ?_ | refine gN ?_ _)))⟩
    | 3, _ => exact ⟨rfl, i4.grew (by (repeat (first | exact gR _ | refine gO ?_ _ | refine gA ?_ _ | refine gD ?_ | refine gN ?_ _)))⟩
  · match v, hv with
    | 0, _ => exact hl1
    | 1, _ => exact hl2
    | 2, _ => exact hl3
    | 3, _ => exact hl4

set_option maxRecDepth 8000 in
set_option maxHeartbeats 8000000 in
theorem four_l (w : World) : Calls Tryd.prog 27 #[] w fun e w' => (∃ pE pA, e = .returned (.agg #[.int .i64 4, .slice pE 6 6, .slice pA 4 4]) ∧ RotIn w' pE pA 6 E4 A4) ∧ Grew w w' := by
  go_enter Tryd.func27, Tryd.ntmps27
  go_wp2
  obtain ⟨w1, hw1⟩ : ∃ w1, w.alloc (.cells #[.int .i64 4, .slice (some ⟨w.heap.size + 1, 0, none⟩) 6 6, .slice (some ⟨w.heap.size + 1 + 1 + 1 + 1 + 1 + 1, 0, none⟩) 4 4] 25) = w1 := ⟨_, rfl⟩
  have hs1 : w1.heap.size = w.heap.size + 1 := by rw [← hw1]; simp
  obtain ⟨hR, hG⟩ := mat4_at w1 45 3 26 #[.int .i64 0, .int .i64 1, .int .i64 0, .int .i64 2, .int .i64 0, .int .i64 3, .int .i64 1, .int .i64 2, .int .i64 2, .int .i64 3, .int .i64 3, .int .i64 1] #[.int .i64 0, .int .i64 2, .int .i64 4] #[.int .i64 1, .int .i64 11, .int .i64 6] #[.int .i64 3, .int .i64 7, .int .i64 8] #[.int .i64 5, .int .i64 9, .int .i64 10]
    (w.heap.size + 1) (w.heap.size + 1 + 1) (w.heap.size + 1 + 1 + 1) (w.heap.size + 1 + 1 + 1 + 1) (w.heap.size + 1 + 1 + 1 + 1 + 1) (w.heap.size + 1 + 1 + 1 + 1 + 1 + 1) 3 3 3 3 E4 [0, 2, 4] [1, 11, 6] [3, 7, 8] [5, 9, 10]
    (by omega) (by omega) (by omega) (by omega) (by omega) (by omega) rfl rfl rfl rfl rfl rfl rfl rfl rfl (by decide) (by decide) (by decide) (by decide) (by decide) (by decide)
  have hW : Grew w w1 := by rw [← hw1]; (repeat (first | exact gR _ | refine gO ?_ _ | refine gA ?_ _ | refine gD ?_ | refine gN ?_ _))
  have hb : w1.heap[w.heap.size]? = some (.cells #[.int .i64 4, .slice (some ⟨w.heap.size + 1, 0, none⟩) 6 6, .slice (some ⟨w.heap.size + 1 + 1 + 1 + 1 + 1 + 1, 0, none⟩) 4 4] 25) := by rw [← hw1, heap_alloc_if, if_neg (by omega), if_pos rfl]
  have hb2 := (hG.below.block w.heap.size (by omega)).trans hb
  rw [hw1]
  refine ret_rot0 rfl rfl hb2 rfl ⟨⟨_, _, rfl, ⟨hR.aw, Or.inl (by decide), by decide, by decide⟩⟩, hW.trans hG⟩

def ThreePost (n : Nat) (xs : List Int) (w : World) (e : Ending) (w' : World) : Prop :=
  (∃ q cap, e = .returned (.tuple #[.slice q n cap, .int .i64 0]) ∧ Ints w' q xs) ∧ ∃ x, w' = over w x
section
variable {pE pA : Option Addr} {cE cA : Nat} {w : World}
theorem build4_l {pO : Option Addr} (hR : RotIn w pE pA cE E4 A4) (hL : Lim w) (hO : Ints w pO [0, 1, 2, 3]) : Calls Tryd.prog 10 #[.agg #[.int .i64 4, .slice pE 6 cE, .slice pA 4 cA], .slice pO 4 4] w (ThreePost 12 L4 w) := by
  have h := build_p 4 pE pA pO 6 4 4 cE cA 4 E4 A4 [0, 1, 2, 3] w hR hL hO (by decide) (by decide) (by decide) rfl rfl rfl
  rw [bu4] at h
  exact h.mono fun e w' ⟨hg, q, cap, h1, h2, _⟩ => ⟨⟨q, cap, h1, h2⟩, hg⟩
theorem build4n_l {pO : Option Addr} (hR : RotIn w pE pA cE E4 A4) (hL : Lim w) (hO : Ints w pO [0, 1, 3, 2]) : Calls Tryd.prog 10 #[.agg #[.int .i64 4, .slice pE 6 cE, .slice pA 4 cA], .slice pO 4 4] w fun e w' => (∃ q cap, e = .returned (.tuple #[.slice q 0 cap, .int .i64 1])) ∧ Grew w w' := by
  have h := build_p 4 pE pA pO 6 4 4 cE cA 4 E4 A4 [0, 1, 3, 2] w hR hL hO (by decide) (by decide) (by decide) rfl rfl rfl
  rw [bu4n] at h
  exact h.mono fun e w' ⟨hg, q, cap, h1, h2, _⟩ => ⟨⟨q, cap, h1⟩, hg⟩
theorem par4_l {pL : Option Addr} {cL : Nat} (hR : RotIn w pE pA cE E4 A4) (hL : Lim w) (hI : Ints w pL L4) : Calls Tryd.prog 13 #[.agg #[.int .i64 4, .slice pE 6 cE, .slice pA 4 cA], .slice pL 12 cL, .int .i64 2] w (ThreePost 4 [-1, -1, 3, -1] w) := by
  have h := parents_p 4 pE pA pL 6 4 12 cE cA cL E4 A4 L4 2 w hR hL hI rfl rfl rfl (by decide)
  rw [pa4] at h
  exact h.mono fun e w' ⟨hg, q, cap, h1, h2, _⟩ => ⟨⟨q, cap, h1, h2⟩, hg⟩
theorem check4_l {pL : Option Addr} {cL : Nat} (hR : RotIn w pE pA cE E4 A4) (hL : Lim w) (hI : Ints w pL L4) : Calls Tryd.prog 15 #[.agg #[.int .i64 4, .slice pE 6 cE, .slice pA 4 cA], .slice pL 12 cL] w fun e w' => e = .returned (.bool true) ∧ Grew w w' := by
  have h := check38_p 4 pE pA pL 6 4 12 cE cA cL E4 A4 L4 w hR hL hI rfl rfl rfl (by decide)
  rw [show chk38 4 E4 A4 L4 = true by unfold chk38; rw [tg4, ft4]; rfl] at h
  exact h
theorem draw4_l {pL : Option Addr} {cL : Nat} (hR : RotIn w pE pA cE E4 A4) (hL : Lim w) (hI : Ints w pL L4) : Calls Tryd.prog 17 #[.agg #[.int .i64 4, .slice pE 6 cE, .slice pA 4 cA], .slice pL 12 cL] w fun e w' => (∃ q cap, e = .returned (.tuple #[.slice q 4 cap, .int .i64 0]) ∧ Prs w' q [(0, 0), (3, 0), (1, 1), (0, 3)]) ∧ ∃ x, w' = over w x := by
  have h := draw_p 4 pE pA pL 6 4 12 cE cA cL E4 A4 L4 w hR hL hI rfl rfl rfl (by decide) ac4
  rw [dr4] at h
  exact h.mono fun e w' ⟨hg, q, cap, h1, h2, _⟩ => ⟨⟨q, cap, h1, h2⟩, hg⟩
end
set_option maxRecDepth 8000 in
set_option maxHeartbeats 8000000 in
theorem awake_l (w : World) (hL : Lim w) : Calls Tryd.prog 9 #[] w fun e w' => e = .returned (.bool true) ∧ Grew w w' := by
  have HL := Lib.hid hL
  clear hL
  go_enter Tryd.func9, Tryd.ntmps9
  go_wp2_with (first
    | (go_at_call 27; apply Calls.mono; (with_reducible exact four_l _); rintro e wx ⟨⟨pE, pA, rfl, hRf⟩, x2, rfl⟩; have HRf := Lib.hid hRf; clear hRf)
    | (go_at_call 10; apply Calls.mono; (with_reducible exact build4_l (HRf.out.grew (by (repeat (first | exact gR _ | refine gO ?_ _ | refine gA ?_ _ | refine gD ?_ | refine gN ?_ _)))) (HL.out.grew (by (repeat (first | exact gR _ | refine gO ?_ _ | refine gA ?_ _ | refine gD ?_ | refine gN ?_ _)))) (Ints.made _ _ [0, 1, 2, 3] _ _ rfl (by first | rfl | omega | (simp <;> omega)) (by decide) (by decide))); rintro e wx ⟨⟨ql, cl, rfl, hIl⟩, x3, rfl⟩; have HIl := Lib.hid hIl; clear hIl)
    | (go_at_call 17; apply Calls.mono; (with_reducible exact draw4_l (HRf.out.grew (by (repeat (first | exact gR _ | refine gO ?_ _ | refine gA ?_ _ | refine gD ?_ | refine gN ?_ _)))) (HL.out.grew (by (repeat (first | exact gR _ | refine gO ?_ _ | refine gA ?_ _ | refine gD ?_ | refine gN ?_ _)))) (HIl.out.grew (by (repeat (first | exact gR _ | refine gO ?_ _ | refine gA ?_ _ | refine gD ?_ | refine gN ?_ _))))); rintro e wx ⟨⟨qp, cp, rfl, hPp⟩, x4, rfl⟩; have HPp := Lib.hid hPp; clear hPp)
    | (go_at_call 10; apply Calls.mono; (with_reducible exact build4n_l (HRf.out.grew (by (repeat (first | exact gR _ | refine gO ?_ _ | refine gA ?_ _ | refine gD ?_ | refine gN ?_ _)))) (HL.out.grew (by (repeat (first | exact gR _ | refine gO ?_ _ | refine gA ?_ _ | refine gD ?_ | refine gN ?_ _)))) (Ints.made _ _ [0, 1, 3, 2] _ _ rfl (by first | rfl | omega | (simp <;> omega)) (by decide) (by decide))); rintro e wx ⟨⟨qn, cn, rfl⟩, x5, rfl⟩)
    | (go_at_call 13; apply Calls.mono; (with_reducible exact par4_l (HRf.out.grew (by (repeat (first | exact gR _ | refine gO ?_ _ | refine gA ?_ _ | refine gD ?_ | refine gN ?_ _)))) (HL.out.grew (by (repeat (first | exact gR _ | refine gO ?_ _ | refine gA ?_ _ | refine gD ?_ | refine gN ?_ _)))) (HIl.out.grew (by (repeat (first | exact gR _ | refine gO ?_ _ | refine gA ?_ _ | refine gD ?_ | refine gN ?_ _))))); rintro e wx ⟨⟨qu, cu, rfl, hIu⟩, x6, rfl⟩; have HIu := Lib.hid hIu; clear hIu)
    | (go_at_call 12; apply Calls.mono; (with_reducible exact same_eq rfl (HIl.out.grew (by (repeat (first | exact gR _ | refine gO ?_ _ | refine gA ?_ _ | refine gD ?_ | refine gN ?_ _)))) (Ints.made _ _ L4 _ _ rfl (by first | rfl | omega | (simp <;> omega)) (by decide) (by decide))); rintro e wx ⟨rfl, x7, rfl⟩)
    | (go_at_call 12; apply Calls.mono; (with_reducible exact same_eq rfl (HIu.out.grew (by (repeat (first | exact gR _ | refine gO ?_ _ | refine gA ?_ _ | refine gD ?_ | refine gN ?_ _)))) (Ints.made _ _ [-1, -1, 3, -1] _ _ rfl (by first | rfl | omega | (simp <;> omega)) (by decide) (by decide))); rintro e wx ⟨rfl, x8, rfl⟩)
    | (go_at_call 19; apply Calls.mono; (with_reducible exact points_eq rfl (HPp.out.grew (by (repeat (first | exact gR _ | refine gO ?_ _ | refine gA ?_ _ | refine gD ?_ | refine gN ?_ _)))) (Prs.made _ _ [(0, 0), (3, 0), (1, 1), (0, 3)] _ _ rfl (by first | rfl | omega | (simp <;> omega)) (by decide))); rintro e wx ⟨rfl, x9, rfl⟩)
    | (go_at_call 15; apply Calls.mono; (with_reducible exact check4_l (HRf.out.grew (by (repeat (first | exact gR _ | refine gO ?_ _ | refine gA ?_ _ | refine gD ?_ | refine gN ?_ _)))) (HL.out.grew (by (repeat (first | exact gR _ | refine gO ?_ _ | refine gA ?_ _ | refine gD ?_ | refine gN ?_ _)))) (HIl.out.grew (by (repeat (first | exact gR _ | refine gO ?_ _ | refine gA ?_ _ | refine gD ?_ | refine gN ?_ _))))); rintro e wx ⟨rfl, x10, rfl⟩))
  go_ret
  exact ⟨rfl, by (repeat (first | exact gR _ | refine gO ?_ _ | refine gA ?_ _ | refine gD ?_ | refine gN ?_ _))⟩
end Go.Proofs.YtlealdicoceekaaDoor

/- RealizerBuilds, RealizerChecks, RealizerDraws: the laws' calls. -/
namespace Go.Proofs.YtlealdicoceekaaDoor
open Go.RowKit
attribute [local go_sem ↓] Go.wp_at_zero Go.wp_at_succ

theorem few38_in {N : Int} {w : World} {pE pA : Option Addr} {cE : Nat} {E : List (Int × Int)} {A : List (List Int)} (h : few38B N E A = true) (hE : Prs w pE E) (hA : Mat w pA A) (c1 : E.length ≤ cE) (c2 : cE ≤ maxLen) : RotIn w pE pA cE E A := by
  unfold few38B at h
  rw [Bool.and_eq_true] at h
  exact few_in h.1 hE hA c1 c2
section
variable (N : Int) (pE pA pO : Option Addr) (nE nA nO cE cA cO : Nat) (E : List (Int × Int)) (A : List (List Int)) (O : List Int) (w : World)
set_option maxHeartbeats 4000000 in
theorem buildsL (hE : Prs w pE E) (hA : Mat w pA A) (c1 : E.length ≤ cE) (c2 : cE ≤ maxLen) (hO : Ints w pO O)
    (c3 : nO ≤ cO) (c4 : cO ≤ maxLen) (hL : Lim w) (hnE : E.length = nE) (hnA : A.length = nA) (hnO : O.length = nO) :
    Calls Tryd.prog 3 #[.agg #[.int .i64 N, .slice pE nE cE, .slice pA nA cA], .slice pO nO cO] w fun e w' => e = .returned (.bool true) ∧ Grew w w' := by
  have HL := Lib.hid hL
  have HO := Lib.hid hO
  have HE := Lib.hid hE
  have HA := Lib.hid hA
  have Haw : Hid (∀ W1, Grew w W1 → Calls Tryd.prog 9 #[] W1 fun e w' => e = .returned (.bool true) ∧ Grew W1 w') := Lib.hid (fun W1 h => awake_l W1 (HL.out.grew h))
  obtain ⟨s, hs⟩ : ∃ s, few38B N E A = s := ⟨_, rfl⟩
  have Hs : Hid (∀ W1, Grew w W1 → Calls Tryd.prog 8 #[.agg #[.int .i64 N, .slice pE nE cE, .slice pA nA cA]] W1 fun e w' => e = .returned (.bool s) ∧ Grew W1 w') := Lib.hid (fun W1 h => by
    rw [← hs]
    exact few38_l N pE pA nE nA cE cA E A W1 (HE.out.grew h) (HA.out.grew h) c1 c2 hnE hnA)
  cases s
  case false =>
    clear hs hE hA hO hL
    go_enter Tryd.func3, Tryd.ntmps3
    go_wp2_with (first
      | ((go_at_call 8; apply Calls.mono; (with_reducible exact Hs.out _ (by (repeat (first | exact gR _ | refine gO ?_ _ | refine gA ?_ _ | refine gD ?_ | refine gN ?_ _)))); rintro e w' ⟨rfl, x, rfl⟩))
      | ((go_at_call 9; apply Calls.mono; (with_reducible exact Haw.out _ (by (repeat (first | exact gR _ | refine gO ?_ _ | refine gA ?_ _ | refine gD ?_ | refine gN ?_ _)))); rintro e w' ⟨rfl, x, rfl⟩)))
    go_ret
    exact ⟨rfl, by (repeat (first | exact gR _ | refine gO ?_ _ | refine gA ?_ _ | refine gD ?_ | refine gN ?_ _))⟩
  case true =>
  have HR := Lib.hid (few38_in hs hE hA c1 c2)
  clear hs hE hA hO hL
  by_cases h20 : 20 < nO
  · have g1 : (20 : Int) < (nO : Int) := by omega
    go_enter Tryd.func3, Tryd.ntmps3
    go_wp2_with (first
      | ((go_at_call 8; apply Calls.mono; (with_reducible exact Hs.out _ (by (repeat (first | exact gR _ | refine gO ?_ _ | refine gA ?_ _ | refine gD ?_ | refine gN ?_ _)))); rintro e w' ⟨rfl, x, rfl⟩))
      | ((go_at_call 9; apply Calls.mono; (with_reducible exact Haw.out _ (by (repeat (first | exact gR _ | refine gO ?_ _ | refine gA ?_ _ | refine gD ?_ | refine gN ?_ _)))); rintro e w' ⟨rfl, x, rfl⟩)))
    go_ret
    exact ⟨rfl, by (repeat (first | exact gR _ | refine gO ?_ _ | refine gA ?_ _ | refine gD ?_ | refine gN ?_ _))⟩
  have g1 : ¬ (20 : Int) < (nO : Int) := by omega
  obtain ⟨L, hLL⟩ : ∃ L, (buildRes N E A O).1 = L := ⟨_, rfl⟩
  obtain ⟨er, her⟩ : ∃ er, (buildRes N E A O).2 = er := ⟨_, rfl⟩
  have Hcp : Hid (∀ W1, Grew w W1 → Calls Tryd.prog 10 #[.agg #[.int .i64 N, .slice pE nE cE, .slice pA nA cA], .slice pO nO cO] W1 (TwoPost L er W1)) := Lib.hid (fun W1 h => by
    rw [← hLL, ← her]
    exact build_p _ _ _ _ _ _ _ _ _ _ _ _ _ _ (HR.out.grew h) (HL.out.grew h) (HO.out.grew h) (by omega) c3 c4 hnE hnA hnO)
  have Hcr : Hid (∀ W1, Grew w W1 → Calls Tryd.prog 11 #[.agg #[.int .i64 N, .slice pE nE cE, .slice pA nA cA], .slice pO nO cO] W1 (TwoR L er W1)) := Lib.hid (fun W1 h => by
    rw [← hLL, ← her]
    exact build38_r _ _ _ _ _ _ _ _ _ _ _ _ _ _ (HR.out.grew h) (HO.out.grew h) (by omega) c3 c4 hnE hnA hnO)
  clear hLL her
  go_enter Tryd.func3, Tryd.ntmps3
  go_wp2_with (first
    | ((go_at_call 8; apply Calls.mono; (with_reducible exact Hs.out _ (by (repeat (first | exact gR _ | refine gO ?_ _ | refine gA ?_ _ | refine gD ?_ | refine gN ?_ _)))); rintro e w' ⟨rfl, x, rfl⟩))
    | (go_at_call 10; apply Calls.mono; (with_reducible exact Hcp.out _ (by (repeat (first | exact gR _ | refine gO ?_ _ | refine gA ?_ _ | refine gD ?_ | refine gN ?_ _)))); rintro e wx ⟨⟨xa, rfl⟩, qa, ca, rfl, hIa, _, _⟩; have HIa := Lib.hid hIa; clear hIa)
    | (go_at_call 11; apply Calls.mono; (with_reducible exact Hcr.out _ (by (repeat (first | exact gR _ | refine gO ?_ _ | refine gA ?_ _ | refine gD ?_ | refine gN ?_ _)))); rintro e wx ⟨⟨xb, rfl⟩, qb, cb, rfl, hIb⟩; have HIb := Lib.hid hIb; clear hIb)
    | ((go_at_call 12; apply Calls.mono; (with_reducible exact same_eq rfl (HIa.out.grew (by (repeat (first | exact gR _ | refine gO ?_ _ | refine gA ?_ _ | refine gD ?_ | refine gN ?_ _)))) (HIb.out.grew (by (repeat (first | exact gR _ | refine gO ?_ _ | refine gA ?_ _ | refine gD ?_ | refine gN ?_ _))))); rintro e w' ⟨rfl, x, rfl⟩))
    | ((go_at_call 9; apply Calls.mono; (with_reducible exact Haw.out _ (by (repeat (first | exact gR _ | refine gO ?_ _ | refine gA ?_ _ | refine gD ?_ | refine gN ?_ _)))); rintro e w' ⟨rfl, x, rfl⟩)))
  go_ret
  exact ⟨rfl, by (repeat (first | exact gR _ | refine gO ?_ _ | refine gA ?_ _ | refine gD ?_ | refine gN ?_ _))⟩

set_option maxHeartbeats 4000000 in
theorem drawsL (hE : Prs w pE E) (hA : Mat w pA A) (c1 : E.length ≤ cE) (c2 : cE ≤ maxLen) (hO : Ints w pO O)
    (hL : Lim w) (hnE : E.length = nE) (hnA : A.length = nA) (hnO : O.length = nO) :
    Calls Tryd.prog 5 #[.agg #[.int .i64 N, .slice pE nE cE, .slice pA nA cA], .slice pO nO cO] w fun e w' => e = .returned (.bool true) ∧ Grew w w' := by
  have HL := Lib.hid hL
  have HO := Lib.hid hO
  have HE := Lib.hid hE
  have HA := Lib.hid hA
  have Haw : Hid (∀ W1, Grew w W1 → Calls Tryd.prog 9 #[] W1 fun e w' => e = .returned (.bool true) ∧ Grew W1 w') := Lib.hid (fun W1 h => awake_l W1 (HL.out.grew h))
  obtain ⟨s, hs⟩ : ∃ s, few38B N E A = s := ⟨_, rfl⟩
  have Hs : Hid (∀ W1, Grew w W1 → Calls Tryd.prog 8 #[.agg #[.int .i64 N, .slice pE nE cE, .slice pA nA cA]] W1 fun e w' => e = .returned (.bool s) ∧ Grew W1 w') := Lib.hid (fun W1 h => by
    rw [← hs]
    exact few38_l N pE pA nE nA cE cA E A W1 (HE.out.grew h) (HA.out.grew h) c1 c2 hnE hnA)
  cases s
  case false =>
    clear hs hE hA hO hL
    go_enter Tryd.func5, Tryd.ntmps5
    go_wp2_with (first
      | ((go_at_call 8; apply Calls.mono; (with_reducible exact Hs.out _ (by (repeat (first | exact gR _ | refine gO ?_ _ | refine gA ?_ _ | refine gD ?_ | refine gN ?_ _)))); rintro e w' ⟨rfl, x, rfl⟩))
      | ((go_at_call 9; apply Calls.mono; (with_reducible exact Haw.out _ (by (repeat (first | exact gR _ | refine gO ?_ _ | refine gA ?_ _ | refine gD ?_ | refine gN ?_ _)))); rintro e w' ⟨rfl, x, rfl⟩)))
    go_ret
    exact ⟨rfl, by (repeat (first | exact gR _ | refine gO ?_ _ | refine gA ?_ _ | refine gD ?_ | refine gN ?_ _))⟩
  case true =>
  have HR := Lib.hid (few38_in hs hE hA c1 c2)
  clear hs hE hA hO hL
  by_cases h20 : 220 < nO
  · have g1 : (220 : Int) < (nO : Int) := by omega
    go_enter Tryd.func5, Tryd.ntmps5
    go_wp2_with (first
      | ((go_at_call 8; apply Calls.mono; (with_reducible exact Hs.out _ (by (repeat (first | exact gR _ | refine gO ?_ _ | refine gA ?_ _ | refine gD ?_ | refine gN ?_ _)))); rintro e w' ⟨rfl, x, rfl⟩))
      | ((go_at_call 9; apply Calls.mono; (with_reducible exact Haw.out _ (by (repeat (first | exact gR _ | refine gO ?_ _ | refine gA ?_ _ | refine gD ?_ | refine gN ?_ _)))); rintro e w' ⟨rfl, x, rfl⟩)))
    go_ret
    exact ⟨rfl, by (repeat (first | exact gR _ | refine gO ?_ _ | refine gA ?_ _ | refine gD ?_ | refine gN ?_ _))⟩
  have g1 : ¬ (220 : Int) < (nO : Int) := by omega
  have hAc : trgB N E A = true → fitB E A O = true → Acy E A O := fun h1 h2 => sch_acy h1 (fit_sch h1 h2)
  obtain ⟨L, hLL⟩ : ∃ L, (drawRes N E A O).1 = L := ⟨_, rfl⟩
  obtain ⟨er, her⟩ : ∃ er, (drawRes N E A O).2 = er := ⟨_, rfl⟩
  have Hcp : Hid (∀ W1, Grew w W1 → Calls Tryd.prog 17 #[.agg #[.int .i64 N, .slice pE nE cE, .slice pA nA cA], .slice pO nO cO] W1 (PtsPost L er W1)) := Lib.hid (fun W1 h => by
    rw [← hLL, ← her]
    exact draw_p _ _ _ _ _ _ _ _ _ _ _ _ _ _ (HR.out.grew h) (HL.out.grew h) (HO.out.grew h) hnE hnA hnO (by omega) hAc)
  have Hcr : Hid (∀ W1, Grew w W1 → Calls Tryd.prog 18 #[.agg #[.int .i64 N, .slice pE nE cE, .slice pA nA cA], .slice pO nO cO] W1 (PtsR L er W1)) := Lib.hid (fun W1 h => by
    rw [← hLL, ← her]
    exact draw_r _ _ _ _ _ _ _ _ _ _ _ _ _ _ (HR.out.grew h) (HO.out.grew h) hnE hnA hnO (by omega) hAc)
  clear hLL her hAc
  go_enter Tryd.func5, Tryd.ntmps5
  go_wp2_with (first
    | ((go_at_call 8; apply Calls.mono; (with_reducible exact Hs.out _ (by (repeat (first | exact gR _ | refine gO ?_ _ | refine gA ?_ _ | refine gD ?_ | refine gN ?_ _)))); rintro e w' ⟨rfl, x, rfl⟩))
    | (go_at_call 17; apply Calls.mono; (with_reducible exact Hcp.out _ (by (repeat (first | exact gR _ | refine gO ?_ _ | refine gA ?_ _ | refine gD ?_ | refine gN ?_ _)))); rintro e wx ⟨⟨xa, rfl⟩, qa, ca, rfl, hIa, _, _⟩; have HIa := Lib.hid hIa; clear hIa)
    | (go_at_call 18; apply Calls.mono; (with_reducible exact Hcr.out _ (by (repeat (first | exact gR _ | refine gO ?_ _ | refine gA ?_ _ | refine gD ?_ | refine gN ?_ _)))); rintro e wx ⟨⟨xb, rfl⟩, qb, cb, rfl, hIb⟩; have HIb := Lib.hid hIb; clear hIb)
    | ((go_at_call 19; apply Calls.mono; (with_reducible exact points_eq rfl (HIa.out.grew (by (repeat (first | exact gR _ | refine gO ?_ _ | refine gA ?_ _ | refine gD ?_ | refine gN ?_ _)))) (HIb.out.grew (by (repeat (first | exact gR _ | refine gO ?_ _ | refine gA ?_ _ | refine gD ?_ | refine gN ?_ _))))); rintro e w' ⟨rfl, x, rfl⟩))
    | ((go_at_call 9; apply Calls.mono; (with_reducible exact Haw.out _ (by (repeat (first | exact gR _ | refine gO ?_ _ | refine gA ?_ _ | refine gD ?_ | refine gN ?_ _)))); rintro e w' ⟨rfl, x, rfl⟩)))
  go_ret
  exact ⟨rfl, by (repeat (first | exact gR _ | refine gO ?_ _ | refine gA ?_ _ | refine gD ?_ | refine gN ?_ _))⟩

set_option maxHeartbeats 4000000 in
theorem checksL (k : Int) (hE : Prs w pE E) (hA : Mat w pA A) (c1 : E.length ≤ cE) (c2 : cE ≤ maxLen) (hO : Ints w pO O)
    (hL : Lim w) (hnE : E.length = nE) (hnA : A.length = nA) (hnO : O.length = nO) :
    Calls Tryd.prog 4 #[.agg #[.int .i64 N, .slice pE nE cE, .slice pA nA cA], .slice pO nO cO, .int .i64 k] w fun e w' => e = .returned (.bool true) ∧ Grew w w' := by
  have HL := Lib.hid hL
  have HO := Lib.hid hO
  have HE := Lib.hid hE
  have HA := Lib.hid hA
  have Haw : Hid (∀ W1, Grew w W1 → Calls Tryd.prog 9 #[] W1 fun e w' => e = .returned (.bool true) ∧ Grew W1 w') := Lib.hid (fun W1 h => awake_l W1 (HL.out.grew h))
  obtain ⟨s, hs⟩ : ∃ s, few38B N E A = s := ⟨_, rfl⟩
  have Hs : Hid (∀ W1, Grew w W1 → Calls Tryd.prog 8 #[.agg #[.int .i64 N, .slice pE nE cE, .slice pA nA cA]] W1 fun e w' => e = .returned (.bool s) ∧ Grew W1 w') := Lib.hid (fun W1 h => by
    rw [← hs]
    exact few38_l N pE pA nE nA cE cA E A W1 (HE.out.grew h) (HA.out.grew h) c1 c2 hnE hnA)
  cases s
  case false =>
    clear hs hE hA hO hL
    go_enter Tryd.func4, Tryd.ntmps4
    go_wp2_with (first
      | ((go_at_call 8; apply Calls.mono; (with_reducible exact Hs.out _ (by (repeat (first | exact gR _ | refine gO ?_ _ | refine gA ?_ _ | refine gD ?_ | refine gN ?_ _)))); rintro e w' ⟨rfl, x, rfl⟩))
      | ((go_at_call 9; apply Calls.mono; (with_reducible exact Haw.out _ (by (repeat (first | exact gR _ | refine gO ?_ _ | refine gA ?_ _ | refine gD ?_ | refine gN ?_ _)))); rintro e w' ⟨rfl, x, rfl⟩)))
    go_ret
    exact ⟨rfl, by (repeat (first | exact gR _ | refine gO ?_ _ | refine gA ?_ _ | refine gD ?_ | refine gN ?_ _))⟩
  case true =>
  have HR := Lib.hid (few38_in hs hE hA c1 c2)
  clear hs hE hA hO hL
  by_cases h20 : 220 < nO
  · have g1 : (220 : Int) < (nO : Int) := by omega
    go_enter Tryd.func4, Tryd.ntmps4
    go_wp2_with (first
      | ((go_at_call 8; apply Calls.mono; (with_reducible exact Hs.out _ (by (repeat (first | exact gR _ | refine gO ?_ _ | refine gA ?_ _ | refine gD ?_ | refine gN ?_ _)))); rintro e w' ⟨rfl, x, rfl⟩))
      | ((go_at_call 9; apply Calls.mono; (with_reducible exact Haw.out _ (by (repeat (first | exact gR _ | refine gO ?_ _ | refine gA ?_ _ | refine gD ?_ | refine gN ?_ _)))); rintro e w' ⟨rfl, x, rfl⟩)))
    go_ret
    exact ⟨rfl, by (repeat (first | exact gR _ | refine gO ?_ _ | refine gA ?_ _ | refine gD ?_ | refine gN ?_ _))⟩
  have g1 : ¬ (220 : Int) < (nO : Int) := by omega
  obtain ⟨L, hLL⟩ : ∃ L, (parRes N E A O k).1 = L := ⟨_, rfl⟩
  obtain ⟨er, her⟩ : ∃ er, (parRes N E A O k).2 = er := ⟨_, rfl⟩
  obtain ⟨t, ht⟩ : ∃ t, chk38 N E A O = t := ⟨_, rfl⟩
  have Hcp : Hid (∀ W1, Grew w W1 → Calls Tryd.prog 13 #[.agg #[.int .i64 N, .slice pE nE cE, .slice pA nA cA], .slice pO nO cO, .int .i64 k] W1 (TwoPost L er W1)) := Lib.hid (fun W1 h => by
    rw [← hLL, ← her]
    exact parents_p _ _ _ _ _ _ _ _ _ _ _ _ _ _ _ (HR.out.grew h) (HL.out.grew h) (HO.out.grew h) hnE hnA hnO (by omega))
  have Hcr : Hid (∀ W1, Grew w W1 → Calls Tryd.prog 14 #[.agg #[.int .i64 N, .slice pE nE cE, .slice pA nA cA], .slice pO nO cO, .int .i64 k] W1 (TwoR L er W1)) := Lib.hid (fun W1 h => by
    rw [← hLL, ← her]
    exact parents38_r _ _ _ _ _ _ _ _ _ _ _ _ _ _ _ (HR.out.grew h) (HO.out.grew h) hnE hnA hnO (by omega))
  have Hkp : Hid (∀ W1, Grew w W1 → Calls Tryd.prog 15 #[.agg #[.int .i64 N, .slice pE nE cE, .slice pA nA cA], .slice pO nO cO] W1 fun e w' => e = .returned (.bool t) ∧ Grew W1 w') := Lib.hid (fun W1 h => by
    rw [← ht]
    exact check38_p _ _ _ _ _ _ _ _ _ _ _ _ _ _ (HR.out.grew h) (HL.out.grew h) (HO.out.grew h) hnE hnA hnO (by omega))
  have Hkr : Hid (∀ W1, Grew w W1 → Calls Tryd.prog 16 #[.agg #[.int .i64 N, .slice pE nE cE, .slice pA nA cA], .slice pO nO cO] W1 fun e w' => e = .returned (.bool t) ∧ Grew W1 w') := Lib.hid (fun W1 h => by
    rw [← ht, ← chk_ref]
    exact check38_r _ _ _ _ _ _ _ _ _ _ _ _ _ _ (HR.out.grew h) (HO.out.grew h) hnE hnA hnO (by omega))
  clear hLL her ht
  go_enter Tryd.func4, Tryd.ntmps4
  go_upto_region 5 with (first
    | ((go_at_call 8; apply Calls.mono; (with_reducible exact Hs.out _ (by (repeat (first | exact gR _ | refine gO ?_ _ | refine gA ?_ _ | refine gD ?_ | refine gN ?_ _)))); rintro e w' ⟨rfl, x, rfl⟩))
    | (go_at_call 13; apply Calls.mono; (with_reducible exact Hcp.out _ (by (repeat (first | exact gR _ | refine gO ?_ _ | refine gA ?_ _ | refine gD ?_ | refine gN ?_ _)))); rintro e wx ⟨⟨xa, rfl⟩, qa, ca, rfl, hIa, _, _⟩; have HIa := Lib.hid hIa; clear hIa)
    | (go_at_call 14; apply Calls.mono; (with_reducible exact Hcr.out _ (by (repeat (first | exact gR _ | refine gO ?_ _ | refine gA ?_ _ | refine gD ?_ | refine gN ?_ _)))); rintro e wx ⟨⟨xb, rfl⟩, qb, cb, rfl, hIb⟩; have HIb := Lib.hid hIb; clear hIb))
  refine wp_region_over (by kernel_rfl) (by kernel_rfl) ?_; (repeat (go_big_quiet_step (first
      | ((go_at_call 9; apply over_call; with_reducible exact Haw.out _ (by (repeat (first | exact gR _ | refine gO ?_ _ | refine gA ?_ _ | refine gD ?_ | refine gN ?_ _)))))
      | ((go_at_call 15; apply over_call; with_reducible exact Hkp.out _ (by (repeat (first | exact gR _ | refine gO ?_ _ | refine gA ?_ _ | refine gD ?_ | refine gN ?_ _)))))
      | ((go_at_call 16; apply over_call; with_reducible exact Hkr.out _ (by (repeat (first | exact gR _ | refine gO ?_ _ | refine gA ?_ _ | refine gD ?_ | refine gN ?_ _)))))
      | ((go_at_call 12; apply over_call; with_reducible exact same_eq rfl (HIa.out.grew (by (repeat (first | exact gR _ | refine gO ?_ _ | refine gA ?_ _ | refine gD ?_ | refine gN ?_ _)))) (HIb.out.grew (by (repeat (first | exact gR _ | refine gO ?_ _ | refine gA ?_ _ | refine gD ?_ | refine gN ?_ _))))))))); refine wpQuiet_nil ?_; rintro _ ⟨x, rfl⟩
  go_wp2
  go_ret
  exact ⟨rfl, by (repeat (first | exact gR _ | refine gO ?_ _ | refine gA ?_ _ | refine gD ?_ | refine gN ?_ _))⟩
end
end Go.Proofs.YtlealdicoceekaaDoor

/- A law's row, lifted, where package-level variables are laid. -/
namespace Go.Proofs.YtlealdicoceekaaDoor
open Go.RowKit Go.ChangeShapes Go.WideShapes

theorem law_laid {H : Type} {enc : TypeId × Value → H} {C : Checked} {os : Os} {f : FuncId} {fn : Func} {s : ChangeSpec} {a : Assume} {apart fresh handsOn again : Bool} {tb : TypeId} (L : List (String × DataW Unit))
    (hown : ownKnob C.prog.godebug = none) (started : os.Started) (hi : C.prog.inits.idxOf? f = none) (hf : C.prog.funcs[f]? = some fn)
    (hwit : ∃ (w : World) (tape : Tape) (i : Input), w.os = os ∧ (w.forCall tape i).Shaped C.prog ∧ i.vars = [] ∧ Input.okWide C.prog (w.forCall tape i) .any w.heap.size f i ∧
      ((s.pre enc C.prog fn [] apart (w.forCall tape i).memory i.args ∧ laidMet C.prog L (w.forCall tape i).memory) ∧ sizedMet enc C.prog fn (OpenSpec.ofChange s) apart (w.forCall tape i).memory i.args) ∧ a.holds C.prog (lone (Frame.enter C.prog f i.args .normal) [] (w.forCall tape i)))
    (hl : laidOutB C.prog = true) (hres : fn.resultTypes = #[tb]) (hb : C.prog.underlying tb = some .bool) (hread : (fn.params.toList.all fun t => C.prog.readableRec t && decide (t < C.prog.types.size)) = true)
    (hvars : s.vars = [])
    (hs : ∀ ds : List (DataW H), ds.length = fn.params.size → (s.fn H ds).results = [.lit (.bool true)] ∧ (s.fn H ds).args = ds ∧ (s.fn H ds).vars = [])
    (hwalk : ∀ (W : World) (base : Nat) (args : Array Value) (ds : List (DataW H)) (ps : List MemPlace),
      (∀ (j : Nat) (t : TypeId) (v : Value), fn.params[j]? = some t → args[j]? = some v → Value.okWide C.prog W Reach.any base t v) →
      DataW.TrodAll enc C.prog W 0 (fun _ => true) true fn.params.toList args.toList ds ps → laidMet C.prog L W →
      Calls C.prog f args W fun e w' => e = .returned (.bool true) ∧ Grew W w') :
    ReturnsInHanded a C os f .any (fun w args => (s.pre enc C.prog fn [] apart w args ∧ laidMet C.prog L w) ∧ sizedMet enc C.prog fn (OpenSpec.ofChange s) apart w args) (s.post enc C.prog fn apart fresh handsOn again) := by
  refine returnsInHanded_of_change_and (X := fun w _ => laidMet C.prog L w) (fun _ _ _ hh h => h.of_heap hh) hown started hi hf hwit ?_
  intro W base args ds gs before hval hW _ _ hL _
  obtain ⟨p, q, h1, h2, _, _, _⟩ := id hW
  have hgs : gs = [] := by
    rw [hvars] at h2
    cases gs with
    | nil => rfl
    | cons => exact h2.elim
  subst hgs
  have hlen : ds.length = fn.params.size := by
    have : ∀ {ts : List TypeId} {vs : List Value} {ds : List (DataW H)} {ps : List MemPlace}, DataW.TrodAll enc C.prog W 0 (fun _ => true) true ts vs ds ps → ds.length = ts.length := by
      intro ts
      induction ts with
      | nil => intro vs ds ps h; cases vs <;> cases ds <;> first | rfl | exact h.elim
      | cons t ts ih =>
        intro vs ds ps h
        cases vs with
        | nil => exact h.elim
        | cons v vs =>
          cases ds with
          | nil => exact h.elim
          | cons d ds =>
            obtain ⟨_, _, _, h', _⟩ := h
            simp [ih h']
    simpa using this h1
  have hs' := hs ds hlen
  refine (hwalk W base args ds p hval h1 hL).mono fun e W' ⟨he, hg⟩ => ⟨_, he, ?_⟩
  exact law_post hl hres hb hread hvars (by rw [List.append_nil]; exact hs'.1) (by rw [List.append_nil]; exact hs'.2.1) (by rw [List.append_nil]; exact hs'.2.2) hW hg
end Go.Proofs.YtlealdicoceekaaDoor
