/- The placer in memory, and the contract of move. -/
import Derived.Test.YtgodoeefgmfpfaaTidyA
import Derived.Test.YtgodoeefgmfpfaaTidyP
set_option linter.unusedSimpArgs false
set_option linter.unusedVariables false
namespace Go.Proofs.Ytgodoeefgmfpfaa
open Go.RowKit

/-- A slice of integers outside the block gx, below B. -/
def IntsX (B gx : Nat) (w : World) (p : Option Addr) (xs : List Int) : Prop := Ints w p xs ∧ (0 < xs.length → ∃ b o, p = some ⟨b, o, none⟩ ∧ b ≠ gx ∧ b < B)
theorem IntsX.gr {B gx : Nat} {ex : Nat → Prop} {w w' : World} {p : Option Addr} {xs : List Int} (h : IntsX B gx w p xs) (hg : Gr ex w w') (hx : ∀ k, k < B → k ≠ gx → ¬ ex k) : IntsX B gx w' p xs := by
  obtain ⟨⟨h1, h2, b, o, h3, h4⟩, h5⟩ := h
  refine ⟨⟨h1, h2, b, o, fun hp => ⟨(h3 hp).1, Nat.lt_of_lt_of_le (h3 hp).2 hg.size⟩, fun i hi => ?_⟩, h5⟩
  obtain ⟨b', o', e1, e2, e3⟩ := h5 (by omega)
  have e4 := (h3 (by omega)).1
  rw [e1] at e4
  cases e4
  rw [hg.cell (h3 (by omega)).2 (hx b e3 e2)]
  exact h4 i hi

/-- The placer lies at S: its forest's children, the widths, the separation and the list of positions in block gx. -/
structure Stat (B S gc gx : Nat) (wp : Option Addr) (wc : Nat) (P W : List Int) (sep : Int) (w : World) : Prop where
  c0 : w.cell? ⟨S, 0, none⟩ = some (.slice (some ⟨gc, 0, none⟩) P.length P.length)
  c1 : w.cell? ⟨S, 1, none⟩ = some (.slice wp P.length wc)
  c2 : w.cell? ⟨S, 2, none⟩ = some (.int .i64 sep)
  c3 : w.cell? ⟨S, 3, none⟩ = some (.slice (some ⟨gx, 0, none⟩) P.length P.length)
  hS : S < B
  hgc : gc < B
  hgx : gx < B
  hB : B ≤ w.heap.size
  n1 : S ≠ gx
  n2 : gc ≠ gx
  wl : W.length = P.length
  wid : IntsX B gx w wp W
  kid : ∀ v, v < P.length → ∃ kp kc, w.cell? ⟨gc, v, none⟩ = some (.slice kp (kids P v).length kc) ∧ IntsX B gx w kp (intL (kids P v)) ∧ (kids P v).length ≤ kc
theorem Stat.gr {B S gc gx : Nat} {wp : Option Addr} {wc : Nat} {P W : List Int} {sep : Int} {w w' : World} {ex : Nat → Prop} (h : Stat B S gc gx wp wc P W sep w) (hg : Gr ex w w') (hx : ∀ k, k < B → k ≠ gx → ¬ ex k) : Stat B S gc gx wp wc P W sep w' := by
  have hb := h.hB
  have h1 := h.hS
  have h2 := h.hgc
  refine ⟨?_, ?_, ?_, ?_, h.hS, h.hgc, h.hgx, Nat.le_trans h.hB hg.size, h.n1, h.n2, h.wl, h.wid.gr hg hx, fun v hv => ?_⟩
  · rw [hg.cell (by omega) (hx S h.hS h.n1)]; exact h.c0
  · rw [hg.cell (by omega) (hx S h.hS h.n1)]; exact h.c1
  · rw [hg.cell (by omega) (hx S h.hS h.n1)]; exact h.c2
  · rw [hg.cell (by omega) (hx S h.hS h.n1)]; exact h.c3
  · obtain ⟨kp, kc, e1, e2, e3⟩ := h.kid v hv
    exact ⟨kp, kc, by rw [hg.cell (by omega) (hx gc h.hgc h.n2)]; exact e1, e2.gr hg hx, e3⟩

/-- The list of positions. -/
def XAt (w : World) (gx : Nat) (X : List Int) : Prop := ∃ cs, w.heap[gx]? = some (.cells cs 3 (0, 0)) ∧ cs.toList = intVs X
theorem XAt.cell {w : World} {gx : Nat} {X : List Int} (h : XAt w gx X) {i : Nat} (hi : i < X.length) : w.cell? ⟨gx, i, none⟩ = some (.int .i64 (ge X i)) := by
  obtain ⟨cs, h1, h2⟩ := h
  simp only [World.cell?, h1]
  have := intVs_get X hi
  rw [← h2] at this
  simpa using this
theorem XAt.free {w : World} {gx : Nat} {X : List Int} (h : XAt w gx X) (i : Nat) : w.frozen? ⟨gx, i, none⟩ = false := by
  obtain ⟨cs, h1, h2⟩ := h
  simp [World.frozen?, h1]
theorem XAt.lt {w : World} {gx : Nat} {X : List Int} (h : XAt w gx X) : gx < w.heap.size := by
  obtain ⟨cs, h1, _⟩ := h
  exact lt_of_block h1
theorem XAt.gr {w w' : World} {gx : Nat} {X : List Int} {ex : Nat → Prop} (h : XAt w gx X) (hg : Gr ex w w') (hx : ¬ ex gx) : XAt w' gx X := by
  have hl := h.lt
  obtain ⟨cs, h1, h2⟩ := h
  exact ⟨cs, by rw [hg.block gx hl hx]; exact h1, h2⟩
theorem XAt.set {w : World} {gx : Nat} {X : List Int} (h : XAt w gx X) (i : Nat) (x : Int) : XAt (w.setCell ⟨gx, i, none⟩ (.int .i64 x)) gx (X.set i x) := by
  obtain ⟨cs, h1, h2⟩ := h
  refine ⟨cs.setIfInBounds i (.int .i64 x), ?_, ?_⟩
  · simp only [World.setCell, Array.getElem?_modify, h1]
    simp
  · rw [Array.toList_setIfInBounds, h2, intVs_set]

/-- The block of positions alone. -/
def onX (gx : Nat) : Nat → Prop := fun k => k = gx
theorem onX_self (gx : Nat) : onX gx gx := rfl

def MovePost (gx : Nat) (P X : List Int) (v : Nat) (by_ : Int) (w : World) (e : Ending) (w' : World) : Prop := e = .returned (.tuple #[]) ∧ Gr (onX gx) w w' ∧ ∃ X', XAt w' gx X' ∧ MvAt P X v by_ X'

/-- The subtree moved so far: the root, and the first j children. -/
def MvJ (P X : List Int) (v : Nat) (b : Int) (j : Nat) (X' : List Int) : Prop :=
  X'.length = X.length ∧ (∀ u, (u = v ∨ ∃ c ∈ (kids P v).take j, Bel P c u) → ge X' u = ge X u + b) ∧ ∀ u, ¬ (u = v ∨ ∃ c ∈ (kids P v).take j, Bel P c u) → ge X' u = ge X u
theorem MvJ.start {P X : List Int} {v : Nat} (hv : v < X.length) (b : Int) : MvJ P X v b 0 (X.set v (ge X v + b)) := by
  refine ⟨by simp, fun u hu => ?_, fun u hu => ?_⟩
  · rw [ge_set X hv]
    rcases hu with rfl | ⟨c, hc, _⟩
    · rw [if_pos rfl]
    · simp at hc
  · rw [ge_set X hv, if_neg (fun h => hu (Or.inl h))]
theorem MvJ.step {P X X1 X2 : List Int} (hP : vFor P) {v j : Nat} {b : Int} (hj : j < (kids P v).length) (h : MvJ P X v b j X1) (h2 : MvAt P X1 (kids P v)[j] b X2) : MvJ P X v b (j + 1) X2 := by
  have hc := List.getElem_mem hj
  have htake : (kids P v).take (j + 1) = (kids P v).take j ++ [(kids P v)[j]] := by rw [List.take_succ_eq_append_getElem hj]
  have hnew : ∀ u, Bel P (kids P v)[j] u → ¬ (u = v ∨ ∃ c ∈ (kids P v).take j, Bel P c u) := by
    intro u hu h
    rcases h with rfl | ⟨c, hc', hb⟩
    · have := bel_ge hP hu
      have := kid_gt hP hc
      omega
    · have e := Bel.unique hP hb hu (by
        obtain ⟨a1, a2⟩ := mem_kids.1 (List.mem_of_mem_take hc')
        obtain ⟨a3, a4⟩ := mem_kids.1 hc
        rw [dep_kid hP a1 a2, dep_kid hP a3 a4])
      obtain ⟨i, hi, he⟩ := List.getElem_of_mem hc'
      rw [List.getElem_take] at he
      rw [List.length_take] at hi
      have := (List.pairwise_iff_getElem.1 (kids_sorted P v)) i j (by omega) hj (by omega)
      omega
  refine ⟨by rw [h2.1, h.1], fun u hu => ?_, fun u hu => ?_⟩
  · by_cases hb : Bel P (kids P v)[j] u
    · rw [h2.2.1 u hb, h.2.2 u (hnew u hb)]
    · rw [h2.2.2 u hb]
      refine h.2.1 u (hu.imp id fun ⟨c, hc', hbc⟩ => ?_)
      rw [htake, List.mem_append] at hc'
      rcases hc' with hc' | hc'
      · exact ⟨c, hc', hbc⟩
      · simp at hc'; subst hc'; exact absurd hbc hb
  · have hb : ¬ Bel P (kids P v)[j] u := fun hb => hu (Or.inr ⟨(kids P v)[j], by rw [htake]; exact List.mem_append_right _ (List.mem_singleton.2 rfl), hb⟩)
    rw [h2.2.2 u hb]
    refine h.2.2 u (fun h' => hu (h'.imp id fun ⟨c, hc', hbc⟩ => ⟨c, by rw [htake]; exact List.mem_append_left _ hc', hbc⟩))
theorem MvJ.done {P X X' : List Int} {v : Nat} {b : Int} (h : MvJ P X v b (kids P v).length X') : MvAt P X v b X' := by
  refine ⟨h.1, fun u hu => h.2.1 u ?_, fun u hu => h.2.2 u fun h' => hu ?_⟩
  · rw [List.take_length]
    exact hu.split.imp id (fun ⟨c, h1, h2⟩ => ⟨c, h1, h2⟩)
  · rw [List.take_length] at h'
    rcases h' with rfl | ⟨c, h1, h2⟩
    · exact Bel.self
    · exact Bel.kid h1 h2
theorem MvJ.old {P X X1 : List Int} (hP : vFor P) {v j : Nat} {b : Int} (hj : j < (kids P v).length) (h : MvJ P X v b j X1) {u : Nat} (hu : Bel P (kids P v)[j] u) : ge X1 u = ge X u := by
  refine h.2.2 u fun h' => ?_
  have hc := List.getElem_mem hj
  rcases h' with rfl | ⟨c, hc', hb⟩
  · have := bel_ge hP hu
    have := kid_gt hP hc
    omega
  · have e := Bel.unique hP hb hu (by
      obtain ⟨a1, a2⟩ := mem_kids.1 (List.mem_of_mem_take hc')
      obtain ⟨a3, a4⟩ := mem_kids.1 hc
      rw [dep_kid hP a1 a2, dep_kid hP a3 a4])
    obtain ⟨i, hi, he⟩ := List.getElem_of_mem hc'
    rw [List.getElem_take] at he
    rw [List.length_take] at hi
    have := (List.pairwise_iff_getElem.1 (kids_sorted P v)) i j (by omega) hj (by omega)
    omega

theorem kids_len (P : List Int) (v : Int) : (kids P v).length ≤ P.length := by
  have := List.length_filter_le (fun u => ge P u == v) (List.range P.length)
  simpa [kids] using this
theorem MvJ.step' {P X X1 X2 : List Int} (hP : vFor P) {v j c : Nat} {b : Int} (hc : (kids P v)[j]? = some c) (h : MvJ P X v b j X1) (h2 : MvAt P X1 c b X2) : MvJ P X v b (j + 1) X2 := by
  obtain ⟨hj, rfl⟩ := List.getElem?_eq_some_iff.1 hc
  exact h.step hP hj h2
theorem MvJ.old' {P X X1 : List Int} (hP : vFor P) {v j c : Nat} {b : Int} (hc : (kids P v)[j]? = some c) (h : MvJ P X v b j X1) {u : Nat} (hu : Bel P c u) : ge X1 u = ge X u := by
  obtain ⟨hj, rfl⟩ := List.getElem?_eq_some_iff.1 hc
  exact h.old hP hj hu
theorem ge_intL' {l : List Nat} {i c : Nat} (h : l[i]? = some c) : ge (intL l) i = (c : Int) := by
  obtain ⟨hj, rfl⟩ := List.getElem?_eq_some_iff.1 h
  exact ge_intL hj

def MoveAll (B S gc gx : Nat) (wp : Option Addr) (wc : Nat) (P W : List Int) (sep : Int) (k : Nat) : Prop := ∀ (v : Nat) (b : Int) (X : List Int) (w : World), v < P.length → P.length ≤ v + k →
    Stat B S gc gx wp wc P W sep w → XAt w gx X → X.length = P.length → (∀ u, Bel P v u → -1000000000000 ≤ ge X u ∧ ge X u ≤ 1000000000000) → -1000000000000 ≤ b → b ≤ 1000000000000 →
    Calls Try.prog 33 #[.pointer (some ⟨S, 0, none⟩), .int .i64 v, .int .i64 b] w (MovePost gx P X v b w)

set_option maxHeartbeats 2000000 in
theorem move_succ (B S gc gx : Nat) (wp : Option Addr) (wc : Nat) (P W : List Int) (sep : Int) (hP : vFor P) (k : Nat) (ih : MoveAll B S gc gx wp wc P W sep k) : MoveAll B S gc gx wp wc P W sep (k + 1) := by
  intro v b X w hv hk hst hX hXl hbd hb1 hb2
  unfold MoveAll at ih
  have Hih := Lib.hid ih
  have HP := Lib.hid hP
  have HX := Lib.hid hX
  have Hst := Lib.hid hst
  have Hbd := Lib.hid hbd
  have h64 := hP.1
  have hkl := kids_len P v
  obtain ⟨c0, c1, c2, c3, hS, hgc, hgx, hB, n1, n2, wl, wid, kid⟩ := hst
  have hvX : v < X.length := by omega
  have d1 := hX.cell hvX
  have f1 := hX.free v
  obtain ⟨kp, kc, k1, k2, k3⟩ := kid v hv
  have HXl := Lib.hid hXl
  have hbv := hbd v Bel.self
  obtain ⟨hbv1, hbv2⟩ := hbv
  have n1' := Ne.symm n1
  have n2' := Ne.symm n2
  have hSw : S < w.heap.size := by omega
  have hgcw : gc < w.heap.size := by omega
  have hgxw : gx < w.heap.size := by omega
  clear c1 c2 wid kid ih hP hX hXl hbd wl
  have Hk2 := Lib.hid k2
  clear k2
  go_enter Try.func33, Try.ntmps33
  go_wp2
  go_loopw [7, 26] (fun _ i wr => ∃ j : Nat, j ≤ (kids P v).length ∧ i = .int .i64 j ∧ Gr (onX gx) w wr ∧ ∃ X1, XAt wr gx X1 ∧ MvJ P X v b j X1) (fun _ i _ => (kids P v).length - (intOf i).toNat)
  case atStart => exact ⟨0, Nat.zero_le _, rfl, (Gr.refl (onX gx) w).setCell (show onX gx gx from rfl) _, _, HX.out.set _ _, MvJ.start hvX b⟩
  case round =>
    obtain ⟨j, hj, rfl, hg, X1, hX1, hJ⟩ := hrel
    have Hg := Lib.hid hg
    have HX1 := Lib.hid hX1
    have HJ := Lib.hid hJ
    clear hg hX1 hJ
    by_cases hlt : j < (kids P v).length
    · have hI := Hk2.out.gr Hg.out (fun k _ hne => hne)
      obtain ⟨bk, ok, h3, h4⟩ := hI.1.open
      obtain ⟨rfl, hbk⟩ := h3 (by rw [intL_length]; omega)
      have e1 := h4 j (by rw [intL_length]; exact hlt)
      obtain ⟨c, hc⟩ : ∃ c, (kids P v)[j]? = some c := ⟨_, List.getElem?_eq_getElem hlt⟩
      rw [ge_intL' hc] at e1
      have hcm := List.mem_of_getElem? hc
      have hck := kid_gt HP.out hcm
      have hcn := (mem_kids.1 hcm).1
      have Hc := Lib.hid hc
      have Hcm := Lib.hid hcm
      clear h3 h4 hI hc hcm
      have Hst2 := Lib.hid (Hst.out.gr Hg.out (fun k _ hne => hne))
      have Hl2 : Hid (X1.length = P.length) := Lib.hid (HJ.out.1.trans HXl.out)
      have Hbd2 : Hid (∀ u, Bel P c u → -1000000000000 ≤ ge X1 u ∧ ge X1 u ≤ 1000000000000) := Lib.hid (fun u hu => by rw [HJ.out.old' HP.out Hc.out hu]; exact Hbd.out u (Bel.kid Hcm.out hu))
      have Hkk : Hid (P.length ≤ c + k) := Lib.hid (by omega)
      go_wp2_with (go_at_call 33; apply Calls.mono; (with_reducible exact Hih.out _ _ X1 _ hcn Hkk.out Hst2.out HX1.out Hl2.out Hbd2.out hb1 hb2); rintro e w' hpost; obtain ⟨rfl, hg2, X2, hX2, hM⟩ := hpost; have Hg2 := Lib.hid hg2; have HX2 := Lib.hid hX2; have HM := Lib.hid hM; clear hg2 hX2 hM)
      go_roundw
      case rel => exact ⟨j + 1, by omega, by go_num, Hg.out.trans Hg2.out, X2, HX2.out, HJ.out.step' HP.out Hc.out HM.out⟩
      case measure => simp [intOf]; omega
    · have hjn : j = (kids P v).length := by omega
      have HJ2 : Hid (MvAt P X v b X1) := Lib.hid (MvJ.done (by rw [← hjn]; exact HJ.out))
      clear hjn
      go_wp2
      refine bodyPost_ret (results_none rfl _ _ _) rfl ?_
      exact ⟨rfl, Hg.out, X1, HX1.out, HJ2.out⟩

theorem move_all (B S gc gx : Nat) (wp : Option Addr) (wc : Nat) (P W : List Int) (sep : Int) (hP : vFor P) : ∀ k, MoveAll B S gc gx wp wc P W sep k
  | 0 => fun v b X w hv hk => by omega
  | k + 1 => move_succ B S gc gx wp wc P W sep hP k (move_all B S gc gx wp wc P W sep hP k)

end Go.Proofs.Ytgodoeefgmfpfaa
