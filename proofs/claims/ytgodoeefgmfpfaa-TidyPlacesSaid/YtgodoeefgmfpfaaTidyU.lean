/- The reference's helpers: down, at, moved, shift. -/
import Derived.Test.YtgodoeefgmfpfaaTidyK
set_option linter.unusedSimpArgs false
set_option linter.unusedVariables false
namespace Go.Proofs.Ytgodoeefgmfpfaa
open Go.RowKit
attribute [local go_sem ↓] Go.wp_at_zero Go.wp_at_succ

def posD (s : Dr) : List Int := s.map (·.2)
def vtx (s : Dr) : List Int := intL (verts s)
theorem posD_length (s : Dr) : (posD s).length = s.length := by simp [posD]
theorem vtx_length (s : Dr) : (vtx s).length = s.length := by simp [vtx, verts, intL]
theorem vtx_at {s : Dr} {i u : Nat} {x : Int} (h : s[i]? = some (u, x)) : ge (vtx s) i = (u : Int) ∧ ge (posD s) i = x ∧ i < s.length := by
  obtain ⟨hi, e⟩ := List.getElem?_eq_some_iff.1 h
  refine ⟨?_, ?_, hi⟩
  · simp [ge, vtx, intL, verts, hi, e]
  · simp [ge, posD, hi, e]
theorem dr_at (s : Dr) {i : Nat} (h : i < s.length) : ∃ u x, s[i]? = some (u, x) := ⟨s[i].1, s[i].2, List.getElem?_eq_getElem h⟩

theorem atD_first {s : Dr} {v : Nat} {x : Int} : ∀ j : Nat, s[j]? = some (v, x) → (∀ i, i < j → ∀ u y, s[i]? = some (u, y) → u ≠ v) → atD s v = x := by
  induction s with
  | nil => intro j h; simp at h
  | cons q s ih =>
    intro j h hb
    cases j with
    | zero =>
      have : q = (v, x) := by simpa using h
      subst this
      simp [atD]
    | succ j =>
      have h0 := hb 0 (by omega) q.1 q.2 rfl
      have := ih j (by simpa using h) (fun i hi u y hu => hb (i + 1) (by omega) u y (by simpa using hu))
      unfold atD at this ⊢
      rw [List.find?_cons_of_neg (by simpa using h0)]
      exact this
theorem atD_none {s : Dr} {v : Nat} (h : ∀ (i u : Nat) (y : Int), s[i]? = some (u, y) → u ≠ v) : atD s v = 0 := by
  unfold atD
  have : s.find? (fun q => q.1 == v) = none := by
    rw [List.find?_eq_none]
    intro q hq
    obtain ⟨i, hi, rfl⟩ := List.getElem_of_mem hq
    have := h i s[i].1 s[i].2 (List.getElem?_eq_getElem hi)
    simpa using this
  rw [this]

theorem tdiv_down {x : Int} (h : x < 0 ∧ x.tmod 2 ≠ 0) : x.tdiv 2 - 1 = x / 2 := by
  obtain ⟨y, rfl⟩ : ∃ y, x = -y := ⟨-x, by omega⟩
  rw [Int.neg_tmod, Int.tmod_eq_emod_of_nonneg (by omega)] at h
  rw [Int.neg_tdiv, Int.tdiv_eq_ediv_of_nonneg (by omega)]
  omega
theorem tdiv_up {x : Int} (h : ¬ (x < 0 ∧ x.tmod 2 ≠ 0)) : x.tdiv 2 = x / 2 := by
  by_cases hx : x < 0
  · have h2 : x.tmod 2 = 0 := Classical.byContradiction fun h2 => h ⟨hx, h2⟩
    obtain ⟨y, rfl⟩ : ∃ y, x = -y := ⟨-x, by omega⟩
    rw [Int.neg_tmod, Int.tmod_eq_emod_of_nonneg (by omega)] at h2
    rw [Int.neg_tdiv, Int.tdiv_eq_ediv_of_nonneg (by omega)]
    omega
  · rw [Int.tdiv_eq_ediv_of_nonneg (by omega)]

theorem down_r (x : Int) (w : World) (hx : -1000000000000 ≤ x ∧ x ≤ 1000000000000) :
    Calls Try.prog 41 #[.int .i64 x] w fun e w' => e = .returned (.int .i64 (x / 2)) ∧ w = w' := by
  obtain ⟨hx1, hx2⟩ := hx
  have Hw : Hid (IntKind.i64.wrap (x / 2) = x / 2) := Lib.hid (IntWalk.i64_in _ ⟨by omega, by omega⟩)
  by_cases hn : x < 0
  · by_cases ho : x.tmod 2 = 0
    · have H := Lib.hid (tdiv_up (x := x) (fun h => h.2 ho))
      have hb : x.tdiv 2 = x / 2 := H.out
      go_enter Try.func41, Try.ntmps41
      go_wp2
      go_ret
      exact ⟨ret_int (by first | exact H.out | (simp [H.out]; done) | (simp [H.out]; unfold wrap64; omega)), rfl⟩
    · have H := Lib.hid (tdiv_down (x := x) ⟨hn, ho⟩)
      have ho' : (x.tmod 2 != 0) = true := by rw [bne_iff_ne]; exact ho
      go_enter Try.func41, Try.ntmps41
      go_wp2
      go_ret
      exact ⟨ret_int (by first | exact H.out | (simp [H.out]; done) | (simp [H.out]; unfold wrap64; omega)), rfl⟩
  · have H := Lib.hid (tdiv_up (x := x) (fun h => hn h.1))
    go_enter Try.func41, Try.ntmps41
    go_wp2
    go_ret
    exact ⟨ret_int (by first | exact H.out | (simp [H.out]; done) | (simp [H.out]; unfold wrap64; omega)), rfl⟩

set_option maxHeartbeats 2000000 in
theorem at_r (pv px : Option Addr) (cv cx : Nat) (s : Dr) (v : Nat) (w : World) (hV : Ints w pv (vtx s)) (hX : Ints w px (posD s)) (h64 : s.length ≤ 64) :
    Calls Try.prog 42 #[.agg #[.slice pv s.length cv, .slice px s.length cx], .int .i64 v] w fun e w' => e = .returned (.int .i64 (atD s v)) ∧ Grew w w' := by
  have HV := Lib.hid hV
  have HX := Lib.hid hX
  clear hV hX
  go_enter Try.func42, Try.ntmps42
  go_wp2
  go_loop [5] (fun i => ∃ j : Nat, j ≤ s.length ∧ i = .int .i64 j ∧ ∀ i, i < j → ∀ u y, s[i]? = some (u, y) → u ≠ v) (fun i => s.length - (intOf i).toNat)
  case atStart => exact ⟨0, Nat.zero_le _, rfl, fun i hi => absurd hi (Nat.not_lt_zero _)⟩
  case round =>
    obtain ⟨j, hj, rfl, hb⟩ := hrel
    have Hb := Lib.hid hb
    clear hb
    by_cases hlt : j < s.length
    · obtain ⟨u, x, hux⟩ := dr_at s hlt
      obtain ⟨h1, h2, _⟩ := vtx_at hux
      obtain ⟨bV, oV, rfl, lV, cV⟩ := HV.out.cells (by rw [vtx_length]; omega)
      obtain ⟨bX, oX, rfl, lX, cX⟩ := HX.out.cells (by rw [posD_length]; omega)
      have e1 := cV w (Grew.refl _) j (by rw [vtx_length]; exact hlt)
      have e2 := cX w (Grew.refl _) j (by rw [posD_length]; exact hlt)
      rw [h1] at e1
      rw [h2] at e2
      have Hux := Lib.hid hux
      clear hux h1 h2 cV cX
      by_cases huv : u = v
      · subst huv
        have Hat := Lib.hid (atD_first j Hux.out Hb.out)
        go_wp2
        go_ret
        exact ⟨by rw [Hat.out]; rfl, by (repeat (first | exact Grew.refl _ | refine Grew.over ?_ _ | refine Grew.alloc ?_ _ | refine Grew.drew ?_ | refine Grew.drewN ?_ _))⟩
      · have huv' : ((u : Int) == (v : Int)) = false := by rw [beq_eq_false_iff_ne]; omega
        have Huv := Lib.hid huv
        clear huv
        go_wp2
        go_round
        case rel =>
          refine ⟨j + 1, by omega, by go_num, fun i hi u' y hu => ?_⟩
          by_cases hij : i = j
          · subst hij; rw [Hux.out] at hu; cases hu; exact Huv.out
          · exact Hb.out i (by omega) u' y hu
        case measure => simp [intOf]; omega
    · have Hat : Hid (atD s v = 0) := Lib.hid (atD_none fun i u y hu => Hb.out i (by have := (vtx_at hu).2.2; omega) u y hu)
      go_wp2
      go_ret
      exact ⟨by rw [Hat.out]; rfl, by (repeat (first | exact Grew.refl _ | refine Grew.over ?_ _ | refine Grew.alloc ?_ _ | refine Grew.drew ?_ | refine Grew.drewN ?_ _))⟩

/-- The greatest need so far: the first i of a against all of b, number i against the first k. -/
def shS (P W : List Int) (sep : Int) (a b : Dr) (i k : Nat) : Option Int := (match a[i]? with | some p => needs1 P W sep p (b.take k) | none => []).foldl mxStep (mxO (needs P W sep (a.take i) b))
theorem shS_zero (P W : List Int) (sep : Int) (a b : Dr) : shS P W sep a b 0 0 = none := by
  unfold shS
  cases a[0]? <;> simp [needs, needs1, mxO]
theorem shS_same {P W : List Int} {sep : Int} {a b : Dr} {i k u v : Nat} {x y : Int} (h1 : a[i]? = some (u, x)) (h2 : b[k]? = some (v, y)) (hd : dep P u ≠ dep P v) : shS P W sep a b i (k + 1) = shS P W sep a b i k := by
  obtain ⟨hk, e⟩ := List.getElem?_eq_some_iff.1 h2
  unfold shS
  rw [h1]
  simp only
  rw [List.take_succ_eq_append_getElem hk, e]
  simp [needs1, hd]
theorem shS_step {P W : List Int} {sep : Int} {a b : Dr} {i k u v : Nat} {x y : Int} (h1 : a[i]? = some (u, x)) (h2 : b[k]? = some (v, y)) (hd : dep P u = dep P v) :
    shS P W sep a b i (k + 1) = mxStep (shS P W sep a b i k) (x - ge W u / 2 + ge W u + sep - (y - ge W v / 2)) := by
  obtain ⟨hk, e⟩ := List.getElem?_eq_some_iff.1 h2
  unfold shS
  rw [h1]
  simp only
  rw [List.take_succ_eq_append_getElem hk, e]
  simp [needs1, hd, need, rtE, lfE]
theorem shS_next {P W : List Int} {sep : Int} {a b : Dr} {i : Nat} (hi : i < a.length) : shS P W sep a b i b.length = shS P W sep a b (i + 1) 0 := by
  unfold shS
  rw [List.getElem?_eq_getElem hi]
  simp only [List.take_length]
  have : (match a[i + 1]? with | some p => needs1 P W sep p (b.take 0) | none => []) = [] := by cases a[i + 1]? <;> simp [needs1]
  rw [this, List.take_succ_eq_append_getElem hi]
  unfold mxO needs
  rw [List.flatMap_append, List.foldl_append]
  simp only [List.flatMap_cons, List.flatMap_nil, List.append_nil, List.foldl_nil]
theorem shS_end {P W : List Int} {sep : Int} {a b : Dr} : (shS P W sep a b a.length 0).getD 0 = shD P W sep a b := by
  unfold shS shD
  simp

set_option maxRecDepth 8000 in
set_option maxHeartbeats 8000000 in
theorem shift_r (p q d pv px rv rx : Option Addr) (cp cq cd cv cx dv dx : Nat) (P W : List Int) (sep : Int) (a b : Dr) (w : World) (hJ : Ints w q W) (hD : Ints w d (depI P)) (hV : Ints w pv (vtx a)) (hX : Ints w px (posD a)) (hV2 : Ints w rv (vtx b)) (hX2 : Ints w rx (posD b))
    (h64 : P.length ≤ 64) (hWl : W.length = P.length) (hW : wOK W sep) (ha : ∀ q ∈ a, q.1 < P.length ∧ -134217728 ≤ q.2 ∧ q.2 ≤ 134217728) (hb : ∀ q ∈ b, q.1 < P.length ∧ -134217728 ≤ q.2 ∧ q.2 ≤ 134217728) (hal : a.length ≤ 64) (hbl : b.length ≤ 64) :
    Calls Try.prog 36 #[.agg #[.slice p P.length cp, .slice q P.length cq, .slice d P.length cd, .int .i64 sep], .agg #[.slice pv a.length cv, .slice px a.length cx], .agg #[.slice rv b.length dv, .slice rx b.length dx]] w
      fun e w' => e = .returned (.int .i64 (shD P W sep a b)) ∧ Grew w w' := by
  have HJ := Lib.hid hJ
  have HD := Lib.hid hD
  have HV := Lib.hid hV
  have HX := Lib.hid hX
  have HV2 := Lib.hid hV2
  have HX2 := Lib.hid hX2
  have HWl := Lib.hid hWl
  have hs1 := hW.1
  have hs2 := hW.2.1
  have HW := Lib.hid hW.2.2
  have Ha := Lib.hid ha
  have Hb := Lib.hid hb
  clear hJ hD hV hX hV2 hX2 hWl hW ha hb
  go_enter Try.func36, Try.ntmps36
  go_wp2
  go_loopw [7, 8, 9] (fun o m i wr => ∃ j : Nat, j ≤ a.length ∧ i = .int .i64 j ∧ o = .int .i64 ((shS P W sep a b j 0).getD 0) ∧ m = .bool (shS P W sep a b j 0).isSome ∧ Grew (((w.alloc (.cells #[.slice p P.length cp, .slice q P.length cq, .slice d P.length cd, .int .i64 sep] 45)).alloc (.cells #[.slice pv a.length cv, .slice px a.length cx] 47)).alloc (.cells #[.slice rv b.length dv, .slice rx b.length dx] 47)) wr) (fun _ _ i _ => a.length - (intOf i).toNat)
  case atStart => exact ⟨0, Nat.zero_le _, rfl, by rw [shS_zero]; rfl, by rw [shS_zero]; rfl, Grew.refl _⟩
  case round =>
    obtain ⟨j, hj, rfl, rfl, rfl, hg⟩ := hrel
    have Hg := Lib.hid hg
    have hszr := hg.below.size
    simp at hszr
    have f1 : wr.cell? ⟨w.heap.size, 1, none⟩ = some (.slice q P.length cq) := hg.cellEq (by first | (go_simp; done) | (simp [go_sem, ↓IntWalk.iteOmega, *]; done))
    have f2 : wr.cell? ⟨w.heap.size, 2, none⟩ = some (.slice d P.length cd) := hg.cellEq (by first | (go_simp; done) | (simp [go_sem, ↓IntWalk.iteOmega, *]; done))
    have f3 : wr.cell? ⟨w.heap.size, 3, none⟩ = some (.int .i64 sep) := hg.cellEq (by first | (go_simp; done) | (simp [go_sem, ↓IntWalk.iteOmega, *]; done))
    have a0 : wr.cell? ⟨w.heap.size + 1, 0, none⟩ = some (.slice pv a.length cv) := hg.cellEq (by first | (go_simp; done) | (simp [go_sem, ↓IntWalk.iteOmega, *]; done))
    have a1 : wr.cell? ⟨w.heap.size + 1, 1, none⟩ = some (.slice px a.length cx) := hg.cellEq (by first | (go_simp; done) | (simp [go_sem, ↓IntWalk.iteOmega, *]; done))
    have b0 : wr.cell? ⟨w.heap.size + 2, 0, none⟩ = some (.slice rv b.length dv) := hg.cellEq (by first | (go_simp; done) | (simp [go_sem, ↓IntWalk.iteOmega, *]; done))
    have b1 : wr.cell? ⟨w.heap.size + 2, 1, none⟩ = some (.slice rx b.length dx) := hg.cellEq (by first | (go_simp; done) | (simp [go_sem, ↓IntWalk.iteOmega, *]; done))
    have Hgw : Hid (Grew w wr) := Lib.hid ((((Grew.refl w).alloc _).alloc _ |>.alloc _).trans hg)
    clear hg
    by_cases hlt : j < a.length
    · obtain ⟨u, x, hux⟩ := dr_at a hlt
      obtain ⟨h1, h2, _⟩ := vtx_at hux
      obtain ⟨hu1, hx1, hx2⟩ := Ha.out _ (List.mem_of_getElem? hux)
      obtain ⟨bV, oV, rfl, lV, cV'⟩ := HV.out.cells (by rw [vtx_length]; omega)
      obtain ⟨bX, oX, rfl, lX, cX'⟩ := HX.out.cells (by rw [posD_length]; omega)
      obtain ⟨bW, oW, rfl, lW, cW'⟩ := HJ.out.cells (by rw [HWl.out]; dsimp only at hu1; omega)
      obtain ⟨bD, oD, rfl, lD, cD'⟩ := HD.out.cells (by rw [depI_length]; dsimp only at hu1; omega)
      have CV := Lib.hid (fun (W1 : World) (h : Grew w W1) => h1 ▸ cV' W1 h j (by rw [vtx_length]; exact hlt))
      have CX := Lib.hid (fun (W1 : World) (h : Grew w W1) => h2 ▸ cX' W1 h j (by rw [posD_length]; exact hlt))
      have CW := Lib.hid cW'
      have CD := Lib.hid cD'
      have Hux := Lib.hid hux
      have Hrst := Lib.hid (shS_next (P := P) (W := W) (sep := sep) (b := b) hlt)
      dsimp only at hu1 hx1 hx2
      obtain ⟨wu1, wu2⟩ := HW.out u
      have Lu := Lib.hid (fun W1 : World => left_r x (ge W u) W1 (by omega) ⟨wu1, wu2⟩)
      clear hux h1 h2 cV' cX' cW' cD'
      go_wp2
      clear f1 f2 f3 a0 a1 b0 b1
      go_loopw [7, 8, 10] (fun o m i wq => ∃ k : Nat, k ≤ b.length ∧ i = .int .i64 k ∧ o = .int .i64 ((shS P W sep a b j k).getD 0) ∧ m = .bool (shS P W sep a b j k).isSome ∧ Grew (((w.alloc (.cells #[.slice p P.length cp, .slice (some ⟨bW, oW, none⟩) P.length cq, .slice (some ⟨bD, oD, none⟩) P.length cd, .int .i64 sep] 45)).alloc (.cells #[.slice (some ⟨bV, oV, none⟩) a.length cv, .slice (some ⟨bX, oX, none⟩) a.length cx] 47)).alloc (.cells #[.slice rv b.length dv, .slice rx b.length dx] 47)) wq) (fun _ _ i _ => b.length - (intOf i).toNat)
      case atStart => exact ⟨0, Nat.zero_le _, rfl, rfl, rfl, Hg.out⟩
      case round =>
        obtain ⟨k, hk, rfl, rfl, rfl, hgq⟩ := hrel
        have Hgq := Lib.hid hgq
        have hszq := hgq.below.size
        simp at hszq
        have f1 : wr.cell? ⟨w.heap.size, 1, none⟩ = some (.slice (some ⟨bW, oW, none⟩) P.length cq) := hgq.cellEq (by first | (go_simp; done) | (simp [go_sem, ↓IntWalk.iteOmega, *]; done))
        have f2 : wr.cell? ⟨w.heap.size, 2, none⟩ = some (.slice (some ⟨bD, oD, none⟩) P.length cd) := hgq.cellEq (by first | (go_simp; done) | (simp [go_sem, ↓IntWalk.iteOmega, *]; done))
        have f3 : wr.cell? ⟨w.heap.size, 3, none⟩ = some (.int .i64 sep) := hgq.cellEq (by first | (go_simp; done) | (simp [go_sem, ↓IntWalk.iteOmega, *]; done))
        have a0 : wr.cell? ⟨w.heap.size + 1, 0, none⟩ = some (.slice (some ⟨bV, oV, none⟩) a.length cv) := hgq.cellEq (by first | (go_simp; done) | (simp [go_sem, ↓IntWalk.iteOmega, *]; done))
        have a1 : wr.cell? ⟨w.heap.size + 1, 1, none⟩ = some (.slice (some ⟨bX, oX, none⟩) a.length cx) := hgq.cellEq (by first | (go_simp; done) | (simp [go_sem, ↓IntWalk.iteOmega, *]; done))
        have b0 : wr.cell? ⟨w.heap.size + 2, 0, none⟩ = some (.slice rv b.length dv) := hgq.cellEq (by first | (go_simp; done) | (simp [go_sem, ↓IntWalk.iteOmega, *]; done))
        have b1 : wr.cell? ⟨w.heap.size + 2, 1, none⟩ = some (.slice rx b.length dx) := hgq.cellEq (by first | (go_simp; done) | (simp [go_sem, ↓IntWalk.iteOmega, *]; done))
        have Hgv : Hid (Grew w wr) := Lib.hid ((((Grew.refl w).alloc _).alloc _ |>.alloc _).trans hgq)
        clear hgq
        by_cases hlk : k < b.length
        · obtain ⟨v, y, hvy⟩ := dr_at b hlk
          obtain ⟨h1, h2, _⟩ := vtx_at hvy
          obtain ⟨hv1, hy1, hy2⟩ := Hb.out _ (List.mem_of_getElem? hvy)
          obtain ⟨bV2, oV2, rfl, lV2, cV2⟩ := HV2.out.cells (by rw [vtx_length]; omega)
          obtain ⟨bX2, oX2, rfl, lX2, cX2⟩ := HX2.out.cells (by rw [posD_length]; omega)
          dsimp only at hv1 hy1 hy2
          have e1 := CV.out wr Hgv.out
          have e2 := CX.out wr Hgv.out
          have e3 := cV2 wr Hgv.out k (by rw [vtx_length]; exact hlk)
          have e4 := cX2 wr Hgv.out k (by rw [posD_length]; exact hlk)
          rw [h1] at e3
          rw [h2] at e4
          have d1 := CD.out wr Hgv.out u (by rw [depI_length]; exact hu1)
          have d2 := CD.out wr Hgv.out v (by rw [depI_length]; exact hv1)
          have w1 := CW.out wr Hgv.out u (by rw [HWl.out]; exact hu1)
          have w2 := CW.out wr Hgv.out v (by rw [HWl.out]; exact hv1)
          have Hvy := Lib.hid hvy
          obtain ⟨wv1, wv2⟩ := HW.out v
          have Lv := Lib.hid (fun W1 : World => left_r y (ge W v) W1 (by omega) ⟨wv1, wv2⟩)
          clear hvy h1 h2 cV2 cX2
          by_cases hd : dep P u = dep P v
          · have hde : (ge (depI P) u != ge (depI P) v) = false := by unfold depI; rw [ge_tab _ hu1, ge_tab _ hv1, hd]; simp
            have Hst := Lib.hid (shS_step (W := W) (sep := sep) Hux.out Hvy.out hd)
            clear hd
            obtain ⟨nd, hnd⟩ : ∃ nd, x - ge W u / 2 + ge W u + sep - (y - ge W v / 2) = nd := ⟨_, rfl⟩
            have hndb : -1000000000 ≤ nd ∧ nd ≤ 1000000000 := by omega
            rw [hnd] at Hst
            have hwn : IntKind.i64.wrap (x - ge W u / 2 + ge W u + sep - (y - ge W v / 2)) = x - ge W u / 2 + ge W u + sep - (y - ge W v / 2) := IntWalk.i64_in _ ⟨by omega, by omega⟩
            cases hs : shS P W sep a b j k with
            | none =>
              have Hnx : Hid (shS P W sep a b j (k + 1) = some nd) := Lib.hid (by rw [Hst.out, hs]; rfl)
              clear hs
              go_wp2
              refine wp_region_over (by kernel_rfl) (by kernel_rfl) ?_; (repeat (go_big_quiet_step (fail))); refine wpQuiet_nil ?_; rintro _ ⟨x, rfl⟩
              go_wp2
              refine wp_region_over (by kernel_rfl) (by kernel_rfl) ?_; (repeat (go_big_quiet_step (fail))); refine wpQuiet_nil ?_; rintro _ ⟨x, rfl⟩
              go_wp2
              refine wp_region_over (by kernel_rfl) (by kernel_rfl) ?_; (repeat (go_big_quiet_step (first | (go_at_call 17; apply over_callE; with_reducible exact Lu.out _) | (go_at_call 17; apply over_callE; with_reducible exact Lv.out _)))); refine wpQuiet_nil ?_; rintro _ ⟨x, rfl⟩
              clear f1 f2 f3 a0 a1 b0 b1 e1 e2 e3 e4 d1 d2 w1 w2
              go_wp2
              go_roundw
              case rel => exact ⟨k + 1, by omega, by go_num, by rw [Hnx.out]; simp [hnd], by rw [Hnx.out]; rfl, Hgq.out.trans (by (repeat (first | exact Grew.refl _ | refine Grew.over ?_ _ | refine Grew.alloc ?_ _ | refine Grew.drew ?_ | refine Grew.drewN ?_ _)))⟩
              case measure => simp [intOf]; omega
            | some z =>
              by_cases hz : z < nd
              · have Hnx : Hid (shS P W sep a b j (k + 1) = some nd) := Lib.hid (by rw [Hst.out, hs]; simp [mxStep, hz])
                have hz' : z < x - ge W u / 2 + ge W u + sep - (y - ge W v / 2) := by omega
                clear hs hz
                go_wp2
                refine wp_region_over (by kernel_rfl) (by kernel_rfl) ?_; (repeat (go_big_quiet_step (fail))); refine wpQuiet_nil ?_; rintro _ ⟨x, rfl⟩
                go_wp2
                refine wp_region_over (by kernel_rfl) (by kernel_rfl) ?_; (repeat (go_big_quiet_step (fail))); refine wpQuiet_nil ?_; rintro _ ⟨x, rfl⟩
                go_wp2
                refine wp_region_over (by kernel_rfl) (by kernel_rfl) ?_; (repeat (go_big_quiet_step (first | (go_at_call 17; apply over_callE; with_reducible exact Lu.out _) | (go_at_call 17; apply over_callE; with_reducible exact Lv.out _)))); refine wpQuiet_nil ?_; rintro _ ⟨x, rfl⟩
                clear f1 f2 f3 a0 a1 b0 b1 e1 e2 e3 e4 d1 d2 w1 w2
                go_wp2
                go_roundw
                case rel => exact ⟨k + 1, by omega, by go_num, by rw [Hnx.out]; simp [hnd], by rw [Hnx.out]; rfl, Hgq.out.trans (by (repeat (first | exact Grew.refl _ | refine Grew.over ?_ _ | refine Grew.alloc ?_ _ | refine Grew.drew ?_ | refine Grew.drewN ?_ _)))⟩
                case measure => simp [intOf]; omega
              · have Hnx : Hid (shS P W sep a b j (k + 1) = some z) := Lib.hid (by rw [Hst.out, hs]; simp [mxStep, hz])
                have hz' : x - ge W u / 2 + ge W u + sep - (y - ge W v / 2) ≤ z := by omega
                clear hs hz
                go_wp2
                refine wp_region_over (by kernel_rfl) (by kernel_rfl) ?_; (repeat (go_big_quiet_step (fail))); refine wpQuiet_nil ?_; rintro _ ⟨x, rfl⟩
                go_wp2
                refine wp_region_over (by kernel_rfl) (by kernel_rfl) ?_; (repeat (go_big_quiet_step (fail))); refine wpQuiet_nil ?_; rintro _ ⟨x, rfl⟩
                go_wp2
                refine wp_region_over (by kernel_rfl) (by kernel_rfl) ?_; (repeat (go_big_quiet_step (first | (go_at_call 17; apply over_callE; with_reducible exact Lu.out _) | (go_at_call 17; apply over_callE; with_reducible exact Lv.out _)))); refine wpQuiet_nil ?_; rintro _ ⟨x, rfl⟩
                clear f1 f2 f3 a0 a1 b0 b1 e1 e2 e3 e4 d1 d2 w1 w2
                go_wp2
                go_roundw
                case rel => exact ⟨k + 1, by omega, by go_num, by rw [Hnx.out], by rw [Hnx.out], Hgq.out.trans (by (repeat (first | exact Grew.refl _ | refine Grew.over ?_ _ | refine Grew.alloc ?_ _ | refine Grew.drew ?_ | refine Grew.drewN ?_ _)))⟩
                case measure => simp [intOf]; omega
          · have hde : (ge (depI P) u != ge (depI P) v) = true := by unfold depI; rw [ge_tab _ hu1, ge_tab _ hv1, bne_iff_ne]; omega
            have Hst := Lib.hid (shS_same (W := W) (sep := sep) Hux.out Hvy.out hd)
            clear hd
            go_wp2
            refine wp_region_over (by kernel_rfl) (by kernel_rfl) ?_; (repeat (go_big_quiet_step (fail))); refine wpQuiet_nil ?_; rintro _ ⟨x, rfl⟩
            go_wp2
            refine wp_region_over (by kernel_rfl) (by kernel_rfl) ?_; (repeat (go_big_quiet_step (fail))); refine wpQuiet_nil ?_; rintro _ ⟨x, rfl⟩
            clear f1 f2 f3 a0 a1 b0 b1 e1 e2 e3 e4 d1 d2 w1 w2
            go_wp2
            go_roundw
            case rel => exact ⟨k + 1, by omega, by go_num, by rw [Hst.out], by rw [Hst.out], Hgq.out.trans (by (repeat (first | exact Grew.refl _ | refine Grew.over ?_ _ | refine Grew.alloc ?_ _ | refine Grew.drew ?_ | refine Grew.drewN ?_ _)))⟩
            case measure => simp [intOf]; omega
        · have hkb : k = b.length := by omega
          have Hn2 : Hid (shS P W sep a b j k = shS P W sep a b (j + 1) 0) := Lib.hid (by rw [hkb]; exact Hrst.out)
          clear hkb
          go_wp2
          go_roundw
          case rel => exact ⟨j + 1, by omega, by go_num, by rw [Hn2.out], by rw [Hn2.out], Hgq.out⟩
          case measure => simp [intOf]; omega
    · have hje : j = a.length := by omega
      have He : Hid ((shS P W sep a b j 0).getD 0 = shD P W sep a b) := Lib.hid (by rw [hje]; exact shS_end)
      go_wp2
      go_ret
      exact ⟨by rw [← He.out]; rfl, Hgw.out⟩

end Go.Proofs.Ytgodoeefgmfpfaa
