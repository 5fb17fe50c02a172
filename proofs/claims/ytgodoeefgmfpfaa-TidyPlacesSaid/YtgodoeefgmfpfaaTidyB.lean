/- The reference's moved. -/
import Derived.Test.YtgodoeefgmfpfaaTidyU
set_option linter.unusedSimpArgs false
set_option linter.unusedVariables false
namespace Go.Proofs.Ytgodoeefgmfpfaa
open Go.RowKit
attribute [local go_sem ↓] Go.wp_at_zero Go.wp_at_succ

theorem posD_mvD (s : Dr) (b : Int) : posD (mvD s b) = (posD s).map (· + b) := by simp [posD, mvD]
theorem vtx_mvD (s : Dr) (b : Int) : vtx (mvD s b) = vtx s := by unfold vtx; rw [verts_mvD]
theorem take_map_succ {s : Dr} {j u : Nat} {x b : Int} (h : s[j]? = some (u, x)) : ((posD s).map (· + b)).take (j + 1) = ((posD s).map (· + b)).take j ++ [x + b] := by
  obtain ⟨hj, e⟩ := List.getElem?_eq_some_iff.1 h
  rw [List.take_succ_eq_append_getElem (by simpa [posD] using hj)]
  simp [posD, e]

/-- A row's value and its cells. -/
theorem Owns.form {w : World} {B : Nat} {rs : List Row} (h : Owns w B rs) {k : Nat} {v : Value} {e : TypeId} {n : Nat} {vs : List Value} (hk : rs[k]? = Option.some ⟨v, e, 1, n, vs⟩) :
    ∃ p cap, v = .slice p n cap ∧ vs.length = n ∧ n ≤ cap ∧ cap ≤ maxLen ∧ (p = Option.none → n = 0 ∧ cap = 0) ∧ ∀ w' : World, Grew w w' → ∀ b, p = Option.some b → ∀ j u, vs[j]? = Option.some u → w'.cell? (b.add j) = Option.some u := by
  obtain ⟨h1, h2⟩ := h.get hk
  rw [Nat.mul_one] at h1
  rcases h2 with ⟨rfl, rfl⟩ | ⟨g, cap, rfl, _, _, h3, h4, _, h5⟩
  · exact ⟨Option.none, 0, rfl, h1, Nat.le_refl _, Nat.zero_le _, fun _ => ⟨rfl, rfl⟩, fun _ _ b hb => by cases hb⟩
  · refine ⟨Option.some ⟨g, 0, Option.none⟩, cap, rfl, h1, h3, h4, (fun h => by cases h), fun w' hg b hb j u hu => ?_⟩
    cases hb
    rw [Addr.add_lit, Nat.zero_add]
    exact hg.cellEq (h5 j u hu)

/-- The rows of moved: the box of the part, that of the result, that of the new part, the new list. -/
def mvRows (h : Nat) (vv vx vX : Value) (j : Nat) (xs : List Int) : List Row :=
  [⟨.slice (some ⟨h, 0, none⟩) 1 1, 47, 2, 1, [vv, vx]⟩, ⟨.slice (some ⟨h + 1, 0, none⟩) 1 1, 47, 2, 1, [.slice none 0 0, .slice none 0 0]⟩,
    ⟨.slice (some ⟨h + 2, 0, none⟩) 1 1, 47, 2, 1, [vv, vX]⟩, ⟨vX, 3, 1, j, intVs xs⟩]
theorem mv_start (w : World) (vv vx : Value) :
    Owns (((w.alloc (.cells #[vv, vx] 47)).alloc (.cells #[.slice none 0 0, .slice none 0 0] 47)).alloc (.cells #[vv, .slice none 0 0] 47)) w.heap.size (mvRows w.heap.size vv vx (.slice none 0 0) 0 []) := by
  have h0 := ((Owns.nil w w.heap.size).none 3 1)
  have h1 := h0.made (Nat.le_refl _) #[vv, vx] 47 2 1 w.heap.size rfl (by decide) rfl
  have h2 := h1.made (by first | rfl | omega | (simp <;> omega)) #[.slice none 0 0, .slice none 0 0] 47 2 1 (w.heap.size + 1) rfl (by decide) (by simp)
  have h3 := h2.made (by first | rfl | omega | (simp <;> omega)) #[vv, .slice none 0 0] 47 2 1 (w.heap.size + 2) rfl (by decide) (by simp)
  refine h3.perm ?_
  exact (List.Perm.cons _ (List.Perm.swap _ _ _)).trans ((List.Perm.swap _ _ _).trans (List.Perm.cons _ (List.Perm.swap _ _ _)))

/-- A part in memory of one's own: the two lists of its vertices and positions. -/
def subRows (vV vX : Value) (s : Dr) : List Row := [⟨vV, 3, 1, s.length, intVs (vtx s)⟩, ⟨vX, 3, 1, s.length, intVs (posD s)⟩]

set_option maxRecDepth 8000 in
set_option maxHeartbeats 8000000 in
theorem moved_r (pv px : Option Addr) (cv cx : Nat) (s : Dr) (b : Int) (w : World) (hX : Ints w px (posD s)) (h64 : s.length ≤ 64) (hs : ∀ q ∈ s, -1000000000000 ≤ q.2 ∧ q.2 ≤ 1000000000000) (hb : -1000000000000 ≤ b ∧ b ≤ 1000000000000) :
    Calls Try.prog 35 #[.agg #[.slice pv s.length cv, .slice px s.length cx], .int .i64 b] w fun e w' => Grew w w' ∧ ∃ vX, e = .returned (.agg #[.slice pv s.length cv, vX]) ∧
      Owns w' w.heap.size [⟨vX, 3, 1, s.length, intVs (posD (mvD s b))⟩] := by
  have HX := Lib.hid hX
  have Hs := Lib.hid hs
  obtain ⟨hb1, hb2⟩ := hb
  have Hst := Lib.hid (mv_start w (.slice pv s.length cv) (.slice px s.length cx))
  clear hX hs
  go_enter Try.func35, Try.ntmps35
  go_wp2
  go_loopw [6] (fun i wr => ∃ j : Nat, j ≤ s.length ∧ i = .int .i64 j ∧ Grew w wr ∧ ∃ vX xs, xs = ((posD s).map (· + b)).take j ∧ Owns wr w.heap.size (mvRows w.heap.size (.slice pv s.length cv) (.slice px s.length cx) vX j xs)) (fun i _ => s.length - (intOf i).toNat)
  case atStart => exact ⟨0, Nat.zero_le _, rfl, by (repeat (first | exact Grew.refl _ | refine Grew.over ?_ _ | refine Grew.alloc ?_ _ | refine Grew.drew ?_ | refine Grew.drewN ?_ _)), .slice none 0 0, [], rfl, Hst.out⟩
  case round =>
    obtain ⟨j, hj, rfl, hg, vX, xs, hxs, hO⟩ := hrel
    have Hxs := Lib.hid hxs
    obtain ⟨pX, cX, rfl, _, hcx1, hcx2, _, _⟩ := hO.form (k := 3) rfl
    have Hg := Lib.hid hg
    have HO := Lib.hid hO
    have hszr := hg.below.size
    obtain ⟨g0, c0, e0, _, k0, _, _, _, m0⟩ := hO.some (k := 0) rfl (by omega)
    cases e0
    obtain ⟨g2, c2, e2, _, k2, _, _, n2, m2⟩ := hO.some (k := 2) rfl (by omega)
    cases e2
    obtain ⟨g1, c1, e1, _, k1, _, _, n1, m1⟩ := hO.some (k := 1) rfl (by omega)
    cases e1
    have t0 := m0 0 _ rfl
    have t1 := m0 1 _ rfl
    have t2 := m2 0 _ rfl
    have t3 := m2 1 _ rfl
    have t4 := m1 0 _ rfl
    have t5 := m1 1 _ rfl
    have t6 := n2 1
    have t7 := n1 0
    have t8 := n1 1
    clear hg hO m0 m2 m1 n2 n1 hxs
    by_cases hlt : j < s.length
    · obtain ⟨u, x, hux⟩ := dr_at s hlt
      obtain ⟨h1, h2, _⟩ := vtx_at hux
      obtain ⟨hx1, hx2⟩ := Hs.out _ (List.mem_of_getElem? hux)
      obtain ⟨bX, oX, rfl, lX, cX'⟩ := HX.out.cells (by rw [posD_length]; omega)
      have e1 := cX' wr Hg.out j (by rw [posD_length]; exact hlt)
      rw [h2] at e1
      have Hnx := Lib.hid (take_map_succ (b := b) hux)
      dsimp only at hx1 hx2
      have hwx : IntKind.i64.wrap (x + b) = x + b := IntWalk.i64_in _ ⟨by omega, by omega⟩
      clear hux h1 h2 cX' t4 t5 t7 t8
      go_wp2
      go_region_law
        ((refine step_append_owns rfl _ _ 22 (by rfl) 3 1 8 (.int .i64 0) Try.underlying22 Try.infoInt rfl (by decide) w.heap.size _ 3 _ _ _ (HO.out.grew (by (repeat (first | exact Grew.refl _ | refine Grew.over ?_ _ | refine Grew.alloc ?_ _ | refine Grew.drew ?_ | refine Grew.drewN ?_ _)))) rfl (by rfl) _ 1 1 (by rfl) [.int .i64 (x + b)] rfl (fun h => by cases h) (one_news _ (by (simp [go_sem, ↓IntWalk.iteOmega]))) (by simp [Value.oneCell']) (by simp only [maxLen]; omega) (by omega) (by first | rfl | omega | (simp <;> omega)) ?_; intro v1 w1 hO1 hg1 hb1 _; obtain ⟨gv, cv', rfl, _, _, _, _, _, _⟩ := hO1.some (k := 3) rfl (by omega); obtain ⟨g5, c5, e5, _, h5, _, _, f5, m5⟩ := hO1.some (k := 2) rfl (by omega); cases e5; have s0 := m5 0 _ rfl; have s1 := m5 1 _ rfl; have s2 := f5 1; have Hg1 := Lib.hid (Grew.grownBy (w0 := w) (Hg.out.trans (by (repeat (first | exact Grew.refl _ | refine Grew.over ?_ _ | refine Grew.alloc ?_ _ | refine Grew.drew ?_ | refine Grew.drewN ?_ _)))) hg1 hb1); have HO1 := Lib.hid hO1; clear m5 f5 hg1 hb1 hO1))
      all_goals
        go_wp2
        go_roundw
        case rel =>
          refine ⟨j + 1, by omega, by go_num, ?_, .slice (some ⟨gv, 0, none⟩) (j + 1) cv', _, rfl, ?_⟩
          · exact Owns.setGrew HO1.out (Nat.le_refl _) Hg1.out (k := 2) rfl _ _
          · have h := HO1.out.set (k := 2) rfl 1 (.slice (some ⟨gv, 0, none⟩) (j + 1) cv')
            rw [Hnx.out, ← Hxs.out]
            simp only [mvRows, List.set_cons_succ, List.set_cons_zero, intVs, List.map_append, List.map_cons, List.map_nil] at h ⊢
            exact h
        case measure => simp [intOf]; omega
    · have hje : j = s.length := by omega
      have Hfin : Hid (xs = posD (mvD s b)) := Lib.hid (by rw [Hxs.out, posD_mvD, List.take_of_length_le (by simp [posD]; omega)])
      subst hje
      go_wp2
      refine bodyPost_ret (v := .agg #[.slice pv s.length cv, .slice pX s.length cX]) (by simp [results, Try.results35, go_sem, t2, t3, t4, t5]) rfl ?_
      have h1 := (HO.out.set (k := 1) rfl 0 (.slice pv s.length cv)).set (k := 1) rfl 1 (.slice pX s.length cX)
      have h2 := Owns.setGrew HO.out (Nat.le_refl _) Hg.out (k := 1) rfl 0 (.slice pv s.length cv)
      have h3 := Owns.setGrew (HO.out.set (k := 1) rfl 0 (.slice pv s.length cv)) (Nat.le_refl _) h2 (k := 1) rfl 1 (.slice pX s.length cX)
      refine ⟨h3, _, rfl, ?_⟩
      have h4 := h1.tail.tail.tail
      rw [Hfin.out] at h4
      exact h4

end Go.Proofs.Ytgodoeefgmfpfaa
