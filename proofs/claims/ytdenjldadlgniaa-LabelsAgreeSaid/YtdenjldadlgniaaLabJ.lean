/- What from needs: slices of one element, Clone, the search's cells, bounds. -/
import Derived.Test.YtdenjldadlgniaaLabI
set_option linter.unusedSimpArgs false
set_option linter.unusedVariables false
namespace Go.Proofs.Ytdenjldadlgniaa
open Go.RowKit
attribute [local go_sem ↓] Go.wp_at_zero Go.wp_at_succ

theorem step_build_int {ops : Array Oper} {o : Oper} {a : Act} {K : Act → World → Prop} {Q : Exit → Act → World → Prop} {E : Prop} {w : World} (hgd : o.guard = none) (t : Nat)
    (ho : o.op = .buildSlice 24 1 #[(0, .tmp t)]) (k : Int) (hx : a.tmps[t]?.getD undef = .int .i64 k)
    (h : ∀ b w', w'.cell? ⟨b, 0, none⟩ = some (.int .i64 k) → Grew w w' → K (a.put o.dst (.slice (some ⟨b, 0, none⟩) 1 1)) w') :
    if Region.wanted o (yielded ops a.tmps) = true then Oper.wp Try.prog o a w K Q else E := by
  rw [if_pos (by simp [Region.wanted, hgd])]
  unfold Oper.wp
  simp only [execOp, ho]
  go_simp
  exact h _ _ (by simp [go_sem]) (by (repeat (first | exact Grew.refl _ | refine Grew.over ?_ _ | refine Grew.alloc ?_ _ | refine Grew.drew ?_ | refine Grew.drewN ?_ _)))
theorem step_build_box {ops : Array Oper} {o : Oper} {a : Act} {K : Act → World → Prop} {Q : Exit → Act → World → Prop} {E : Prop} {w : World} (hgd : o.guard = none) (t : Nat)
    (ho : o.op = .buildSlice 35 1 #[(0, .tmp t)]) (c1 c2 c3 c4 : Int) (hx : a.tmps[t]?.getD undef = .agg #[.int .i64 c1, .int .i64 c2, .int .i64 c3, .int .i64 c4])
    (h : ∀ b w', w'.cell? ⟨b, 0, none⟩ = some (.int .i64 c1) → w'.cell? ⟨b, 1, none⟩ = some (.int .i64 c2) → w'.cell? ⟨b, 2, none⟩ = some (.int .i64 c3) → w'.cell? ⟨b, 3, none⟩ = some (.int .i64 c4) → Grew w w' → K (a.put o.dst (.slice (some ⟨b, 0, none⟩) 1 1)) w') :
    if Region.wanted o (yielded ops a.tmps) = true then Oper.wp Try.prog o a w K Q else E := by
  rw [if_pos (by simp [Region.wanted, hgd])]
  unfold Oper.wp
  simp only [execOp, ho]
  go_simp
  exact h _ _ (by simp [go_sem]) (by simp [go_sem]) (by simp [go_sem]) (by simp [go_sem]) (by (repeat (first | exact Grew.refl _ | refine Grew.over ?_ _ | refine Grew.alloc ?_ _ | refine Grew.drew ?_ | refine Grew.drewN ?_ _)))

set_option maxHeartbeats 1000000 in
theorem clone_0 (c : Nat) (w : World) : Calls Try.prog 49 #[.slice none 0 c] w fun e w' => e = .returned (.slice none 0 0) ∧ w = w' := by
  have heq := fun W => Lib.run_eql_slice_nil (P := Try.prog) W 24 3 none 0 c 0 0 Try.underlying24
  go_enter Try.func49, Try.ntmps49
  go_wp2
  go_ret
  exact ⟨rfl, rfl⟩
theorem clone_any (gs : Nat) (p : Option Addr) (n cap : Nat) (xs : List Int) (w : World) (hgs : gs < w.heap.size) (hI : Ints w p xs) (hn : xs.length = n) (hp : Fst gs p n) (h64 : n ≤ 64) :
    Calls Try.prog 49 #[.slice p n cap] w fun e w' => Grew w w' ∧ ∃ q c, e = .returned (.slice q n c) ∧ Ints w' q xs ∧ Fst gs q n ∧ n ≤ c ∧ c ≤ 9223372036854775807 := by
  rcases hp with ⟨rfl, rfl⟩ | ⟨g, rfl, h0, hne⟩
  · refine (clone_0 cap w).mono ?_
    rintro e w' ⟨rfl, rfl⟩
    exact ⟨Grew.refl _, none, 0, rfl, hI, Or.inl ⟨rfl, rfl⟩, Nat.le_refl _, by decide⟩
  · refine (clone_i g 0 n cap xs w hI hn h0 h64).mono ?_
    rintro e w' ⟨hg, q, c, rfl, hO⟩
    have hO' : Owns w' w.heap.size [⟨.slice (some ⟨q, 0, none⟩) n c, 3, 1, n, intVs xs⟩] := by
      have h2 := hO
      unfold matRow at h2
      rw [hn] at h2
      exact h2
    obtain ⟨q', c', he, hB, h1, h2, h3⟩ := ints_of_owns hO' (k := 0) rfl h0 (by omega) hI.2.1
    cases he
    exact ⟨hg, _, c, rfl, h3, Or.inr ⟨q, rfl, h0, by omega⟩, h1, by simp only [maxLen] at h2; omega⟩

/-! ### Worlds that differ in block gs only -/
abbrev GX (gs : Nat) (w w' : World) : Prop := Gr (fun k => k = gs) w w'
theorem GX.grew {gs : Nat} {w0 w w' : World} (h : Grew w0 w) (hs : w0.heap.size ≤ gs) (g : GX gs w w') : Grew w0 w' :=
  (((Gr.of_grew (fun k => k = gs) h).trans g).mono (fun k hk e => by subst e; exact Nat.lt_irrefl _ (Nat.lt_of_lt_of_le hk hs))).grew
theorem GX.cellEq {gs : Nat} {w w' : World} (h : GX gs w w') {b i : Nat} {v : Value} (hb : b ≠ gs) (hc : w.cell? ⟨b, i, none⟩ = some v) : w'.cell? ⟨b, i, none⟩ = some v := by
  rw [h.cell (World.block_lt_of_cell? w _ hc) hb]; exact hc
theorem GX.ints {gs : Nat} {w w' : World} (h : GX gs w w') {p : Option Addr} {xs : List Int} (hI : Ints w p xs) {n : Nat} (hn : xs.length = n) (hp : Fst gs p n) : Ints w' p xs := by
  obtain ⟨h1, h2, b, o, h3, h4⟩ := hI
  refine ⟨h1, h2, b, o, fun h0 => ⟨(h3 h0).1, Nat.lt_of_lt_of_le (h3 h0).2 h.size⟩, fun i hi => ?_⟩
  have e := (h3 (by omega)).1
  rcases hp with ⟨e2, h0⟩ | ⟨g, e2, _, hne⟩
  · omega
  · rw [e2] at e; cases e
    exact h.cellEq hne (h4 i hi)
theorem GX.bxs {gs : Nat} {w w' : World} (h : GX gs w w') {p : Option Addr} {xs : List Bx} (hI : Bxs w p xs) {n : Nat} (hn : xs.length = n) (hp : Fst gs p n) : Bxs w' p xs := by
  obtain ⟨h1, b, o, h3, h4⟩ := hI
  refine ⟨h1, b, o, fun h0 => ⟨(h3 h0).1, Nat.lt_of_lt_of_le (h3 h0).2 h.size⟩, fun i hi => ?_⟩
  have e := (h3 (by omega)).1
  rcases hp with ⟨e2, h0⟩ | ⟨g, e2, _, hne⟩
  · omega
  · rw [e2] at e; cases e
    obtain ⟨d1, d2, d3, d4⟩ := h4 i hi
    exact ⟨h.cellEq hne d1, h.cellEq hne d2, h.cellEq hne d3, h.cellEq hne d4⟩

/-- The cells of the search. -/
structure Srch (w : World) (gs gr rc : Nat) (pc qc : Option Addr) (cc cq : Nat) (m : List (List Bx)) (c : List (List Int)) (fnd : Bool) (a : List Nat) (z : Int) : Prop where
  c0 : w.cell? ⟨gs, 0, none⟩ = some (.slice pc m.length cc)
  c1 : w.cell? ⟨gs, 1, none⟩ = some (.slice qc m.length cq)
  c2 : w.cell? ⟨gs, 2, none⟩ = some (.slice (some ⟨gr, 0, none⟩) (m.length + 1) rc)
  c3 : ∃ q k cp, w.cell? ⟨gs, 3, none⟩ = some (.slice q k cp) ∧ (fnd = true → k = a.length ∧ Ints w q (intL a) ∧ Fst gs q a.length ∧ a.length ≤ cp ∧ cp ≤ 9223372036854775807)
  c4 : w.cell? ⟨gs, 4, none⟩ = some (.int .i64 z)
  c5 : w.cell? ⟨gs, 5, none⟩ = some (.bool fnd)
  fz : ∀ i, w.frozen? ⟨gs, i, none⟩ = false
  rst : ∀ i, i ≤ m.length → w.cell? ⟨gr, i, none⟩ = some (.int .i64 (rstS c i))
  ne : gr ≠ gs
section
variable {w w' : World} {gs gr rc : Nat} {pc qc : Option Addr} {cc cq : Nat} {m : List (List Bx)} {c : List (List Int)} {fnd : Bool} {a : List Nat} {z : Int}
theorem Srch.lt (h : Srch w gs gr rc pc qc cc cq m c fnd a z) : gs < w.heap.size := World.block_lt_of_cell? w _ h.c0
theorem Srch.grew (h : Srch w gs gr rc pc qc cc cq m c fnd a z) (hg : Grew w w') : Srch w' gs gr rc pc qc cc cq m c fnd a z := by
  obtain ⟨q, k, cp, h3, h3'⟩ := h.c3
  exact ⟨hg.cellEq h.c0, hg.cellEq h.c1, hg.cellEq h.c2, ⟨q, k, cp, hg.cellEq h3, fun hf => ⟨(h3' hf).1, (h3' hf).2.1.grew hg, (h3' hf).2.2⟩⟩, hg.cellEq h.c4, hg.cellEq h.c5, fun i => hg.frozenEq h.lt (h.fz i), fun i hi => hg.cellEq (h.rst i hi), h.ne⟩
theorem setC_same (w : World) {b i : Nat} {v u : Value} (h : w.cell? ⟨b, i, none⟩ = some v) : (w.setCell ⟨b, i, none⟩ u).cell? ⟨b, i, none⟩ = some u := World.cell?_setCell_same (w := w) (a := ⟨b, i, none⟩) (v := u) h
theorem setC_other (w : World) {b i b' i' : Nat} {u : Value} (h : ¬ (b' = b ∧ i' = i)) : (w.setCell ⟨b, i, none⟩ u).cell? ⟨b', i', none⟩ = w.cell? ⟨b', i', none⟩ := World.cell?_setCell_other (w := w) (a := ⟨b, i, none⟩) (b := ⟨b', i', none⟩) (v := u) (fun e => h (by cases e; exact ⟨rfl, rfl⟩))
theorem setC_frz (w : World) {b i b' i' : Nat} {u : Value} : (w.setCell ⟨b, i, none⟩ u).frozen? ⟨b', i', none⟩ = w.frozen? ⟨b', i', none⟩ := World.frozen?_setCell ..
theorem gx_set3 (w : World) (gs : Nat) (u3 u4 u5 : Value) : GX gs w (((w.setCell ⟨gs, 3, none⟩ u3).setCell ⟨gs, 4, none⟩ u4).setCell ⟨gs, 5, none⟩ u5) :=
  Gr.setCell (ex := fun k => k = gs) (Gr.setCell (ex := fun k => k = gs) (Gr.setCell (ex := fun k => k = gs) (Gr.refl (fun k => k = gs) w) rfl u3) rfl u4) rfl u5
theorem Srch.store (h : Srch w gs gr rc pc qc cc cq m c fnd a z) {l : List Nat} {q : Option Addr} {k cp : Nat} (hk : l.length = k) (hI : Ints w q (intL l)) (hq : Fst gs q k) (hc : k ≤ cp) (hc2 : cp ≤ 9223372036854775807) (y : Int) :
    Srch (((w.setCell ⟨gs, 3, none⟩ (.slice q k cp)).setCell ⟨gs, 4, none⟩ (.int .i64 y)).setCell ⟨gs, 5, none⟩ (.bool true)) gs gr rc pc qc cc cq m c true l y := by
  subst hk
  obtain ⟨q0, k0, cp0, h3, _⟩ := h.c3
  have hx := gx_set3 w gs (.slice q l.length cp) (.int .i64 y) (.bool true)
  refine ⟨?_, ?_, ?_, ⟨q, l.length, cp, ?_, fun _ => ⟨rfl, hx.ints hI (by rw [intL_length]) hq, hq, hc, hc2⟩⟩, ?_, ?_, ?_, ?_, h.ne⟩
  · rw [setC_other _ (by omega), setC_other _ (by omega), setC_other _ (by omega)]; exact h.c0
  · rw [setC_other _ (by omega), setC_other _ (by omega), setC_other _ (by omega)]; exact h.c1
  · rw [setC_other _ (by omega), setC_other _ (by omega), setC_other _ (by omega)]; exact h.c2
  · rw [setC_other _ (by omega), setC_other _ (by omega)]; exact setC_same w h3
  · rw [setC_other _ (by omega)]
    exact setC_same _ (by rw [setC_other _ (by omega)]; exact h.c4)
  · exact setC_same _ (by rw [setC_other _ (by omega), setC_other _ (by omega)]; exact h.c5)
  · intro i; rw [setC_frz, setC_frz, setC_frz]; exact h.fz i
  · intro i hi; exact hx.cellEq h.ne (h.rst i hi)
end
theorem cells7 {w w' : World} (hg : Grew w w') {b1 b2 b3 b4 b5 b6 b7 i1 i2 i3 i4 i5 i6 i7 : Nat} {v1 v2 v3 v4 v5 v6 v7 : Value}
    (h : w.cell? ⟨b1, i1, none⟩ = some v1 ∧ w.cell? ⟨b2, i2, none⟩ = some v2 ∧ w.cell? ⟨b3, i3, none⟩ = some v3 ∧ w.cell? ⟨b4, i4, none⟩ = some v4 ∧ w.cell? ⟨b5, i5, none⟩ = some v5 ∧ w.cell? ⟨b6, i6, none⟩ = some v6 ∧ w.cell? ⟨b7, i7, none⟩ = some v7) :
    w'.cell? ⟨b1, i1, none⟩ = some v1 ∧ w'.cell? ⟨b2, i2, none⟩ = some v2 ∧ w'.cell? ⟨b3, i3, none⟩ = some v3 ∧ w'.cell? ⟨b4, i4, none⟩ = some v4 ∧ w'.cell? ⟨b5, i5, none⟩ = some v5 ∧ w'.cell? ⟨b6, i6, none⟩ = some v6 ∧ w'.cell? ⟨b7, i7, none⟩ = some v7 :=
  ⟨hg.cellEq h.1, hg.cellEq h.2.1, hg.cellEq h.2.2.1, hg.cellEq h.2.2.2.1, hg.cellEq h.2.2.2.2.1, hg.cellEq h.2.2.2.2.2.1, hg.cellEq h.2.2.2.2.2.2⟩

/-! ### Bounds -/
theorem lco_bd {m : List (List Bx)} {c : List (List Int)} (hV : vL m c) {l : List Nat} (h : Ch m l) : 0 ≤ lco c l ∧ lco c l ≤ (l.length : Int) * 1000000 := by
  have key : ∀ j, j ≤ l.length → 0 ≤ sumN (fun i => at2 c i (gn l i)) j ∧ sumN (fun i => at2 c i (gn l i)) j ≤ (j : Int) * 1000000 := fun j => by
    induction j with
    | zero => intro _; exact ⟨Int.le_refl _, Int.le_refl _⟩
    | succ j ih =>
      intro hj
      have := ih (by omega)
      have e : sumN (fun i => at2 c i (gn l i)) (j + 1) = sumN (fun i => at2 c i (gn l i)) j + at2 c j (gn l j) := rfl
      rw [e]
      have h1 := h.lt j (by omega)
      have h2 := h.le
      have h3 := hV.cb j (by omega) (gn l j) (by rw [hV.co j (by omega)]; exact h1)
      omega
  exact key _ (Nat.le_refl _)
theorem rst_bd {m : List (List Bx)} {c : List (List Int)} (hV : vL m c) (i : Nat) : 0 ≤ rstS c i ∧ rstS c i ≤ 8000000 := by
  have hn := hV.n
  have hcn := hV.cn
  have key : ∀ d, i + d ≤ c.length → 0 ≤ sumN (fun j => mnL (rowOf c (i + j))) d ∧ sumN (fun j => mnL (rowOf c (i + j))) d ≤ (d : Int) * 1000000 := fun d => by
    induction d with
    | zero => intro _; exact ⟨Int.le_refl _, Int.le_refl _⟩
    | succ d ih =>
      intro hd
      have := ih (by omega)
      have e : sumN (fun j => mnL (rowOf c (i + j))) (d + 1) = sumN (fun j => mnL (rowOf c (i + j))) d + mnL (rowOf c (i + d)) := rfl
      rw [e]
      by_cases h0 : 0 < (rowOf c (i + d)).length
      · obtain ⟨t, h1, h2⟩ := mnL_at h0
        have h3 := hV.cb (i + d) (by omega) t h1
        unfold at2 at h3
        omega
      · have e0 : rowOf c (i + d) = [] := List.length_eq_zero_iff.1 (by omega)
        rw [e0]
        show 0 ≤ _ + (0 : Int) ∧ _ + (0 : Int) ≤ _
        omega
  unfold rstS
  by_cases h : i ≤ c.length
  · have := key (c.length - i) (by omega)
    omega
  · rw [show c.length - i = 0 by omega]
    exact ⟨Int.le_refl _, show (0 : Int) ≤ 8000000 by decide⟩
/-- The boxes of a choice. -/
def chL (m : List (List Bx)) (l : List Nat) : List Bx := chF (fun i => bxAt m i (gn l i)) l.length
theorem chL_len (m : List (List Bx)) (l : List Nat) : (chL m l).length = l.length := chF_len _ _
theorem chL_snoc (m : List (List Bx)) (l : List Nat) (k : Nat) : chL m (l ++ [k]) = chL m l ++ [bxAt m l.length k] := by
  unfold chL
  rw [show (l ++ [k]).length = l.length + 1 by simp, chF_succ]
  congr 1
  · exact chF_congr fun i hi => by rw [gn_app, if_pos hi]
  · rw [gn_app, if_neg (Nat.lt_irrefl _), if_pos rfl]
theorem fr_iff {m : List (List Bx)} {l : List Nat} {k : Nat} : frB (chL m l) (bxAt m l.length k) = true ↔ Fr m l k := frB_true
theorem intL_snoc (l : List Nat) (k : Nat) : intL (l ++ [k]) = intL l ++ [(k : Int)] := by simp [intL]
end Go.Proofs.Ytdenjldadlgniaa
