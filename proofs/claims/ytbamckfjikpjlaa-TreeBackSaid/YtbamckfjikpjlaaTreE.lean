/- Count and Depth of the program. -/
import Derived.Test.YtbamckfjikpjlaaTreD
set_option linter.unusedSimpArgs false
set_option linter.unusedVariables false
namespace Go.Proofs.Ytbamckfjikpjlaa
open Go.RowKit
attribute [local go_sem ↓] Go.wp_at_zero Go.wp_at_succ

/-- A captured variable of one cell. -/
def Cap1 (w0 : World) (c : Nat) (v : Value) (X : Nat → Prop) (W : World) : Prop :=
  (∀ k, X k ↔ k = c) ∧ w0.heap.size ≤ c ∧ c < W.heap.size ∧ W.cell? ⟨c, 0, none⟩ = some v ∧ W.frozen? ⟨c, 0, none⟩ = false
theorem Cap1.grew {w0 : World} {c : Nat} {v : Value} {X : Nat → Prop} {W W' : World} (h : Cap1 w0 c v X W) (hg : Grew W W') : Cap1 w0 c v X W' := by
  obtain ⟨h1, h2, h3, h4, h5⟩ := h
  exact ⟨h1, h2, Nat.lt_of_lt_of_le h3 hg.below.size, hg.cellEq h4, hg.frozenEq h3 h5⟩
theorem Cap1.x {w0 : World} {c : Nat} {v : Value} {X : Nat → Prop} {W : World} (h : Cap1 w0 c v X W) : ∀ k, X k → w0.heap.size ≤ k ∧ k < W.heap.size := fun k hk => by
  rw [h.1] at hk
  subst hk
  exact ⟨h.2.1, h.2.2.1⟩

theorem Cap1.set {w0 : World} {c : Nat} {v : Value} {X : Nat → Prop} {W : World} (h : Cap1 w0 c v X W) (u : Value) : Cap1 w0 c u X (W.setCell ⟨c, 0, none⟩ u) ∧ Gr X W (W.setCell ⟨c, 0, none⟩ u) := by
  obtain ⟨h1, h2, h3, h4, h5⟩ := h
  refine ⟨⟨h1, h2, by simpa [go_sem] using h3, ?_, ?_⟩, (Gr.refl X W).setCell ((h1 c).2 rfl) u⟩
  · simp [go_sem, h4]
  · simp [go_sem, h5]
def cntI (w0 : World) (c : Nat) (done : List (St × Nat)) (X : Nat → Prop) (W : World) : Prop := Cap1 w0 c (.int .i64 done.length) X W
theorem count1_p (w0 : World) (c : Nat) (v0 v1 v2 v3 v4 lv : Value) (n : Nat) (X : Nat → Prop) (W : World) (hn : n < 1000000) (hI : Cap1 w0 c (.int .i64 n) X W) :
    Calls Try.prog 41 #[.agg #[v0, v1, v2, v3, v4], lv, .pointer (some ⟨c, 0, none⟩)] W fun e w' => e = .returned (.bool true) ∧ Cap1 w0 c (.int .i64 (n + 1 : Nat)) X w' ∧ Gr X W w' := by
  have HI := Lib.hid hI
  obtain ⟨h1, h2, h3, h4, h5⟩ := hI
  have H1 := Lib.hid h1
  clear h1
  go_enter Try.func41, Try.ntmps41
  go_wp2
  go_ret
  obtain ⟨g1, g2⟩ := HI.out.set (.int .i64 ((n : Int) + 1))
  exact ⟨rfl, g1.grew (by (repeat (first | exact Grew.refl _ | refine Grew.over ?_ _ | refine Grew.alloc ?_ _ | refine Grew.drew ?_ | refine Grew.drewN ?_ _))), g2.over (by (repeat (first | exact Grew.refl _ | refine Grew.over ?_ _ | refine Grew.alloc ?_ _ | refine Grew.drew ?_ | refine Grew.drewN ?_ _)))⟩

theorem pre_le {done tot : List (St × Nat)} {x : St × Nat} (h : done ++ [x] <+: tot) : done.length < tot.length := by
  have := h.length_le
  simp at this
  omega
set_option maxHeartbeats 1000000 in
theorem count_p (name : ByteArray) (dir : Bool) (p : Option Addr) (n cap : Nat) (l : List St) (w : World) (hS : Sts 20 w p cap l) (hn : l.length = n) (hc : cntL l ≤ 600) :
    Calls Try.prog 20 #[.agg #[.string name, .bool dir, .slice p n cap]] w fun e w' => e = .returned (.int .i64 (cntL l)) ∧ Grew w w' := by
  have HS := Lib.hid hS
  have hlen := cnt_pre l 0
  clear hS
  have hp : Hid (∀ (W : World), Grew w W → W.heap.size = w.heap.size + 2 → (W.cell? ⟨w.heap.size + 1, 0, none⟩ = some (.int .i64 0)) → (W.frozen? ⟨w.heap.size + 1, 0, none⟩ = false) →
      Calls Try.prog 28 #[.slice p n cap, .int .i64 0, .func (.func 41) #[] #[.pointer (some ⟨w.heap.size + 1, 0, none⟩)]] W fun e w' => ∃ b, e = .returned (.bool b) ∧ w'.cell? ⟨w.heap.size + 1, 0, none⟩ = some (.int .i64 (cntL l)) ∧ Grew w w') := Lib.hid (by
    intro W hg hs hc0 hf0
    have := visit_count (.pointer (some ⟨w.heap.size + 1, 0, none⟩)) w (cntI w (w.heap.size + 1)) (fun _ _ => False) (pre l 0)
      (fun done X W W' h hg => Cap1.grew h hg) (fun done X W h => Cap1.x h)
      (fun done X W m lv k nm rs ats bd rp rc ap ac bp bc hlv hpre hI hg _ _ _ _ _ => by
        have hlt := pre_le hpre
        refine (count1_p w _ _ _ _ _ _ _ done.length X W (by omega) hI).mono ?_
        rintro e w' ⟨rfl, h1, h2⟩
        exact Or.inl ⟨rfl, X, by unfold cntI; rw [List.length_append]; exact h1, h2, fun k hk => Or.inl hk⟩)
      20 p n cap l 0 [] (fun k => k = w.heap.size + 1) W HS.out hn (by omega) (by simp) hg ⟨fun k => Iff.rfl, by omega, by omega, hc0, hf0⟩
    refine this.mono ?_
    rintro e w' (⟨rfl, X', ⟨i1, i2, i3, i4, i5⟩, h2, h3⟩ | ⟨rfl, ⟨_, _, _, _, _, h⟩, _⟩)
    · exact ⟨true, rfl, by rw [i4, List.nil_append, hlen], hg.gr (fun k hk => by omega) h2⟩
    · exact h.elim)
  go_enter Try.func20, Try.ntmps20
  go_wp2_with (go_at_call 28; apply Calls.mono; (with_reducible exact hp.out _ (by (repeat (first | exact Grew.refl _ | refine Grew.over ?_ _ | refine Grew.alloc ?_ _ | refine Grew.drew ?_ | refine Grew.drewN ?_ _))) (by simp [go_sem]) (by simp [go_sem]) (by simp [go_sem])); rintro e w2 ⟨b, rfl, hc2, hg2⟩)
  go_ret
  exact ⟨rfl, hg2⟩

def kdS : St → Int
  | .mk k _ _ _ _ => k
def mxF (a : Nat) (x : St × Nat) : Nat := if kdS x.1 = 5 then max a (x.2 + 1) else a
/-- The greatest level of a cluster and one, or 0. -/
def mxL (l : List (St × Nat)) : Nat := l.foldl mxF 0
theorem mxL_snoc (l : List (St × Nat)) (x : St × Nat) : mxL (l ++ [x]) = mxF (mxL l) x := by unfold mxL; rw [List.foldl_append]; rfl
theorem mxF_cl {a : Nat} {k : Int} {nm : ByteArray} {rs ats : List P2} {bd : List St} {lv : Nat} (h : k = 5) : mxF a (.mk k nm rs ats bd, lv) = max a (lv + 1) := if_pos h
theorem mxF_no {a : Nat} {k : Int} {nm : ByteArray} {rs ats : List P2} {bd : List St} {lv : Nat} (h : ¬ k = 5) : mxF a (.mk k nm rs ats bd, lv) = a := if_neg h
theorem depth1_p (w0 : World) (c : Nat) (k : Int) (v1 v2 v3 v4 : Value) (n lv : Nat) (X : Nat → Prop) (W : World) (hn : n ≤ 1001) (hl : lv ≤ 1000) (hI : Cap1 w0 c (.int .i64 n) X W) :
    Calls Try.prog 40 #[.agg #[.int .i64 k, v1, v2, v3, v4], .int .i64 lv, .pointer (some ⟨c, 0, none⟩)] W fun e w' => e = .returned (.bool true) ∧ Cap1 w0 c (.int .i64 (if k = 5 then max n (lv + 1) else n : Nat)) X w' ∧ Gr X W w' := by
  have HI := Lib.hid hI
  obtain ⟨h1, h2, h3, h4, h5⟩ := hI
  have H1 := Lib.hid h1
  clear h1
  by_cases hk : k = 5
  case neg =>
    rw [if_neg hk]
    go_enter Try.func40, Try.ntmps40
    go_wp2
    go_ret
    exact ⟨rfl, HI.out.grew (by (repeat (first | exact Grew.refl _ | refine Grew.over ?_ _ | refine Grew.alloc ?_ _ | refine Grew.drew ?_ | refine Grew.drewN ?_ _))), (Gr.refl X W).over (by (repeat (first | exact Grew.refl _ | refine Grew.over ?_ _ | refine Grew.alloc ?_ _ | refine Grew.drew ?_ | refine Grew.drewN ?_ _)))⟩
  subst hk
  rw [if_pos rfl]
  obtain ⟨m, hm⟩ : ∃ m, max n (lv + 1) = m := ⟨_, rfl⟩
  rw [hm]
  have Hm := Lib.hid hm
  clear hm
  rcases Nat.lt_trichotomy n (lv + 1) with hlt | hlt | hlt
  all_goals
    go_enter Try.func40, Try.ntmps40
    go_wp2
    go_ret
    first
    | (obtain ⟨g1, g2⟩ := HI.out.set (.int .i64 ((lv : Int) + 1))
       have e : (m : Int) = (lv : Int) + 1 := by have := Hm.out; omega
       rw [e]
       exact ⟨rfl, g1.grew (by (repeat (first | exact Grew.refl _ | refine Grew.over ?_ _ | refine Grew.alloc ?_ _ | refine Grew.drew ?_ | refine Grew.drewN ?_ _))), g2.over (by (repeat (first | exact Grew.refl _ | refine Grew.over ?_ _ | refine Grew.alloc ?_ _ | refine Grew.drew ?_ | refine Grew.drewN ?_ _)))⟩)
    | (obtain ⟨g1, g2⟩ := HI.out.set (.int .i64 (n : Int))
       have e : (m : Int) = (n : Int) := by have := Hm.out; omega
       rw [e]
       exact ⟨rfl, g1.grew (by (repeat (first | exact Grew.refl _ | refine Grew.over ?_ _ | refine Grew.alloc ?_ _ | refine Grew.drew ?_ | refine Grew.drewN ?_ _))), g2.over (by (repeat (first | exact Grew.refl _ | refine Grew.over ?_ _ | refine Grew.alloc ?_ _ | refine Grew.drew ?_ | refine Grew.drewN ?_ _)))⟩)
theorem mxL_le {l : List (St × Nat)} {b : Nat} (h : ∀ x ∈ l, x.2 ≤ b) : mxL l ≤ b + 1 := by
  suffices ∀ a, a ≤ b + 1 → l.foldl mxF a ≤ b + 1 from this 0 (by omega)
  induction l with
  | nil => exact fun a ha => ha
  | cons x l ih =>
    intro a ha
    have hx := h x (by simp)
    exact ih (fun y hy => h y (by simp [hy])) _ (by unfold mxF; split <;> omega)
theorem pre_lv : ∀ (l : List St) (lv : Nat), ∀ x ∈ pre l lv, x.2 ≤ lv + depL l
  | [], _, x, hx => by simp [pre] at hx
  | .mk k n rs ats b :: r, lv, x, hx => by
    simp only [pre, List.mem_cons, List.mem_append] at hx
    simp only [depL]
    rcases hx with rfl | hx | hx
    · dsimp only; omega
    · have := pre_lv b (inn k lv) x hx
      have : inn k lv ≤ lv + 1 := by unfold inn; split <;> omega
      omega
    · have := pre_lv r lv x hx
      omega
set_option maxHeartbeats 1000000 in
theorem depth_p (name : ByteArray) (dir : Bool) (p : Option Addr) (n cap : Nat) (l : List St) (w : World) (hS : Sts 20 w p cap l) (hn : l.length = n) (hc : depL l ≤ 20) :
    Calls Try.prog 19 #[.agg #[.string name, .bool dir, .slice p n cap]] w fun e w' => e = .returned (.int .i64 (mxL (pre l 0))) ∧ Grew w w' := by
  have HS := Lib.hid hS
  have hlv := pre_lv l 0
  have Hlv := Lib.hid hlv
  clear hS hlv
  have hp : Hid (∀ (W : World), Grew w W → W.heap.size = w.heap.size + 2 → (W.cell? ⟨w.heap.size + 1, 0, none⟩ = some (.int .i64 0)) → (W.frozen? ⟨w.heap.size + 1, 0, none⟩ = false) →
      Calls Try.prog 28 #[.slice p n cap, .int .i64 0, .func (.func 40) #[] #[.pointer (some ⟨w.heap.size + 1, 0, none⟩)]] W fun e w' => ∃ b, e = .returned (.bool b) ∧ w'.cell? ⟨w.heap.size + 1, 0, none⟩ = some (.int .i64 (mxL (pre l 0))) ∧ Grew w w') := Lib.hid (by
    intro W hg hs hc0 hf0
    have := visit_depth (.pointer (some ⟨w.heap.size + 1, 0, none⟩)) w (fun done X W => Cap1 w (w.heap.size + 1) (.int .i64 (mxL done)) X W) (fun _ _ => False) (pre l 0)
      (fun done X W W' h hg => Cap1.grew h hg) (fun done X W h => Cap1.x h)
      (fun done X W m lv k nm rs ats bd rp rc ap ac bp bc hlv hpre hI hg _ _ _ _ _ => by
        have hb : mxL done ≤ 21 := mxL_le fun x hx => by have := Hlv.out x (hpre.subset (by simp [hx])); omega
        refine (depth1_p w _ k _ _ _ _ (mxL done) lv X W (by omega) hlv hI).mono ?_
        rintro e w' ⟨rfl, h1, h2⟩
        exact Or.inl ⟨rfl, X, by simp only [mxL_snoc]; exact h1, h2, fun k hk => Or.inl hk⟩)
      20 p n cap l 0 [] (fun k => k = w.heap.size + 1) W HS.out hn (by omega) (by simp) hg ⟨fun k => Iff.rfl, by omega, by omega, hc0, hf0⟩
    refine this.mono ?_
    rintro e w' (⟨rfl, X', ⟨i1, i2, i3, i4, i5⟩, h2, h3⟩ | ⟨rfl, ⟨_, _, _, _, _, h⟩, _⟩)
    · exact ⟨true, rfl, by rw [i4, List.nil_append], hg.gr (fun k hk => by omega) h2⟩
    · exact h.elim)
  go_enter Try.func19, Try.ntmps19
  go_wp2_with (go_at_call 28; apply Calls.mono; (with_reducible exact hp.out _ (by (repeat (first | exact Grew.refl _ | refine Grew.over ?_ _ | refine Grew.alloc ?_ _ | refine Grew.drew ?_ | refine Grew.drewN ?_ _))) (by simp [go_sem]) (by simp [go_sem]) (by simp [go_sem])); rintro e w2 ⟨b, rfl, hc2, hg2⟩)
  go_ret
  exact ⟨rfl, hg2⟩
end Go.Proofs.Ytbamckfjikpjlaa
