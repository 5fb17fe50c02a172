/- Extents in memory, and the contract of levels.at. -/
import Derived.Test.YtgodoeefgmfpfaaTidyW
import Derived.Deep.RegionHeld3
import Derived.Deep.DrawnRows
import Derived.Deep.RegionLaw
set_option linter.unusedSimpArgs false
set_option linter.unusedVariables false
namespace Go.Proofs.Ytgodoeefgmfpfaa
open Go.RowKit
attribute [local go_sem ↓] Go.wp_at_zero Go.wp_at_succ

theorem Try.infoExt : (Try.prog.info? 64).map (fun i => (i.zero, i.size, i.bytes)) = some (some (.agg #[.int .i64 0, .int .i64 0]), 2, 16) := by kernel_rfl

def flat (E : Ext) : List Value := E.flatMap fun p => [.int .i64 p.1, .int .i64 p.2]
theorem flat_length (E : Ext) : (flat E).length = E.length * 2 := by
  induction E with
  | nil => rfl
  | cons p E ih =>
    have : flat (p :: E) = .int .i64 p.1 :: .int .i64 p.2 :: flat E := rfl
    rw [this]
    simp only [List.length_cons, ih]
    omega
theorem flat_append (E F : Ext) : flat (E ++ F) = flat E ++ flat F := by simp [flat]
theorem flat_one (E : Ext) : ∀ u ∈ flat E, u.oneCell' = true := by
  intro u hu
  obtain ⟨p, _, hp⟩ := List.mem_flatMap.1 hu
  simp at hp
  rcases hp with rfl | rfl <;> rfl
theorem flat_get : ∀ (E : Ext) (d : Nat), d < E.length → (flat E)[d * 2]? = some (.int .i64 (ex E d).1) ∧ (flat E)[d * 2 + 1]? = some (.int .i64 (ex E d).2)
  | [], d, h => by simp at h
  | p :: E, 0, _ => ⟨rfl, rfl⟩
  | p :: E, d + 1, h => by
    have ih := flat_get E d (by simpa using h)
    have e : flat (p :: E) = .int .i64 p.1 :: .int .i64 p.2 :: flat E := rfl
    rw [e, ex_cons_succ]
    have e1 : (d + 1) * 2 = (d * 2 + 1) + 1 := by omega
    have e2 : (d + 1) * 2 + 1 = ((d * 2 + 1) + 1) + 1 := by omega
    rw [e1]
    simp only [List.getElem?_cons_succ]
    exact ih
theorem flat_set : ∀ (E : Ext) (d : Nat) (a b : Int), ((flat E).set (d * 2) (.int .i64 a)).set (d * 2 + 1) (.int .i64 b) = flat (E.set d (a, b))
  | [], d, a, b => by simp [flat]
  | p :: E, 0, a, b => rfl
  | p :: E, d + 1, a, b => by
    have e : flat (p :: E) = .int .i64 p.1 :: .int .i64 p.2 :: flat E := rfl
    have e1 : (d + 1) * 2 = (d * 2 + 1) + 1 := by omega
    rw [e, e1, List.set_cons_succ, List.set_cons_succ, List.set_cons_succ, List.set_cons_succ, flat_set E d a b]
    rfl

theorem two_news {w : World} {ad : Addr} (u v : Value) (h : w.cell? (ad.add 0) = some u) (h2 : w.cell? (ad.add 1) = some v) : ∀ b, some ad = some b → ∀ j x, [u, v][j]? = some x → w.cell? (b.add j) = some x := by
  intro b hb j x hj
  cases hb
  match j, hj with
  | 0, hj => simp at hj; subst hj; exact h
  | 1, hj => simp at hj; subst hj; exact h2
  | j + 2, hj => simp at hj
/-- A slice of extents that lies outside gx, from B on. -/
def ExtAt (B : Nat) (w : World) (v : Value) (E : Ext) : Prop := ∃ p cap, v = .slice p E.length cap ∧ E.length ≤ cap ∧ cap ≤ 9223372036854775807 ∧ (p = none → cap = 0) ∧
  (0 < E.length → ∃ b, p = some ⟨b, 0, none⟩ ∧ B ≤ b ∧ b < w.heap.size ∧ ∀ i u, (flat E)[i]? = some u → w.cell? ⟨b, i, none⟩ = some u)
theorem ExtAt.gr {B : Nat} {w w' : World} {v : Value} {E : Ext} {ex : Nat → Prop} (h : ExtAt B w v E) (hg : Gr ex w w') (hx : ∀ k, B ≤ k → k < w.heap.size → ¬ ex k) : ExtAt B w' v E := by
  obtain ⟨p, cap, h1, h2, h3, h4, h5⟩ := h
  refine ⟨p, cap, h1, h2, h3, h4, fun h0 => ?_⟩
  obtain ⟨b, e1, e2, e3, e4⟩ := h5 h0
  exact ⟨b, e1, e2, Nat.lt_of_lt_of_le e3 hg.size, fun i u hu => by rw [hg.cell e3 (hx b e2 e3)]; exact e4 i u hu⟩
theorem Owns.ext {w : World} {B : Nat} {rs : List Row} (h : Owns w B rs) {k : Nat} {v : Value} {E : Ext} {n : Nat} (hk : rs[k]? = Option.some ⟨v, 64, 2, n, flat E⟩) (hn : E.length = n) : ExtAt B w v E := by
  obtain ⟨_, h2⟩ := h.get hk
  subst hn
  rcases h2 with ⟨rfl, h0⟩ | ⟨g, cap, rfl, hb, hg, hle, hm, _, hc⟩
  · exact ⟨Option.none, 0, by rw [h0], by omega, by omega, fun _ => rfl, fun h => by omega⟩
  · exact ⟨Option.some ⟨g, 0, Option.none⟩, cap, rfl, hle, by simp only [Go.maxLen] at hm; omega, (fun h => by cases h), fun _ => ⟨g, rfl, hb, hg, hc⟩⟩

/-- The levels at A: the box of the slice, and its elements. -/
def lvRows (A : Nat) (v : Value) (E : Ext) (rs : List Row) : List Row := ⟨.slice (some ⟨A, 0, none⟩) 1 1, 61, 1, 1, [v]⟩ :: ⟨v, 64, 2, E.length, flat E⟩ :: rs

def AtPost (B A : Nat) (v : Value) (E : Ext) (rs : List Row) (l r : Int) (w : World) (e : Ending) (w' : World) : Prop :=
  ∃ v' pt, e = .returned (.tuple #[.pointer pt, .bool false]) ∧ Owns w' B (lvRows A v' (E ++ [(l, r)]) rs) ∧ Gr (fun k => k = A ∨ v.ownBlock = some k) w w'

set_option maxHeartbeats 2000000 in
theorem at_known (B A : Nat) (v : Value) (E : Ext) (rs : List Row) (d : Nat) (l r : Int) (w : World) (hO : Owns w B (lvRows A v E rs)) (hd : d < E.length) (hE : E.length ≤ 1000) :
    Calls Try.prog 40 #[.pointer (some ⟨A, 0, none⟩), .int .i64 d, .agg #[.int .i64 l, .int .i64 r]] w fun e w' => ∃ g cap, v = .slice (some ⟨g, 0, none⟩) E.length cap ∧ e = .returned (.tuple #[.pointer (some ⟨g, d * 2, none⟩), .bool true]) ∧ Grew w w' := by
  obtain ⟨g0, c0, e0, _, hA, _, _, _, hcA⟩ := hO.some (k := 0) rfl (by omega)
  cases e0
  obtain ⟨g, cap, rfl, _, hg, hle, _, _, _⟩ := hO.some (k := 1) rfl (by omega)
  have d1 := hcA 0 _ rfl
  clear hcA hO
  go_enter Try.func40, Try.ntmps40
  go_wp2
  go_ret2
  exact ⟨g, cap, rfl, by simp, by (repeat (first | exact Grew.refl _ | refine Grew.over ?_ _ | refine Grew.alloc ?_ _ | refine Grew.drew ?_ | refine Grew.drewN ?_ _))⟩

set_option maxRecDepth 8000 in
set_option maxHeartbeats 4000000 in
theorem at_new (B A : Nat) (v : Value) (E : Ext) (rs : List Row) (d : Nat) (l r : Int) (w : World) (hO : Owns w B (lvRows A v E rs)) (hd : d = E.length) (hE : E.length ≤ 1000) (hB : B ≤ w.heap.size) :
    Calls Try.prog 40 #[.pointer (some ⟨A, 0, none⟩), .int .i64 d, .agg #[.int .i64 l, .int .i64 r]] w (AtPost B A v E rs l r w) := by
  subst hd
  obtain ⟨g0, c0, e0, hBA, hA, _, _, hfA, hcA⟩ := hO.some (k := 0) rfl (by omega)
  cases e0
  have HO := Lib.hid hO
  obtain ⟨p, cap, rfl, _, _, _⟩ : ∃ p cap, v = .slice p E.length cap ∧ E.length ≤ cap ∧ cap ≤ 9223372036854775807 ∧ True := by
    obtain ⟨p, cap, h1, h2, h3, _⟩ := hO.ext (k := 1) rfl rfl
    exact ⟨p, cap, h1, h2, h3, trivial⟩
  have d1 := hcA 0 _ rfl
  have f1 := hfA 0
  clear hcA hO hfA
  have hn1 : A ≠ w.heap.size := by omega
  have hn2 : w.heap.size ≠ A := by omega
  go_enter Try.func40, Try.ntmps40
  go_wp2
  have hsepA : ∀ g, (Value.slice p E.length cap).ownBlock = some g → g ≠ A ∧ g < w.heap.size := fun g hg => by
    refine ⟨fun e => HO.out.2 0 1 _ _ rfl rfl (by omega) A rfl (by rw [← e]; exact hg), ((HO.out.1 1 _ rfl).lt g hg).2⟩
  have HsepA := Lib.hid hsepA
  clear hsepA
  go_region_law
    ((refine step_append_owns rfl _ _ 59 (by rfl) 64 2 16 (.agg #[.int .i64 0, .int .i64 0]) Try.underlying59 Try.infoExt rfl (by decide) B _ 1 _ _ _ (HO.out.grew (by (repeat (first | exact Grew.refl _ | refine Grew.over ?_ _ | refine Grew.alloc ?_ _ | refine Grew.drew ?_ | refine Grew.drewN ?_ _)))) rfl (by rfl) _ 1 1 (by rfl) [.int .i64 l, .int .i64 r] rfl (fun h => by cases h) (two_news _ _ (by (simp [go_sem, ↓IntWalk.iteOmega])) (by (simp [go_sem, ↓IntWalk.iteOmega]))) (by simp [Value.oneCell']) (by simp only [maxLen]; omega) (by omega) (by first | rfl | omega | (simp <;> omega)) ?_; intro v1 w1 hO1 hg1 hb1 _; obtain ⟨gv, cv, rfl, _, _, _, _, _, _⟩ := hO1.some (k := 1) rfl (by omega); obtain ⟨gA, cA, eA, _, hA1, _, _, hfA1, hcA1⟩ := hO1.some (k := 0) rfl (by omega); cases eA; have s1 : w1.cell? ⟨A, 0, none⟩ = some (.slice p E.length cap) := hcA1 0 _ rfl; have f2 := hfA1 0; have s2 : w1.cell? ⟨w.heap.size, 0, none⟩ = some (.int .i64 l) := (by rw [grownBy_cell hg1 0 (by first | rfl | omega | (simp <;> omega)) (fun g hg => by have := (HsepA.out g hg).2; omega)] <;> simp [go_sem]); have s3 : w1.cell? ⟨w.heap.size, 1, none⟩ = some (.int .i64 r) := (by rw [grownBy_cell hg1 1 (by first | rfl | omega | (simp <;> omega)) (fun g hg => by have := (HsepA.out g hg).2; omega)] <;> simp [go_sem]); have Hg1 := Lib.hid hg1; have HO1 := Lib.hid hO1; have Hb1 := Lib.hid hb1; clear hcA1 hfA1 hg1 hb1 hO1))
  all_goals
    go_wp2
    go_ret2
    refine ⟨.slice (some ⟨gv, 0, none⟩) (E.length + 1) cv, _, rfl, ?_, ?_⟩
    · have h := HO1.out.set (k := 0) rfl 0 (.slice (some ⟨gv, 0, none⟩) (E.length + 1) cv)
      unfold lvRows
      rw [flat_append, List.length_append]
      exact h
    · refine Gr.setCell ?_ (Or.inl rfl) _
      refine Gr.trans ?_ ((Gr.of_grownBy Hg1.out).mono (fun k _ hk => Or.inr hk.symm))
      exact Gr.of_grew _ (by (repeat (first | exact Grew.refl _ | refine Grew.over ?_ _ | refine Grew.alloc ?_ _ | refine Grew.drew ?_ | refine Grew.drewN ?_ _)))

end Go.Proofs.Ytgodoeefgmfpfaa
