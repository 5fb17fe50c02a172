/- Simplify: what it computes; the reference. -/
import Derived.Test.YtmljfjcebfonaaaPolD
import Derived.Lib.SliceRun
import Derived.Deep.RegionLaw
set_option linter.unusedSimpArgs false
set_option linter.unusedVariables false
namespace Go.Proofs.Ytmljfjcebfonaaa
open Go.RowKit
attribute [local go_sem ↓] Go.wp_at_zero Go.wp_at_succ

/-- The cells of a list of pairs. -/
def prVs (E : List (Int × Int)) : List Value := E.flatMap fun a => [.int .i64 a.1, .int .i64 a.2]
theorem prVs_app (a b : List (Int × Int)) : prVs (a ++ b) = prVs a ++ prVs b := by simp [prVs]
theorem prVs_len (E : List (Int × Int)) : (prVs E).length = E.length * 2 := by
  induction E with
  | nil => rfl
  | cons a E ih => simp only [prVs, List.flatMap_cons, List.length_append] at ih ⊢; simp [ih]; omega
theorem prVs_one (E : List (Int × Int)) : ∀ u ∈ prVs E, u.oneCell' = true := by
  intro u hu
  obtain ⟨a, _, hu⟩ := List.mem_flatMap.1 hu
  simp at hu
  rcases hu with rfl | rfl <;> rfl
theorem prVs_get (E : List (Int × Int)) : ∀ i, i < E.length → (prVs E)[i * 2]? = some (.int .i64 (pr E i).1) ∧ (prVs E)[i * 2 + 1]? = some (.int .i64 (pr E i).2) := by
  induction E with
  | nil => intro i hi; simp at hi
  | cons a E ih =>
    intro i hi
    cases i with
    | zero => exact ⟨rfl, rfl⟩
    | succ i =>
      have := ih i (by simpa using hi)
      have e1 : (i + 1) * 2 = i * 2 + 1 + 1 := by omega
      rw [e1]
      exact this
theorem prVs_take (E : List (Int × Int)) {i : Nat} (hi : i ≤ E.length) : (prVs E).take (i * 2) = prVs (E.take i) := by
  conv => lhs; rw [← List.take_append_drop i E, prVs_app]
  have : i * 2 = (prVs (E.take i)).length := by rw [prVs_len, List.length_take]; omega
  rw [this, List.take_left]
theorem prVs_drop (E : List (Int × Int)) {i : Nat} (hi : i ≤ E.length) : (prVs E).drop (i * 2) = prVs (E.drop i) := by
  conv => lhs; rw [← List.take_append_drop i E, prVs_app]
  have : i * 2 = (prVs (E.take i)).length := by rw [prVs_len, List.length_take]; omega
  rw [this, List.drop_left]
/-- The cells of a list of pairs in memory. -/
theorem Prs.news {w : World} {p : Option Addr} {E : List (Int × Int)} (h : Prs w p E) {w' : World} (hg : Grew w w') : ∀ b, p = some b → ∀ j u, (prVs E)[j]? = some u → w'.cell? (b.add j) = some u := by
  intro b hb j u hu
  have hj := (List.getElem?_eq_some_iff.1 hu).1
  rw [prVs_len] at hj
  obtain ⟨_, b', o, h3, h4⟩ := h.grew hg
  obtain ⟨e, _⟩ := h3 (by omega)
  rw [e] at hb
  cases hb
  obtain ⟨i, hi⟩ : ∃ i, j = i * 2 ∨ j = i * 2 + 1 := ⟨j / 2, by omega⟩
  obtain ⟨g1, g2⟩ := prVs_get E i (by omega)
  obtain ⟨c1, c2⟩ := h4 i (by omega)
  rw [Addr.add_lit]
  rcases hi with rfl | rfl
  · rw [g1] at hu
    cases hu
    exact c1
  · rw [g2] at hu
    cases hu
    exact c2
/-- A row of pairs, read. -/
theorem prs_of_owns {w : World} {B : Nat} {rs : List Row} {k : Nat} {v : Value} {e : TypeId} {n : Nat} {E : List (Int × Int)} (h : Owns w B rs) (hk : rs[k]? = some ⟨v, e, 2, n, prVs E⟩) : ∃ q cap, v = .slice q n cap ∧ E.length = n ∧ Prs w q E := by
  obtain ⟨h1, h2⟩ := h.get hk
  rw [prVs_len] at h1
  have hn : E.length = n := by omega
  rcases h2 with ⟨rfl, rfl⟩ | ⟨g, cap, rfl, hB, hg, hle, hmx, _, hc⟩
  · exact ⟨none, 0, rfl, hn, by omega, 0, 0, fun h => by omega, fun i hi => by omega⟩
  · refine ⟨some ⟨g, 0, none⟩, cap, rfl, hn, by simp only [maxLen] at hmx; omega, g, 0, fun _ => ⟨rfl, hg⟩, fun i hi => ?_⟩
    obtain ⟨g1, g2⟩ := prVs_get E i hi
    rw [Nat.zero_add]
    exact ⟨hc _ _ g1, hc _ _ g2⟩

theorem two_news {w : World} {g : Nat} {x y : Value} (h0 : w.cell? ⟨g, 0, none⟩ = some x) (h1 : w.cell? ⟨g, 1, none⟩ = some y) : ∀ b : Addr, some (⟨g, 0, none⟩ : Addr) = some b → ∀ j u, [x, y][j]? = some u → w.cell? (b.add j) = some u := by
  intro b hb j u hu
  cases hb
  rw [Addr.add_lit, Nat.zero_add]
  match j, hu with
  | 0, hu => simp at hu; subst hu; exact h0
  | 1, hu => simp at hu; subst hu; exact h1

theorem Try.infoPt : (Try.prog.info? 32).map (fun i => (i.zero, i.size, i.bytes)) = some (some (.agg #[.int .i64 0, .int .i64 0]), 2, 16) := by kernel_rfl

/-- A list of points of the call's own. -/
abbrev ptRow (v : Value) (P : List (Int × Int)) : Row := ⟨v, 32, 2, P.length, prVs P⟩

/-- A point appended. -/
theorem wp_append_pt {ops : Array Oper} {rest : List Oper} {o : Oper} {a : Act} {Q : Exit → Act → World → Prop} {w : World} (hgd : o.guard = none) (s x : Operand)
    (ho : o.op = .call { callee := .builtin .append, args := #[s, x], argTypes := #[22, 22] }) (wb : World) (v0 : Value) (P : List (Int × Int))
    (hO : Owns w wb.heap.size [ptRow v0 P]) (hg : Grew wb w) (hs : a.eval s = v0) (g : Nat) (hx : a.eval x = .slice (some ⟨g, 0, none⟩) 1 1) (c d : Int)
    (h0 : w.cell? ⟨g, 0, none⟩ = some (.int .i64 c)) (h1 : w.cell? ⟨g, 1, none⟩ = some (.int .i64 d)) (hl : P.length ≤ 2000)
    (h : ∀ v' w', Owns w' wb.heap.size [ptRow v' (P ++ [(c, d)])] → Grew wb w' → wpList Try.prog ops Q rest (a.put o.dst v') w') :
    wpList Try.prog ops Q (o :: rest) a w := by
  refine wp_append_owns hgd s x 22 ho 32 2 16 (.agg #[.int .i64 0, .int .i64 0]) Try.underlying22 Try.infoPt rfl (by decide) wb.heap.size _ 0 v0 P.length (prVs P) hO rfl hs _ 1 1 hx
    [.int .i64 c, .int .i64 d] rfl (fun h => by cases h) (two_news h0 h1) (by simp [Value.oneCell']) (by simp only [maxLen]; omega) (by omega) hg.below.size ?_
  intro v1 w1 hO1 hg1 hb1 _
  refine h v1 w1 ?_ (hg.grownBy hg1 hb1)
  have e : (⟨v1, 32, 2, P.length + 1, prVs P ++ [.int .i64 c, .int .i64 d]⟩ : Row) = ptRow v1 (P ++ [(c, d)]) := by
    simp [ptRow, prVs_app, prVs]
  have h2 := hO1
  rw [List.set_cons_zero, e] at h2
  exact h2

/-! ### What is computed -/
def cmpK (E : List (Int × Int)) : Nat → List (Int × Int)
  | 0 => []
  | k + 1 => if k = 0 ∨ pr E k ≠ pr E (k - 1) then cmpK E k ++ [pr E k] else cmpK E k
def cmpl (E : List (Int × Int)) : List (Int × Int) := cmpK E E.length
def keep (P : List (Int × Int)) (k : Nat) : Bool := decide (k = 0) || (decide (k + 1 = P.length) || bend3 (pr P (k - 1)) (pr P k) (pr P (k + 1)))
def simK (P : List (Int × Int)) : Nat → List (Int × Int)
  | 0 => []
  | k + 1 => if keep P k then simK P k ++ [pr P k] else simK P k
def simF (E : List (Int × Int)) : List (Int × Int) := if ptsB E then simK (cmpl E) (cmpl E).length else []

theorem cmpK_len (E : List (Int × Int)) : ∀ k, (cmpK E k).length ≤ k ∧ (0 < k → 0 < (cmpK E k).length)
  | 0 => by simp [cmpK]
  | k + 1 => by
    have h := cmpK_len E k
    rw [cmpK]
    split
    · simp; omega
    · rename_i hn
      refine ⟨by omega, fun _ => h.2 (by omega)⟩
theorem cmpK_mem (E : List (Int × Int)) : ∀ k, k ≤ E.length → ∀ p ∈ cmpK E k, p ∈ E
  | 0, _, p, hp => by simp [cmpK] at hp
  | k + 1, hk, p, hp => by
    rw [cmpK] at hp
    split at hp
    · rcases List.mem_append.1 hp with h | h
      · exact cmpK_mem E k (by omega) p h
      · simp at h; subst h; exact pr_mem (by omega)
    · exact cmpK_mem E k (by omega) p hp
theorem simK_len (P : List (Int × Int)) : ∀ k, (simK P k).length ≤ k
  | 0 => by simp [simK]
  | k + 1 => by
    have h := simK_len P k
    rw [simK]
    split
    · simp; omega
    · omega
theorem cmpl_ok {E : List (Int × Int)} (h : ptsB E = true) {i : Nat} (hi : i < (cmpl E).length) : vld (pr (cmpl E) i).1 (pr (cmpl E) i).2 = true := by
  have hm := cmpK_mem E _ (Nat.le_refl _) _ (pr_mem hi)
  obtain ⟨j, hj, e⟩ := List.getElem_of_mem hm
  rw [← pr_eq E hj] at e
  unfold cmpl at *
  rw [← e]
  exact (ptsB_iff.1 h).2.2 j hj
theorem cmpl_len {E : List (Int × Int)} (h : ptsB E = true) : 1 ≤ (cmpl E).length ∧ (cmpl E).length ≤ 512 := by
  obtain ⟨h1, h2, _⟩ := ptsB_iff.1 h
  have := cmpK_len E E.length
  unfold cmpl
  omega
/-- What Simplify leaves. -/
def SimPost (E : List (Int × Int)) (w : World) (e : Ending) (w' : World) : Prop := Grew w w' ∧ ∃ v, e = .returned v ∧ Owns w' w.heap.size [ptRow v (simF E)]
theorem SimPost.nil {E : List (Int × Int)} {w w' : World} (h : simF E = []) (hg : Grew w w') : SimPost E w (.returned (.slice none 0 0)) w' := by
  refine ⟨hg, _, rfl, ?_⟩
  unfold ptRow
  rw [h]
  exact (Owns.nil _ _).none _ _

end Go.Proofs.Ytmljfjcebfonaaa
