/- The reference's Tails. -/
import Derived.Test.YtdacnkjmimhcaaaDoorRotB
import Derived.Deep.RegionHeldLaw
set_option linter.unusedSimpArgs false
set_option linter.unusedVariables false
namespace Go.Proofs.YtdacnkjmimhcaaaDoor
open Go.RowKit
attribute [local go_sem ↓] Go.wp_at_zero Go.wp_at_succ

theorem two_news {w : World} {g : Nat} {x y : Value} (h0 : w.cell? ⟨g, 0, none⟩ = some x) (h1 : w.cell? ⟨g, 1, none⟩ = some y) : ∀ b : Addr, some (⟨g, 0, none⟩ : Addr) = some b → ∀ j u, [x, y][j]? = some u → w.cell? (b.add j) = some u := by
  intro b hb j u hu
  cases hb
  rw [Addr.add_lit, Nat.zero_add]
  match j, hu with
  | 0, hu => simp at hu; subst hu; exact h0
  | 1, hu => simp at hu; subst hu; exact h1
theorem intVs_app' (a b : List Int) : intVs (a ++ b) = intVs a ++ intVs b := by simp [intVs]
/-- A row's value and its cells. -/
theorem Owns.form {w : World} {B : Nat} {rs : List Row} (h : Owns w B rs) {k : Nat} {v : Value} {e : TypeId} {n : Nat} {vs : List Value} (hk : rs[k]? = Option.some ⟨v, e, 1, n, vs⟩) :
    ∃ p cap, v = .slice p n cap ∧ vs.length = n ∧ n ≤ cap ∧ cap ≤ maxLen ∧ (p = Option.none → n = 0 ∧ cap = 0) ∧ ∀ w' : World, Grew w w' → ∀ b, p = Option.some b → ∀ j u, vs[j]? = Option.some u → w'.cell? (b.add j) = Option.some u := by
  obtain ⟨h1, h2⟩ := h.get hk
  rw [Nat.mul_one] at h1
  rcases h2 with ⟨rfl, rfl⟩ | ⟨g, cap, rfl, _, _, h3, h4, _, h5⟩
  · exact ⟨Option.none, 0, rfl, h1, Nat.le_refl _, Nat.zero_le _, fun _ => ⟨rfl, rfl⟩, fun _ _ b hb => by cases hb⟩
  · refine ⟨Option.some ⟨g, 0, Option.none⟩, cap, rfl, h1, h3, h4, (fun h => by cases h), fun w' hg b hb j u hu => ?_⟩
    cases hb
    rw [Addr.add_lit, Nat.zero_add]
    exact hg.cellEq (h5 j u hu)
def tailsL (E : List (Int × Int)) : List Int := E.flatMap fun a => [a.1, a.2]
theorem tailsL_length (E : List (Int × Int)) : (tailsL E).length = 2 * E.length := by
  induction E with
  | nil => rfl
  | cons a E ih => simp only [tailsL, List.flatMap_cons, List.length_append] at ih ⊢; simp [ih]; omega
theorem tailsL_take (E : List (Int × Int)) {j : Nat} (hj : j < E.length) : tailsL (E.take (j + 1)) = tailsL (E.take j) ++ [(pr E j).1, (pr E j).2] := by
  rw [List.take_succ_eq_append_getElem hj, pr_eq E hj]
  simp only [tailsL, List.flatMap_append, List.flatMap_cons, List.flatMap_nil, List.append_nil]
theorem tailsL_get (E : List (Int × Int)) (d : Nat) : d < 2 * E.length → ge (tailsL E) d = tailE E d := by
  intro hd
  have key : ∀ (E : List (Int × Int)) (i : Nat), i < E.length → (tailsL E)[2 * i]? = some (pr E i).1 ∧ (tailsL E)[2 * i + 1]? = some (pr E i).2 := by
    intro E
    induction E with
    | nil => intro i hi; simp at hi
    | cons a E ih =>
      intro i hi
      cases i with
      | zero => exact ⟨rfl, rfl⟩
      | succ i =>
        have := ih i (by simpa using hi)
        have e1 : 2 * (i + 1) = 2 * i + 1 + 1 := by omega
        rw [e1]
        exact this
  obtain ⟨k1, k2⟩ := key E (d / 2) (by omega)
  unfold tailE ge
  rw [List.getD_eq_getElem?_getD]
  have hq : ((d : Int) / 2).toNat = d / 2 := by omega
  rw [hq]
  by_cases h : (d : Int) % 2 = 0
  · rw [if_pos h]
    have e : d = 2 * (d / 2) := by omega
    rw [e, k1, ← e]
    rfl
  · rw [if_neg h]
    have e : d = 2 * (d / 2) + 1 := by omega
    rw [e, k2, ← e]
    rfl

set_option maxRecDepth 8000 in
set_option maxHeartbeats 4000000 in
theorem tails_r (N : Int) (pE pA : Option Addr) (nE nA cE cA : Nat) (E : List (Int × Int)) (w : World) (hE : Prs w pE E) (he1 : E.length ≤ 100) (hnE : E.length = nE) (hw : ∀ a ∈ E, (0 ≤ a.1 ∧ a.1 ≤ 1000000) ∧ 0 ≤ a.2 ∧ a.2 ≤ 1000000) :
    Calls Tryd.prog 54 #[.agg #[.int .i64 N, .slice pE nE cE, .slice pA nA cA]] w fun e w' => Grew w w' ∧ ∃ q cap, e = .returned (.slice q (2 * E.length) cap) ∧ Ints w' q (tailsL E) := by
  subst hnE
  have HE := Lib.hid hE
  have Hw := Lib.hid hw
  clear hE hw
  go_enter Tryd.func54, Tryd.ntmps54
  go_wp2
  go_loopw [3, 4] (fun o i wr => ∃ j : Nat, j ≤ E.length ∧ i = .int .i64 j ∧ Grew (w.alloc (.cells #[.int .i64 N, .slice pE E.length cE, .slice pA nA cA] 25)) wr ∧ Owns wr (w.heap.size + 1) [⟨o, 3, 1, 2 * j, intVs (tailsL (E.take j))⟩]) (fun _ i _ => E.length - (intOf i).toNat)
  case atStart =>
    have h := (Owns.nil (w.alloc (.cells #[.int .i64 N, .slice pE E.length cE, .slice pA nA cA] 25)) (w.heap.size + 1)).made (by simp) #[] 3 1 0 (w.heap.size + 1) rfl (by decide) (by simp)
    exact ⟨0, Nat.zero_le _, rfl, by (repeat (first | exact Grew.refl _ | refine Grew.over ?_ _ | refine Grew.alloc ?_ _ | refine Grew.drew ?_ | refine Grew.drewN ?_ _)), h⟩
  case round =>
    obtain ⟨j, hj, rfl, hg, hO⟩ := hrel
    have Hg := Lib.hid hg
    have HO := Lib.hid hO
    have hszr := hg.below.size
    simp at hszr
    have Hgw : Hid (Grew w wr) := Lib.hid (((Grew.refl w).alloc _).trans hg)
    have b1 : wr.cell? ⟨w.heap.size, 1, none⟩ = some (.slice pE E.length cE) := hg.cellEq (by first | (go_simp; done) | (simp [go_sem, ↓IntWalk.iteOmega, *]; done))
    obtain ⟨pO, cO, rfl, _, hc1, hc2, _, _⟩ := hO.form (k := 0) rfl
    clear hg hO
    by_cases hlt : j < E.length
    · obtain ⟨bE, oE, rfl, lE, cE'⟩ := HE.out.cells (by omega)
      obtain ⟨c1, c2⟩ := cE' wr Hgw.out j hlt
      have Hn := Lib.hid (tailsL_take E hlt)
      have CEq := Lib.hid cE'
      clear cE'
      go_upto_region 5 with fail
      refine wp_region_T (s := 15) (S := fun w' => w'.cell? ⟨w.heap.size, 1, none⟩ = some (.slice (some ⟨bE, oE, none⟩) E.length cE) ∧ w'.cell? ⟨bE, oE + j * 2, none⟩ = some (.int .i64 (pr E j).1) ∧ w'.cell? ⟨bE, oE + j * 2 + 1, none⟩ = some (.int .i64 (pr E j).2)) (by kernel_rfl) ⟨b1, c1, c2⟩ (fun hH => ?_)
      refine wpAnyT_takeL (i := 0) (v := ?_) rfl (by kernel_rfl) (by kernel_rfl) (by kernel_rfl) (by kernel_rfl) (fun _ _ _ h => h) (Or.inl ⟨by rfl, ?_⟩) (by assumption) ?_
      rotate_left
      · (intro w hSw; (try dsimp only at hSw); go_simp; (try with_reducible rfl))
      (try simp only [Act.put, List.setIfInBounds_toArray, List.set_cons_zero, List.set_cons_succ])
      refine wpAnyT_takeL (i := 1) (v := ?_) rfl (by kernel_rfl) (by kernel_rfl) (by kernel_rfl) (by kernel_rfl) (fun _ _ _ h => h) (Or.inl ⟨by rfl, ?_⟩) (by assumption) ?_
      rotate_left
      · (intro w hSw; (try dsimp only at hSw); go_simp; (try with_reducible rfl))
      (try simp only [Act.put, List.setIfInBounds_toArray, List.set_cons_zero, List.set_cons_succ])
      refine wpAnyT_takeL (i := 2) (v := ?_) rfl (by kernel_rfl) (by kernel_rfl) (by kernel_rfl) (by kernel_rfl) (fun _ _ _ h => h) (Or.inl ⟨by rfl, ?_⟩) (by assumption) ?_
      rotate_left
      · (intro w hSw; (try dsimp only at hSw); go_simp; (try with_reducible rfl))
      (try simp only [Act.put, List.setIfInBounds_toArray, List.set_cons_zero, List.set_cons_succ])
      refine wpAnyT_takeL (i := 3) (v := ?_) rfl (by kernel_rfl) (by kernel_rfl) (by kernel_rfl) (by kernel_rfl) (fun _ _ _ h => h) (Or.inl ⟨by rfl, ?_⟩) (by assumption) ?_
      rotate_left
      · (intro w hSw; (try dsimp only at hSw); go_simp; (try with_reducible rfl))
      (try simp only [Act.put, List.setIfInBounds_toArray, List.set_cons_zero, List.set_cons_succ])
      refine wpAnyT_takeL (i := 4) (v := ?_) rfl (by kernel_rfl) (by kernel_rfl) (by kernel_rfl) (by kernel_rfl) (fun _ _ _ h => h) (Or.inl ⟨by rfl, ?_⟩) (by assumption) ?_
      rotate_left
      · (intro w hSw; (try dsimp only at hSw); go_simp; (try with_reducible rfl))
      (try simp only [Act.put, List.setIfInBounds_toArray, List.set_cons_zero, List.set_cons_succ])
      refine wpAnyT_takeL (i := 5) (v := ?_) rfl (by kernel_rfl) (by kernel_rfl) (by kernel_rfl) (by kernel_rfl) (fun _ _ _ h => h) (Or.inl ⟨by rfl, ?_⟩) (by assumption) ?_
      rotate_left
      · (intro w hSw; (try dsimp only at hSw); go_simp; (try with_reducible rfl))
      (try simp only [Act.put, List.setIfInBounds_toArray, List.set_cons_zero, List.set_cons_succ])
      refine wpAnyT_takeL (i := 6) (v := ?_) rfl (by kernel_rfl) (by kernel_rfl) (by kernel_rfl) (by kernel_rfl) (fun _ _ _ h => h) (Or.inl ⟨by rfl, ?_⟩) (by assumption) ?_
      rotate_left
      · (intro w hSw; (try dsimp only at hSw); go_simp; (try with_reducible rfl))
      (try simp only [Act.put, List.setIfInBounds_toArray, List.set_cons_zero, List.set_cons_succ])
      refine wpAnyT_takeL (i := 7) (v := ?_) rfl (by kernel_rfl) (by kernel_rfl) (by kernel_rfl) (by kernel_rfl) (fun _ _ _ h => h) (Or.inl ⟨by rfl, ?_⟩) (by assumption) ?_
      rotate_left
      · (intro w hSw; (try dsimp only at hSw); go_simp; (try with_reducible rfl))
      (try simp only [Act.put, List.setIfInBounds_toArray, List.set_cons_zero, List.set_cons_succ])
      refine wpAnyT_takeL (i := 8) (v := ?_) rfl (by kernel_rfl) (by kernel_rfl) (by kernel_rfl) (by kernel_rfl) (fun _ _ _ h => h) (Or.inl ⟨by rfl, ?_⟩) (by assumption) ?_
      rotate_left
      · (intro w hSw; (try dsimp only at hSw); go_simp; (try with_reducible rfl))
      (try simp only [Act.put, List.setIfInBounds_toArray, List.set_cons_zero, List.set_cons_succ])
      refine wpAnyT_takeL (i := 9) (v := ?_) rfl (by kernel_rfl) (by kernel_rfl) (by kernel_rfl) (by kernel_rfl) (fun _ _ _ h => h) (Or.inl ⟨by rfl, ?_⟩) (by assumption) ?_
      rotate_left
      · (intro w hSw; (try dsimp only at hSw); go_simp; (try with_reducible rfl))
      (try simp only [Act.put, List.setIfInBounds_toArray, List.set_cons_zero, List.set_cons_succ])
      refine wpAnyT_takeL (i := 10) (v := ?_) rfl (by kernel_rfl) (by kernel_rfl) (by kernel_rfl) (by kernel_rfl) (fun _ _ _ h => h) (Or.inl ⟨by rfl, ?_⟩) (by assumption) ?_
      rotate_left
      · (intro w hSw; (try dsimp only at hSw); go_simp; (try with_reducible rfl))
      (try simp only [Act.put, List.setIfInBounds_toArray, List.set_cons_zero, List.set_cons_succ])
      refine wpAnyT_takeL (i := 11) (v := ?_) rfl (by kernel_rfl) (by kernel_rfl) (by kernel_rfl) (by kernel_rfl) (fun _ _ _ h => h) (Or.inl ⟨by rfl, ?_⟩) (by assumption) ?_
      rotate_left
      · (intro w hSw; (try dsimp only at hSw); go_simp; (try with_reducible rfl))
      (try simp only [Act.put, List.setIfInBounds_toArray, List.set_cons_zero, List.set_cons_succ])
      refine wpAnyT_takeL (i := 12) (v := ?_) rfl (by kernel_rfl) (by kernel_rfl) (by kernel_rfl) (by kernel_rfl) (fun _ _ _ h => h) (Or.inl ⟨by rfl, ?_⟩) (by assumption) ?_
      rotate_left
      · (intro w hSw; (try dsimp only at hSw); go_simp; (try with_reducible rfl))
      (try simp only [Act.put, List.setIfInBounds_toArray, List.set_cons_zero, List.set_cons_succ])
      refine wpAnyT_all (rs := [13]) (by kernel_rfl) (by simp) (AllT.consL (i := 13) rfl (fun K hK => ?_) AllT.nil)
      go_simp
      refine hK.out _ _ ?_ (fun hH => ?_)
      · (first | (simp [go_sem, ↓IntWalk.iteOmega, *]; done) | go_keep)
      clear hK K
      (try simp only [Act.put, List.setIfInBounds_toArray, List.set_cons_zero, List.set_cons_succ])
      refine wpAnyT_all (rs := [14]) (by kernel_rfl) (by simp) (AllT.consL (i := 14) rfl (fun K hK => ?_) AllT.nil)
      refine step_append_owns rfl _ _ 26 (by rfl) 3 1 8 (.int .i64 0) Tryd.underlying26 Tryd.infoInt rfl (by decide) (w.heap.size + 1) _ 0 _ _ _ (HO.out.grew (by (repeat (first | exact Grew.refl _ | refine Grew.over ?_ _ | refine Grew.alloc ?_ _ | refine Grew.drew ?_ | refine Grew.drewN ?_ _)))) rfl (by rfl) _ 2 2 (by rfl) [.int .i64 (pr E j).1, .int .i64 (pr E j).2] rfl (fun h => by cases h) (two_news (by (simp [go_sem, ↓IntWalk.iteOmega])) (by (simp [go_sem, ↓IntWalk.iteOmega]))) (by simp [Value.oneCell']) (by simp only [maxLen]; omega) (by omega) (by first | rfl | omega | (simp <;> omega)) ?_
      intro v1 w1 hO1 hg1 hb1 _
      obtain ⟨pV1, cV1, rfl, _, _, _, _, _⟩ := hO1.form (k := 0) rfl
      have hG1 : Grew (w.alloc (.cells #[.int .i64 N, .slice (some ⟨bE, oE, none⟩) E.length cE, .slice pA nA cA] 25)) w1 := Grew.grownBy (Hg.out.trans (by (repeat (first | exact Grew.refl _ | refine Grew.over ?_ _ | refine Grew.alloc ?_ _ | refine Grew.drew ?_ | refine Grew.drewN ?_ _)))) hg1 (fun g h => by have := hb1 g h; simp; omega)
      have q1 : w1.cell? ⟨w.heap.size, 1, none⟩ = some (.slice (some ⟨bE, oE, none⟩) E.length cE) := hG1.cellEq (by first | (go_simp; done) | (simp [go_sem, ↓IntWalk.iteOmega, *]; done))
      have Hw1 : Grew w w1 := ((Grew.refl w).alloc _).trans hG1
      obtain ⟨q2, q3⟩ := CEq.out w1 Hw1 j hlt
      have HO1 := Lib.hid hO1
      have HG1 := Lib.hid hG1
      refine hK.out _ _ ⟨q1, q2, q3⟩ (fun hH => ?_)
      clear hK K hO1 hg1 hG1 Hw1
      (try simp only [Act.put, List.setIfInBounds_toArray, List.set_cons_zero, List.set_cons_succ])
      refine wpAnyT_all (rs := [15]) (by kernel_rfl) (by simp) (AllT.lastL rfl (fun K hK => ?_))
      go_simp
      refine hK.out _ _ ?_
      clear hK K
      (try simp only [Act.put, List.setIfInBounds_toArray, List.set_cons_zero, List.set_cons_succ])
      refine wpAnyT_done (by kernel_rfl) ?_ _
      go_wp2
      go_roundw
      case rel =>
        refine ⟨j + 1, by omega, by go_num, HG1.out, ?_⟩
        rw [Hn.out, intVs_app', show 2 * (j + 1) = 2 * j + 2 by omega]
        exact HO1.out
      case measure => simp [intOf]; omega
    · have hje : j = E.length := by omega
      subst hje
      go_wp2
      go_ret
      rw [List.take_length] at HO
      refine ⟨Hgw.out, pO, cO, rfl, ?_⟩
      obtain ⟨p', cap', e, h2, _⟩ := HO.out.ints (k := 0) rfl (tailsL_length E) (fun x hx => by
        obtain ⟨a, ha, hxa⟩ := List.mem_flatMap.1 hx
        have := Hw.out a ha
        simp at hxa
        rcases hxa with rfl | rfl <;> omega)
      cases e
      exact h2

end Go.Proofs.YtdacnkjmimhcaaaDoor
