/- TidyForest returns true for every input, and the input reads as before. No conditions. -/
import Derived.Test.YtgodoeefgmfpfaaFoF
import Derived.Test.YtgodoeefgmfpfaaTidyJ
set_option linter.unusedSimpArgs false
set_option linter.unusedVariables false
namespace Go.Proofs.Ytgodoeefgmfpfaa
open Go.RowKit Go.ChangeShapes Go.WideShapes
attribute [local go_sem ↓] Go.wp_at_zero Go.wp_at_succ

def foZ (N : Int) (E : List (Int × Int)) : Int := if dB N E = false then 1 else if E.length + (B E N.toNat N.toNat).roots = N.toNat then (if vForB (B E N.toNat N.toNat).par = false then 1 else 0) else 9
def foX (N : Int) (E : List (Int × Int)) : List Int := if foZ N E = 0 then (B E N.toNat N.toNat).par else []
theorem foRes_eq {N : Int} {E : List (Int × Int)} {e : Ending} {w' : World} (h : FoRes N E e w') : (foZ N E = 0 → vForB (foX N E) = true) ∧ ∃ q c, e = .returned (.tuple #[.slice q (foX N E).length c, .int .i64 (foZ N E)]) ∧ Ints w' q (foX N E) := by
  rcases h with ⟨h1, h2⟩ | ⟨n, rfl, hV, h⟩
  · have hz : foZ N E = 1 := by unfold foZ; rw [if_pos (dB_not h1)]
    have hx : foX N E = [] := by unfold foX; rw [hz, if_neg (by decide)]
    rw [hz, hx]
    exact ⟨fun h => (by cases h), _, _, h2, Ints.nil _ _⟩
  · have hd : ¬ dB (n : Int) E = false := by rw [dB_iff.2 hV]; decide
    rcases h with ⟨h1, h2⟩ | ⟨h1, h2, h3⟩ | ⟨h1, h2, q, c, h3, h4⟩
    · have hz : foZ (n : Int) E = 9 := by unfold foZ; rw [if_neg hd, toNat_n, if_neg h1]
      have hx : foX (n : Int) E = [] := by unfold foX; rw [hz, if_neg (by decide)]
      rw [hz, hx]
      exact ⟨fun h => (by cases h), _, _, h2, Ints.nil _ _⟩
    · have hz : foZ (n : Int) E = 1 := by unfold foZ; rw [if_neg hd, toNat_n, if_pos h1, if_pos (vForB_not h2)]
      have hx : foX (n : Int) E = [] := by unfold foX; rw [hz, if_neg (by decide)]
      rw [hz, hx]
      exact ⟨fun h => (by cases h), _, _, h3, Ints.nil _ _⟩
    · have hf := vForB_iff.2 h2
      have hz : foZ (n : Int) E = 0 := by unfold foZ; rw [if_neg hd, toNat_n, if_pos h1, hf]; rfl
      have hx : foX (n : Int) E = (B E n n).par := by unfold foX; rw [hz, if_pos rfl, toNat_n]
      have hl := (Bn_sd hV (Nat.le_refl n)).1.pl
      rw [hz, hx, hl]
      exact ⟨fun _ => hf, q, c, h3, h4⟩

set_option maxHeartbeats 4000000 in
theorem forest_l (N : Int) (q : Option Addr) (m cq : Nat) (E : List (Int × Int)) (w : World) (hE : Prs w q E) (hm : E.length = m) :
    Calls Try.prog 7 #[.agg #[.int .i64 N, .slice q m cq]] w fun e w' => e = .returned (.bool true) ∧ Grew w w' := by
  obtain ⟨z, hz⟩ : ∃ z, foZ N E = z := ⟨_, rfl⟩
  obtain ⟨X, hX⟩ : ∃ X, foX N E = X := ⟨_, rfl⟩
  have Hp : Hid (∀ W, Grew w W → Calls Try.prog 22 #[.agg #[.int .i64 N, .slice q m cq]] W fun e w' => Grew W w' ∧ (z = 0 → vForB X = true) ∧ ∃ q c, e = .returned (.tuple #[.slice q X.length c, .int .i64 z]) ∧ Ints w' q X) := Lib.hid (fun W hg => by
    apply Calls.mono; exact forest_p N q m cq E W (hE.grew hg) hm
    rintro e w' ⟨h1, h2⟩
    have h := foRes_eq h2
    rw [hz, hX] at h
    exact ⟨h1, h⟩)
  have Hr : Hid (∀ W, Grew w W → Calls Try.prog 23 #[.agg #[.int .i64 N, .slice q m cq]] W fun e w' => Grew W w' ∧ (z = 0 → vForB X = true) ∧ ∃ q c, e = .returned (.tuple #[.slice q X.length c, .int .i64 z]) ∧ Ints w' q X) := Lib.hid (fun W hg => by
    apply Calls.mono; exact forest_r N q m cq E W (hE.grew hg) hm
    rintro e w' ⟨h1, h2⟩
    have h := foRes_eq h2
    rw [hz, hX] at h
    exact ⟨h1, h⟩)
  clear hz hX hE hm
  go_enter Try.func7, Try.ntmps7
  go_upto_region 1 with fail
  obtain ⟨wz, hwz⟩ : ∃ wz, w.alloc (.cells #[.int .i64 N, .slice q m cq] 39) = wz := ⟨_, rfl⟩
  have x0 : wz.cell? ⟨w.heap.size, 0, none⟩ = some (.int .i64 N) := by rw [← hwz]; simp [go_sem]
  have x1 : wz.cell? ⟨w.heap.size, 1, none⟩ = some (.slice q m cq) := by rw [← hwz]; simp [go_sem]
  have Hgz : Hid (Grew w wz) := Lib.hid (by rw [← hwz]; (repeat (first | exact Grew.refl _ | refine Grew.over ?_ _ | refine Grew.alloc ?_ _ | refine Grew.drew ?_ | refine Grew.drewN ?_ _)))
  rw [hwz]
  clear hwz
  go_upto_region 2 with (go_at_call 22; apply Calls.mono; (with_reducible exact Hp.out _ Hgz.out); rintro e w1 ⟨hg1, hf, q1, c1, rfl, hI1⟩; have Hg1 := Lib.hid (Hgz.out.trans hg1); replace x0 := hg1.cellEq x0; replace x1 := hg1.cellEq x1; have HI1 := Lib.hid hI1; have Hf := Lib.hid hf; clear hg1 hI1 hf)
  have hbw := cell_lt x0
  go_upto_region 3 with (go_at_call 23; apply Calls.mono; (with_reducible exact Hr.out _ Hg1.out); rintro e w2 ⟨hg2, hf, q2, c2, rfl, hI2⟩; have Hg2 := Lib.hid (Hg1.out.trans hg2); have HI3 := Lib.hid (HI1.out.grew hg2); have HI2 := Lib.hid hI2; clear hg2 hI2 hf)
  clear x0 x1 hbw
  by_cases hz0 : z = 0
  · have Hv := Lib.hid (Hf.out hz0)
    subst hz0
    go_wp2_with (first
      | (go_at_call 13; apply Calls.mono; (with_reducible exact same_e rfl HI3.out HI2.out rfl rfl); rintro e w' ⟨rfl, x3, rfl⟩)
      | (go_at_call 19; apply Calls.mono; (with_reducible exact validp_e Hv.out (HI3.out.grew (by (repeat (first | exact Grew.refl _ | refine Grew.over ?_ _ | refine Grew.alloc ?_ _ | refine Grew.drew ?_ | refine Grew.drewN ?_ _)))) rfl); rintro e w' ⟨rfl, rfl⟩)
      | (go_at_call 8; apply Calls.mono; (with_reducible exact awake_l _); rintro e w' ⟨rfl, x4, rfl⟩))
    go_ret
    exact ⟨rfl, Hg2.out.trans (by (repeat (first | exact Grew.refl _ | refine Grew.over ?_ _ | refine Grew.alloc ?_ _ | refine Grew.drew ?_ | refine Grew.drewN ?_ _)))⟩
  · have hq : (z != 0) = true := by rw [bne_iff_ne]; exact hz0
    go_wp2_with (first
      | (go_at_call 13; apply Calls.mono; (with_reducible exact same_e rfl HI3.out HI2.out rfl rfl); rintro e w' ⟨rfl, x3, rfl⟩)
      | (go_at_call 8; apply Calls.mono; (with_reducible exact awake_l _); rintro e w' ⟨rfl, x4, rfl⟩))
    go_ret
    exact ⟨rfl, Hg2.out.trans (by (repeat (first | exact Grew.refl _ | refine Grew.over ?_ _ | refine Grew.alloc ?_ _ | refine Grew.drew ?_ | refine Grew.drewN ?_ _)))⟩

/-! ### The row -/
theorem Try.own : ownKnob Try.prog.godebug = none := by kernel_rfl
theorem Try.laidOut : laidOutB Try.prog = true := by kernel_rfl
def rArc (_ : World) (cs : List Value) (p : Int × Int) : Prop := cs = [.int .i64 p.1, .int .i64 p.2]
theorem opens_arc : Opens Try.prog 52 rArc := by
  intro H enc w fuel cs x h
  obtain ⟨hl, hf⟩ := trod_fields Try.underlying52 h
  rw [show Try.prog.cellsOf 52 = 2 by kernel_rfl] at hl
  obtain ⟨n0, y0, h0⟩ := hf 0 _ rfl
  obtain ⟨n1, y1, h1⟩ := hf 1 _ rfl
  obtain ⟨a, ha, _⟩ := opens_int Try.underlying3 _ _ _ _ _ _ h0
  obtain ⟨b, hb, _⟩ := opens_int Try.underlying3 _ _ _ _ _ _ h1
  replace ha : List.take (Try.prog.cellsOf 3) (List.drop 0 cs) = [.int .i64 a] := ha
  replace hb : List.take (Try.prog.cellsOf 3) (List.drop 1 cs) = [.int .i64 b] := hb
  rw [show Try.prog.cellsOf 3 = 1 by kernel_rfl] at ha hb
  match cs, hl, ha, hb with
  | [u, v], _, ha, hb =>
    simp at ha hb
    exact ⟨(a, b), by simp [rArc, ha, hb]⟩
theorem opens_arcs : Opens Try.prog 37 (rSl rArc 2) := opens_slice Try.underlying37 (by kernel_rfl) (by omega) opens_arc
theorem slat_prs {w : World} {p : Option Addr} {cap : Nat} {E : List (Int × Int)} (h : SlAt rArc 2 w p cap E) : Prs w p E := by
  obtain ⟨h1, h2, h3, h4⟩ := h
  refine ⟨by simp only [maxLen] at h2; omega, ?_⟩
  cases hp : p with
  | none =>
    refine ⟨0, 0, fun h0 => ?_, fun i hi => ?_⟩
    · have := h3 hp; omega
    · have := h3 hp; omega
  | some a =>
    obtain ⟨b, o, s⟩ := a
    by_cases h0 : 0 < E.length
    · obtain ⟨b', o', ce, e1, e2, _⟩ := h4 0 _ (List.getElem?_eq_getElem h0)
      rw [hp] at e1
      cases e1
      refine ⟨b, o, fun _ => ⟨rfl, e2⟩, fun i hi => ?_⟩
      obtain ⟨b', o', ce, e1, _, e3, e4, e5⟩ := h4 i _ (List.getElem?_eq_getElem hi)
      rw [hp] at e1
      cases e1
      have q0 := e5 0 (by omega)
      have q1 := e5 1 (by omega)
      rw [Nat.add_zero] at q0
      unfold rArc at e4
      rw [q0, q1, e4, pr_eq E hi]
      exact ⟨rfl, rfl⟩
    · exact ⟨0, 0, fun h => absurd h h0, fun i hi => by omega⟩
/-- An argument that is a digraph. -/
theorem arg_dig {H : Type} {enc : TypeId × Value → H} {w : World} {r : Reach} {base n : Nat} {v : Value} {x : DataW H × List MemPlace} (hok : Value.okWide Try.prog w r base 39 v)
    (h : DataW.trod enc Try.prog w 0 (fun _ => true) true n 39 v.cells.toList = some x) : ∃ N q cq E, v = .agg #[.int .i64 N, .slice q E.length cq] ∧ Prs w q E := by
  obtain ⟨cs, rfl⟩ := okWide_agg Try.underlying39 hok
  obtain ⟨hl, hf⟩ := trod_fields Try.underlying39 h
  rw [show Try.prog.cellsOf 39 = 2 by kernel_rfl] at hl
  obtain ⟨n0, y0, h0⟩ := hf 0 _ rfl
  obtain ⟨n1, y1, h1⟩ := hf 1 _ rfl
  obtain ⟨a, ha, _⟩ := opens_int Try.underlying3 _ _ _ _ _ _ h0
  obtain ⟨E, q, cq, hb, hE⟩ := opens_arcs _ _ _ _ _ _ h1
  replace ha : List.take (Try.prog.cellsOf 3) (List.drop 0 cs.toList) = [.int .i64 a] := ha
  replace hb : List.take (Try.prog.cellsOf 37) (List.drop 1 cs.toList) = [.slice q E.length cq] := hb
  rw [show Try.prog.cellsOf 3 = 1 by kernel_rfl] at ha
  rw [show Try.prog.cellsOf 37 = 1 by kernel_rfl] at hb
  replace hl : cs.toList.length = 2 := hl
  obtain ⟨l⟩ := cs
  match l, hl, ha, hb with
  | [u, v], _, ha, hb =>
    simp at ha hb
    exact ⟨a, q, cq, E, by rw [ha, hb], slat_prs hE⟩

theorem TidyForest_row : Rows.TidyForestSaid :=
  OpenClaim.holds_of_wide 7 Try.f7 rfl rfl rfl rfl rfl rfl rfl ⟨rfl, rfl, rfl, rfl, rfl⟩ rfl rfl rfl rfl rfl (by kernel_rfl) Try.func7 (by kernel_rfl)
    (of_decide_eq_true (by kernel_rfl)) (by unfold Func.isWrapper; first | (rw [if_pos (by decide +kernel)]; kernel_rfl) | (rw [if_neg (by decide +kernel)]; exact ⟨rfl, rfl⟩))
    (fun os started H enc _ => by
      refine law_lifted (C := Try.checked) (s := Rows.tidyForestSpec) Try.own started (by kernel_rfl) Try.func7
        (ChangeSpec.witness6 (enc := enc) (C := Try.checked) false ⟨#[], #[.agg #[.int .i64 0, .slice none 0 0]], []⟩ 8 (by kernel_rfl) (by kernel_rfl) (by kernel_rfl) (by kernel_rfl))
        Try.laidOut rfl Try.underlying4 (by kernel_rfl) rfl ?_ ?_
      · intro ds hds
        match ds, hds with
        | [_], _ => exact ⟨rfl, rfl, rfl⟩
      · intro W base args ds ps hval hA
        have hA' := hA
        rw [Try.params7] at hA'
        obtain ⟨v0, rfl, ⟨n0, y0, h0⟩⟩ := trodAll_split1 hA'
        obtain ⟨N, q, cq, E, rfl, hE⟩ := arg_dig (hval 0 _ _ rfl rfl) h0
        exact forest_l _ _ _ _ _ _ hE rfl)

end Go.Proofs.Ytgodoeefgmfpfaa
