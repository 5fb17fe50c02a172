/- Layer 50: the laws as the statements say them: each law returns true for every input, and the input reads as before. No conditions. -/
import Derived.Test.YtdenjldadlgniaaLabQ
import Derived.Test.YtdenjldadlgniaaRead
set_option linter.unusedSimpArgs false
set_option linter.unusedVariables false
namespace Go.Proofs.Ytdenjldadlgniaa
open Go.RowKit Go.ChangeShapes Go.WideShapes

theorem Try.own : ownKnob Try.prog.godebug = none := by kernel_rfl
theorem Try.laidOut : laidOutB Try.prog = true := by kernel_rfl
theorem opens_mat : Opens Try.prog 23 (rSl (rSl (rInt .i64) 1) 1) := opens_slice Try.underlying23 (by kernel_rfl) (by omega) opens_ints
theorem arg_mat {H : Type} {enc : TypeId × Value → H} {w : World} {r : Reach} {base n : Nat} {v : Value} {x : DataW H × List MemPlace} (hok : Value.okWide Try.prog w r base 23 v)
    (h : DataW.trod enc Try.prog w 0 (fun _ => true) true n 23 v.cells.toList = some x) : ∃ p cap m, v = .slice p m.length cap ∧ Mat w p m := by
  rw [okWide_slice Try.underlying23 hok] at h
  obtain ⟨m, p, cap, h1, h2⟩ := opens_mat _ _ _ _ _ _ h
  simp at h1
  exact ⟨p, cap, m, h1, slat_mat h2⟩
theorem arg_int5 {H : Type} {enc : TypeId × Value → H} {w : World} {r : Reach} {base n : Nat} {v : Value} {x : DataW H × List MemPlace} (hok : Value.okWide Try.prog w r base 24 v)
    (h : DataW.trod enc Try.prog w 0 (fun _ => true) true n 24 v.cells.toList = some x) : ∃ p cap xs, v = .slice p xs.length cap ∧ Ints w p xs ∧ xs.length ≤ cap ∧ cap ≤ 9223372036854775807 := by
  rw [okWide_slice Try.underlying24 hok] at h
  obtain ⟨xs, p, cap, h1, h2⟩ := opens_ints _ _ _ _ _ _ h
  simp at h1
  have h3 := h2.2.1
  exact ⟨p, cap, xs, h1, slat_ints h2, h2.1, by simp only [maxLen] at h3; omega⟩
def rBx (_ : World) (cs : List Value) (a : Bx) : Prop := cs = [.int .i64 a.x0, .int .i64 a.y0, .int .i64 a.x1, .int .i64 a.y1]
theorem opens_bx : Opens Try.prog 39 rBx := by
  intro H enc w fuel cs x h
  obtain ⟨hl, hf⟩ := trod_fields Try.underlying39 h
  rw [show Try.prog.cellsOf 39 = 4 by kernel_rfl] at hl
  obtain ⟨n0, y0, h0⟩ := hf 0 _ rfl
  obtain ⟨n1, y1, h1⟩ := hf 1 _ rfl
  obtain ⟨n2, y2, h2⟩ := hf 2 _ rfl
  obtain ⟨n3, y3, h3⟩ := hf 3 _ rfl
  obtain ⟨a, ha, wa⟩ := opens_int Try.underlying3 _ _ _ _ _ _ h0
  obtain ⟨b, hb, wb⟩ := opens_int Try.underlying3 _ _ _ _ _ _ h1
  obtain ⟨c, hc, wc⟩ := opens_int Try.underlying3 _ _ _ _ _ _ h2
  obtain ⟨d, hd, wd⟩ := opens_int Try.underlying3 _ _ _ _ _ _ h3
  replace ha : List.take (Try.prog.cellsOf 3) (List.drop 0 cs) = [.int .i64 a] := ha
  replace hb : List.take (Try.prog.cellsOf 3) (List.drop 1 cs) = [.int .i64 b] := hb
  replace hc : List.take (Try.prog.cellsOf 3) (List.drop 2 cs) = [.int .i64 c] := hc
  replace hd : List.take (Try.prog.cellsOf 3) (List.drop 3 cs) = [.int .i64 d] := hd
  rw [show Try.prog.cellsOf 3 = 1 by kernel_rfl] at ha hb hc hd
  match cs, hl, ha, hb, hc, hd with
  | [u, v, y, z], _, ha, hb, hc, hd =>
    simp at ha hb hc hd
    exact ⟨⟨a, b, c, d⟩, by rw [ha, hb, hc, hd]; rfl⟩
theorem opens_bxs : Opens Try.prog 35 (rSl rBx 4) := opens_slice Try.underlying35 (by kernel_rfl) (by omega) opens_bx
theorem opens_bmat : Opens Try.prog 22 (rSl (rSl rBx 4) 1) := opens_slice Try.underlying22 (by kernel_rfl) (by omega) opens_bxs
theorem slat_bxs {w : World} {p : Option Addr} {cap : Nat} {A : List Bx} (h : SlAt rBx 4 w p cap A) : Bxs w p A := by
  obtain ⟨h1, h2, h3, h4⟩ := h
  refine ⟨by simp only [maxLen] at h2; omega, ?_⟩
  cases hp : p with
  | none =>
    refine ⟨0, 0, fun h0 => ?_, fun i hi => ?_⟩
    · have := h3 hp; omega
    · have := h3 hp; omega
  | some a =>
    obtain ⟨b, o, s⟩ := a
    by_cases h0 : 0 < A.length
    · obtain ⟨b', o', ce, e1, e2, _⟩ := h4 0 _ (List.getElem?_eq_getElem h0)
      rw [hp] at e1
      cases e1
      refine ⟨b, o, fun _ => ⟨rfl, e2⟩, fun i hi => ?_⟩
      obtain ⟨b', o', ce, e1, _, e3, e4, e5⟩ := h4 i _ (List.getElem?_eq_getElem hi)
      rw [hp] at e1
      cases e1
      have q0 := e5 0 (by omega)
      have q1 := e5 1 (by omega)
      have q2 := e5 2 (by omega)
      have q3 := e5 3 (by omega)
      rw [Nat.add_zero] at q0
      unfold rBx at e4
      rw [q0, q1, q2, q3, e4, bK_eq A hi]
      exact ⟨rfl, rfl, rfl, rfl⟩
    · exact ⟨0, 0, fun h => absurd h h0, fun i hi => by omega⟩
theorem slat_bmat {w : World} {p : Option Addr} {cap : Nat} {m : List (List Bx)} (h : SlAt (rSl rBx 4) 1 w p cap m) : BMat w p m := by
  obtain ⟨h1, h2, h3, h4⟩ := h
  refine ⟨by simp only [maxLen] at h2; omega, ?_⟩
  cases hp : p with
  | none =>
    refine ⟨0, 0, fun _ => none, fun _ => 0, fun h0 => ?_, fun i hi => ?_⟩
    · have := h3 hp; omega
    · have := h3 hp; omega
  | some a =>
    obtain ⟨b, o, s⟩ := a
    by_cases h0 : 0 < m.length
    · obtain ⟨b', o', ce, e1, e2, _⟩ := h4 0 _ (List.getElem?_eq_getElem h0)
      rw [hp] at e1
      cases e1
      have key : ∀ u, ∃ pc : Option Addr × Nat, u < m.length → w.cell? ⟨b, o + u, none⟩ = some (.slice pc.1 (bRow m u).length pc.2) ∧ Bxs w pc.1 (bRow m u) := by
        intro u
        by_cases hu : u < m.length
        · obtain ⟨b', o', ce, e1, _, e3, e4, e5⟩ := h4 u _ (List.getElem?_eq_getElem hu)
          rw [hp] at e1
          cases e1
          obtain ⟨q, cq, e6, e7⟩ := e4
          have := e5 0 (by omega)
          rw [Nat.mul_one, Nat.add_zero, e6] at this
          refine ⟨(q, cq), fun _ => ?_⟩
          rw [bRow_eq m hu]
          exact ⟨this, slat_bxs e7⟩
        · exact ⟨(none, 0), fun h => absurd h hu⟩
      refine ⟨b, o, fun u => (Classical.choose (key u)).1, fun u => (Classical.choose (key u)).2, fun _ => ⟨rfl, e2⟩, fun u hu => Classical.choose_spec (key u) hu⟩
    · exact ⟨0, 0, fun _ => none, fun _ => 0, fun h => absurd h h0, fun i hi => by omega⟩
theorem arg_bxs {H : Type} {enc : TypeId × Value → H} {w : World} {r : Reach} {base n : Nat} {v : Value} {x : DataW H × List MemPlace} (hok : Value.okWide Try.prog w r base 35 v)
    (h : DataW.trod enc Try.prog w 0 (fun _ => true) true n 35 v.cells.toList = some x) : ∃ p cap m, v = .slice p m.length cap ∧ Bxs w p m ∧ m.length ≤ cap ∧ cap ≤ 9223372036854775807 := by
  rw [okWide_slice Try.underlying35 hok] at h
  obtain ⟨m, p, cap, h1, h2⟩ := opens_bxs _ _ _ _ _ _ h
  simp at h1
  have h3 := h2.2.1
  exact ⟨p, cap, m, h1, slat_bxs h2, h2.1, by simp only [maxLen] at h3; omega⟩
theorem arg_bmat {H : Type} {enc : TypeId × Value → H} {w : World} {r : Reach} {base n : Nat} {v : Value} {x : DataW H × List MemPlace} (hok : Value.okWide Try.prog w r base 22 v)
    (h : DataW.trod enc Try.prog w 0 (fun _ => true) true n 22 v.cells.toList = some x) : ∃ p cap m, v = .slice p m.length cap ∧ BMat w p m := by
  rw [okWide_slice Try.underlying22 hok] at h
  obtain ⟨m, p, cap, h1, h2⟩ := opens_bmat _ _ _ _ _ _ h
  simp at h1
  exact ⟨p, cap, m, h1, slat_bmat h2⟩

theorem LabelsChecks_row : Rows.LabelsChecksSaid :=
  OpenClaim.holds_of_wide 3 Try.f3 rfl rfl rfl rfl rfl rfl rfl ⟨rfl, rfl, rfl, rfl, rfl⟩ rfl rfl rfl rfl rfl (by kernel_rfl) Try.func3 (by kernel_rfl)
    (of_decide_eq_true (by kernel_rfl)) (by unfold Func.isWrapper; first | (rw [if_pos (by decide +kernel)]; kernel_rfl) | (rw [if_neg (by decide +kernel)]; exact ⟨rfl, rfl⟩))
    (fun os started H enc _ => by
      refine law_lifted (C := Try.checked) (s := Rows.labelsChecksSpec) Try.own started (by kernel_rfl) Try.func3
        (ChangeSpec.witness6 (enc := enc) (C := Try.checked) false ⟨#[], #[.slice none 0 0, .slice none 0 0, .slice none 0 0], []⟩ 8 (by kernel_rfl) (by kernel_rfl) (by kernel_rfl) (by kernel_rfl))
        Try.laidOut rfl Try.underlying4 (by kernel_rfl) rfl ?_ ?_
      · intro ds hds
        match ds, hds with
        | [_, _, _], _ => exact ⟨rfl, rfl, rfl⟩
      · intro W base args ds ps hval hA
        have hA' := hA
        rw [Try.params3] at hA'
        obtain ⟨v0, v1, v2, rfl, ⟨n0, y0, h0⟩, ⟨n1, y1, h1⟩, ⟨n2, y2, h2⟩⟩ := trodAll_split3 hA'
        obtain ⟨p, cp, m, rfl, hM⟩ := arg_bmat (hval 0 _ _ rfl rfl) h0
        obtain ⟨q, cq, c, rfl, hC⟩ := arg_mat (hval 1 _ _ rfl rfl) h1
        obtain ⟨r, cr, xs, rfl, hx, h5, h6⟩ := arg_int5 (hval 2 _ _ rfl rfl) h2
        exact checks_l _ _ _ _ _ _ _ _ _ _ _ _ _ hM hC hx rfl rfl rfl h5 h6)

end Go.Proofs.Ytdenjldadlgniaa
