/- Layer 7: the laws TreeChecks and TreeEquals as the statements say them: each returns true for every input, and the input reads as before. No conditions. -/
import Derived.Test.YtbamckfjikpjlaaTreZ
set_option linter.unusedSimpArgs false
set_option linter.unusedVariables false
namespace Go.Proofs.Ytbamckfjikpjlaa
open Go.RowKit Go.ChangeShapes Go.WideShapes

theorem Try.own : ownKnob Try.prog.godebug = none := by kernel_rfl
theorem Try.laidOut : laidOutB Try.prog = true := by kernel_rfl
theorem opens_ref : Opens Try.prog 39 rP2 := by
  intro H enc w fuel cs x h
  obtain ⟨hl, hf⟩ := trod_fields Try.underlying39 h
  rw [show Try.prog.cellsOf 39 = 2 by kernel_rfl] at hl
  obtain ⟨n0, y0, h0⟩ := hf 0 _ rfl
  obtain ⟨n1, y1, h1⟩ := hf 1 _ rfl
  obtain ⟨a, ha, wa⟩ := opens_str Try.underlying9 _ _ _ _ _ _ h0
  obtain ⟨b, hb, wb⟩ := opens_str Try.underlying9 _ _ _ _ _ _ h1
  replace ha : List.take (Try.prog.cellsOf 9) (List.drop 0 cs) = [.string a] := ha
  replace hb : List.take (Try.prog.cellsOf 9) (List.drop 1 cs) = [.string b] := hb
  rw [show Try.prog.cellsOf 9 = 1 by kernel_rfl] at ha hb
  match cs, hl, ha, hb with
  | [u, v], _, ha, hb =>
    simp at ha hb
    exact ⟨(a, b), by rw [ha, hb], wa, wb⟩
theorem opens_attr : Opens Try.prog 64 rP2 := by
  intro H enc w fuel cs x h
  obtain ⟨hl, hf⟩ := trod_fields Try.underlying64 h
  rw [show Try.prog.cellsOf 64 = 2 by kernel_rfl] at hl
  obtain ⟨n0, y0, h0⟩ := hf 0 _ rfl
  obtain ⟨n1, y1, h1⟩ := hf 1 _ rfl
  obtain ⟨a, ha, wa⟩ := opens_str Try.underlying9 _ _ _ _ _ _ h0
  obtain ⟨b, hb, wb⟩ := opens_str Try.underlying9 _ _ _ _ _ _ h1
  replace ha : List.take (Try.prog.cellsOf 9) (List.drop 0 cs) = [.string a] := ha
  replace hb : List.take (Try.prog.cellsOf 9) (List.drop 1 cs) = [.string b] := hb
  rw [show Try.prog.cellsOf 9 = 1 by kernel_rfl] at ha hb
  match cs, hl, ha, hb with
  | [u, v], _, ha, hb =>
    simp at ha hb
    exact ⟨(a, b), by rw [ha, hb], wa, wb⟩
theorem opens_refs : Opens Try.prog 40 (rSl rP2 2) := opens_slice Try.underlying40 (by kernel_rfl) (by omega) opens_ref
theorem opens_attrs : Opens Try.prog 41 (rSl rP2 2) := opens_slice Try.underlying41 (by kernel_rfl) (by omega) opens_attr
/-- A slice whose elements are read with less fuel. -/
theorem slice_at {α : Type} {H : Type} {enc : TypeId × Value → H} {P : Program} {w : World} {t e : TypeId} {R : World → List Value → α → Prop} {sz fuel : Nat} {cs : List Value} {x : DataW H × List MemPlace} (ht : P.underlying t = some (.slice e)) (hsz : P.cellsOf e = sz) (hpos : 0 < sz)
    (he : ∀ n, n < fuel → ∀ (cs : List Value) (x : DataW H × List MemPlace), DataW.trod enc P w 0 (fun _ => true) true n e cs = some x → ∃ y, R w cs y) (h : DataW.trod enc P w 0 (fun _ => true) true fuel t cs = some x) : ∃ xs, rSl R sz w cs xs := by
  rcases DataW.trod_slice ht h with ⟨h0, _⟩ | ⟨a, len, cap, elems, rest, n, hfu, hcs, _, _, hl, hm, hlen, hel, _, _⟩
  · exact ⟨[], none, 0, h0, Nat.le_refl _, Nat.zero_le _, (fun _ => rfl), (fun i x hx => by simp at hx)⟩
  · have each : ∀ i, i < len → ∃ y, ∃ ce : List Value, ce.length = sz ∧ R w ce y ∧ ∀ j, j < sz → w.cell? ((a.add (i * sz)).add j) = ce[j]? := fun i hi => by
      have hi' : i < elems.length := by omega
      have h1 := hel i hi
      rw [List.getElem?_eq_getElem hi', Option.bind_eq_some_iff, hsz] at h1
      obtain ⟨ce, h2, h3⟩ := h1
      obtain ⟨h4, h5⟩ := cells?_get h2
      obtain ⟨y, hy⟩ := he n (by omega) ce _ h3
      exact ⟨y, ce, h4, hy, h5⟩
    obtain ⟨xs, hxl, hxs⟩ := list_choose each
    refine ⟨xs, some a, cap, by rw [hcs, hxl], by omega, hm, (fun hh => by cases hh), fun i x hx => ?_⟩
    obtain ⟨ce, h1, h2, h3⟩ := hxs i x hx
    have hi : i < xs.length := (List.getElem?_eq_some_iff.1 hx).1
    have h0 : a.spot = none := by
      obtain ⟨y0, ce0, g1, _, g3⟩ := each 0 (by omega)
      have g := g3 0 hpos
      rw [List.getElem?_eq_getElem (by omega)] at g
      rcases add_add_spot g with h | h | h
      · exact h
      · omega
      · omega
    obtain ⟨b, o, s⟩ := a
    dsimp only at h0
    subst h0
    have hadd : ∀ m j, Addr.add (Addr.add ⟨b, o, none⟩ m) j = ⟨b, o + m + j, none⟩ := fun m j => by rw [Addr.add_lit, Addr.add_lit]
    refine ⟨b, o, ce, rfl, ?_, h1, h2, fun j hj => by rw [← hadd]; exact h3 j hj⟩
    have g := h3 0 hpos
    rw [List.getElem?_eq_getElem (by omega), hadd] at g
    exact World.block_lt_of_cell? _ _ g
theorem rst_trod {H : Type} {enc : TypeId × Value → H} {w : World} : ∀ (fuel : Nat) (cs : List Value) (x : DataW H × List MemPlace), DataW.trod enc Try.prog w 0 (fun _ => true) true fuel 43 cs = some x → ∃ y, rSt fuel w cs y := by
  intro fuel
  induction fuel using Nat.strongRecOn with
  | ind fuel ih =>
  intro cs x h
  obtain ⟨xs, n, rfl, _, hl, hx, hall⟩ := DataW.trod_struct Try.underlying43 h
  rw [show Try.prog.cellsOf 43 = 5 by kernel_rfl] at hl
  have hf : ∀ (i : Nat) (f : Field), (Try.prog.fieldsOf 43)[i]? = some f → ∃ y, DataW.trod enc Try.prog w 0 (fun _ => true) true n f.type ((cs.drop f.offset).take (Try.prog.cellsOf f.type)) = some y := fun i f hf => by
    have hf' : ((Try.prog.fieldsOf 43))[i]? = some f := hf
    simp only [Program.fieldsOf, Try.underlying43] at hf'
    have hi : i < xs.length := by rw [hx]; exact (Array.getElem?_eq_some_iff.1 hf').1
    exact ⟨xs[i], by rw [hall i f hf', List.getElem?_eq_getElem hi]⟩
  obtain ⟨y0, h0⟩ := hf 0 _ rfl
  obtain ⟨y1, h1⟩ := hf 1 _ rfl
  obtain ⟨y2, h2⟩ := hf 2 _ rfl
  obtain ⟨y3, h3⟩ := hf 3 _ rfl
  obtain ⟨y4, h4⟩ := hf 4 _ rfl
  obtain ⟨k, hk, wk⟩ := opens_int Try.underlying3 _ _ _ _ _ _ h0
  obtain ⟨nm, hnm, wnm⟩ := opens_str Try.underlying9 _ _ _ _ _ _ h1
  obtain ⟨rs, rp, rc, hr, hR⟩ := opens_refs _ _ _ _ _ _ h2
  obtain ⟨ats, ap, ac, ha, hA⟩ := opens_attrs _ _ _ _ _ _ h3
  obtain ⟨bd, bp, bc, hb, hB⟩ := slice_at (R := rSt n) (sz := 5) Try.underlying22 (by kernel_rfl) (by omega) (fun m hm cs x hx => by
    obtain ⟨y, hy⟩ := ih m (by omega) cs x hx
    exact ⟨y, rSt_le (by omega) hy⟩) h4
  replace hk : List.take (Try.prog.cellsOf 3) (List.drop 0 cs) = [.int .i64 k] := hk
  replace hnm : List.take (Try.prog.cellsOf 9) (List.drop 1 cs) = [.string nm] := hnm
  replace hr : List.take (Try.prog.cellsOf 40) (List.drop 2 cs) = [.slice rp rs.length rc] := hr
  replace ha : List.take (Try.prog.cellsOf 41) (List.drop 3 cs) = [.slice ap ats.length ac] := ha
  replace hb : List.take (Try.prog.cellsOf 22) (List.drop 4 cs) = [.slice bp bd.length bc] := hb
  rw [show Try.prog.cellsOf 3 = 1 by kernel_rfl] at hk
  rw [show Try.prog.cellsOf 9 = 1 by kernel_rfl] at hnm
  rw [show Try.prog.cellsOf 40 = 1 by kernel_rfl] at hr
  rw [show Try.prog.cellsOf 41 = 1 by kernel_rfl] at ha
  rw [show Try.prog.cellsOf 22 = 1 by kernel_rfl] at hb
  match cs, hl, hk, hnm, hr, ha, hb with
  | [c0, c1, c2, c3, c4], _, hk, hnm, hr, ha, hb =>
    simp at hk hnm hr ha hb
    exact ⟨.mk k nm rs ats bd, wk, wnm, rp, rc, ap, ac, bp, bc, by rw [hk, hnm, hr, ha, hb], hR, hA, hB⟩
/-- An argument that is a tree. -/
theorem arg_tree {H : Type} {enc : TypeId × Value → H} {w : World} {r : Reach} {base n : Nat} {v : Value} {x : DataW H × List MemPlace} (hok : Value.okWide Try.prog w r base 24 v)
    (h : DataW.trod enc Try.prog w 0 (fun _ => true) true n 24 v.cells.toList = some x) : ∃ name dir p l cap N, v = .agg #[.string name, .bool dir, .slice p l.length cap] ∧ Sts N w p cap l := by
  obtain ⟨cs, rfl⟩ := okWide_agg Try.underlying24 hok
  obtain ⟨hl, hf⟩ := trod_fields Try.underlying24 h
  rw [show Try.prog.cellsOf 24 = 3 by kernel_rfl] at hl
  obtain ⟨n0, y0, h0⟩ := hf 0 _ rfl
  obtain ⟨n1, y1, h1⟩ := hf 1 _ rfl
  obtain ⟨n2, y2, h2⟩ := hf 2 _ rfl
  obtain ⟨name, ha, _⟩ := opens_str Try.underlying9 _ _ _ _ _ _ h0
  obtain ⟨dir, hb⟩ := opens_bool Try.underlying4 _ _ _ _ _ _ h1
  obtain ⟨l, p, cap, hc, hS⟩ := slice_at (R := rSt n2) (sz := 5) Try.underlying22 (by kernel_rfl) (by omega) (fun m hm cs x hx => by
    obtain ⟨y, hy⟩ := rst_trod m cs x hx
    exact ⟨y, rSt_le (by omega) hy⟩) h2
  replace ha : List.take (Try.prog.cellsOf 9) (List.drop 0 cs.toList) = [.string name] := ha
  replace hb : List.take (Try.prog.cellsOf 4) (List.drop 1 cs.toList) = [.bool dir] := hb
  replace hc : List.take (Try.prog.cellsOf 22) (List.drop 2 cs.toList) = [.slice p l.length cap] := hc
  rw [show Try.prog.cellsOf 9 = 1 by kernel_rfl] at ha
  rw [show Try.prog.cellsOf 4 = 1 by kernel_rfl] at hb
  rw [show Try.prog.cellsOf 22 = 1 by kernel_rfl] at hc
  replace hl : cs.toList.length = 3 := hl
  obtain ⟨cl⟩ := cs
  match cl, hl, ha, hb, hc with
  | [u, v, y], _, ha, hb, hc =>
    simp at ha hb hc
    exact ⟨name, dir, p, l, cap, n2, by rw [ha, hb, hc], hS⟩

theorem TreeChecks_row : Rows.TreeChecksSaid :=
  OpenClaim.holds_of_wide 5 Try.f5 rfl rfl rfl rfl rfl rfl rfl ⟨rfl, rfl, rfl, rfl, rfl⟩ rfl rfl rfl rfl rfl (by kernel_rfl) Try.func5 (by kernel_rfl)
    (of_decide_eq_true (by kernel_rfl)) (by unfold Func.isWrapper; first | (rw [if_pos (by decide +kernel)]; kernel_rfl) | (rw [if_neg (by decide +kernel)]; exact ⟨rfl, rfl⟩))
    (fun os started H enc _ => by
      refine law_lifted (C := Try.checked) (s := Rows.treeChecksSpec) Try.own started (by kernel_rfl) Try.func5
        (ChangeSpec.witness6 (enc := enc) (C := Try.checked) false ⟨#[], #[.agg #[.string ⟨#[]⟩, .bool false, .slice none 0 0]], []⟩ 8 (by kernel_rfl) (by kernel_rfl) (by kernel_rfl) (by kernel_rfl))
        Try.laidOut rfl Try.underlying4 (by kernel_rfl) rfl ?_ ?_
      · intro ds hds
        match ds, hds with
        | [_], _ => exact ⟨rfl, rfl, rfl⟩
      · intro W base args ds ps hval hA
        have hA' := hA
        rw [Try.params5] at hA'
        obtain ⟨v0, rfl, ⟨n0, y0, h0⟩⟩ := trodAll_split1 hA'
        obtain ⟨name, dir, p, l, cap, N, rfl, hS⟩ := arg_tree (hval 0 _ _ rfl rfl) h0
        exact checks_l _ _ _ _ _ _ _ _ hS rfl)

theorem TreeEquals_row : Rows.TreeEqualsSaid :=
  OpenClaim.holds_of_wide 6 Try.f6 rfl rfl rfl rfl rfl rfl rfl ⟨rfl, rfl, rfl, rfl, rfl⟩ rfl rfl rfl rfl rfl (by kernel_rfl) Try.func6 (by kernel_rfl)
    (of_decide_eq_true (by kernel_rfl)) (by unfold Func.isWrapper; first | (rw [if_pos (by decide +kernel)]; kernel_rfl) | (rw [if_neg (by decide +kernel)]; exact ⟨rfl, rfl⟩))
    (fun os started H enc _ => by
      refine law_lifted (C := Try.checked) (s := Rows.treeEqualsSpec) Try.own started (by kernel_rfl) Try.func6
        (ChangeSpec.witness6 (enc := enc) (C := Try.checked) false ⟨#[], #[.agg #[.string ⟨#[]⟩, .bool false, .slice none 0 0], .agg #[.string ⟨#[]⟩, .bool false, .slice none 0 0]], []⟩ 8 (by kernel_rfl) (by kernel_rfl) (by kernel_rfl) (by kernel_rfl))
        Try.laidOut rfl Try.underlying4 (by kernel_rfl) rfl ?_ ?_
      · intro ds hds
        match ds, hds with
        | [_, _], _ => exact ⟨rfl, rfl, rfl⟩
      · intro W base args ds ps hval hA
        have hA' := hA
        rw [Try.params6] at hA'
        obtain ⟨v0, v1, rfl, ⟨n0, y0, h0⟩, ⟨n1, y1, h1⟩⟩ := trodAll_split2 hA'
        obtain ⟨name, dir, p, l, cap, N, rfl, hS⟩ := arg_tree (hval 0 _ _ rfl rfl) h0
        obtain ⟨name2, dir2, p2, l2, cap2, N2, rfl, hS2⟩ := arg_tree (hval 1 _ _ rfl rfl) h1
        exact equals_l _ _ _ _ _ _ _ _ _ _ _ _ _ _ _ hS rfl hS2 rfl)

end Go.Proofs.Ytbamckfjikpjlaa
