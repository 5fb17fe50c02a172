/- The mirror of a system: it is valid, its faces are those of the system in the opposite direction, its genus is the same. -/
import Derived.Test.YtcahceceeeaeoaaDoorGen
set_option linter.unusedSimpArgs false
set_option linter.unusedVariables false
namespace Go.Proofs.YtcahceceeeaeoaaDoor

theorem dts_rev (A : List (List Int)) : ∀ n, (dts (A.map List.reverse) n).Perm (dts A n)
  | 0 => List.Perm.refl _
  | n + 1 => by
    rw [dts_succ, dts_succ, rowOf_map List.reverse rfl]
    exact (dts_rev A n).append (List.reverse_perm _)
section
variable {N : Int} {E : List (Int × Int)} {A : List (List Int)}
theorem mir_valid (hV : vRot N E A) : vRot N E (A.map List.reverse) := by
  refine ⟨hV.n0, hV.n1, hV.e1, by rw [List.length_map]; exact hV.al, hV.ed, fun q hq => ?_, ?_, ?_⟩
  · obtain ⟨k, h1, h2, h3⟩ := mem_pre.1 hq
    rw [List.length_map] at h1
    have hm : q.2 ∈ rowOf A q.1 := by
      have : q.2 ∈ rowOf (A.map List.reverse) q.1 := by rw [← h3]; exact ge_mem h2
      rw [rowOf_map List.reverse rfl] at this
      exact List.mem_reverse.1 this
    obtain ⟨i, hi, e⟩ := List.getElem_of_mem hm
    exact hV.dr q (mem_pre.2 ⟨i, h1, hi, by rw [ge_eq _ hi, e]⟩)
  · show (dts _ _).Nodup
    rw [List.length_map, (dts_rev A _).nodup_iff]
    exact hV.nd
  · have h := (dts_rev A A.length).length_eq
    unfold dts at h
    rw [List.length_map, List.length_map] at h
    rw [List.length_map, h]
    exact hV.ln
theorem Ch.inv {f h : Int → Int} : ∀ {t : List Int} {x z : Int}, Ch f x t z → Ch h z t.reverse x → ∀ y ∈ x :: t, h (f y) = y
  | [], x, z, h1, h2, y, hy => by
    rw [List.mem_singleton.1 hy, show f x = z from h1]
    exact h2
  | v :: t, x, z, ⟨h1, h2⟩, h3, y, hy => by
    rw [List.reverse_cons] at h3
    obtain ⟨h4, h5⟩ := Ch.app.1 h3
    rcases List.mem_cons.1 hy with rfl | hy
    · rw [h1]; exact h5
    · exact Ch.inv h2 h4 y hy
theorem Cyc.inv {f h : Int → Int} {l : List Int} (h1 : Cyc f l) (h2 : Cyc h l.reverse) : ∀ y ∈ l, h (f y) = y := by
  cases l with
  | nil => exact h1.elim
  | cons x t =>
    rw [List.reverse_cons] at h2
    have h3 : Cyc h ([x] ++ t.reverse) := Cyc.rot h2
    exact Ch.inv h1 h3
theorem mir_suc (hV : vRot N E A) {y : Int} (h0 : 0 ≤ y) (h1 : y < 2 * E.length) : sucF (A.map List.reverse) (sucF A y) = y := by
  obtain ⟨v, hv, hd, _⟩ := row_of hV h0 h1
  have hc := row_cyc hV hv (List.ne_nil_of_mem hd)
  have hrow : rowOf (A.map List.reverse) v = (rowOf A v).reverse := rowOf_map List.reverse rfl A v
  have hc' := row_cyc (mir_valid hV) (v := v) (by rw [List.length_map]; exact hv) (by rw [hrow]; intro e; rw [List.reverse_eq_nil_iff] at e; rw [e] at hd; cases hd)
  rw [hrow] at hc'
  exact hc.inv hc' y hd
/-- The faces of the mirror, out of those of the system. -/
theorem mir_dec (hV : vRot N E A) : Dec (fun x => 0 ≤ x ∧ x < 2 * (E.length : Int)) (nxF (A.map List.reverse)) ((facesF A (2 * E.length)).map fun l => (l.map oth).reverse) := by
  refine (fac_dec hV).rev (fun y hy => ?_) (fun x y _ _ h => by rw [← oth_oth x, h, oth_oth]) (fun x => ?_)
  · have ho := oth_in (d := y) (M := E.length) hy.1 hy.2
    show sucF _ (oth (oth (sucF A (oth y)))) = oth y
    rw [oth_oth]
    exact mir_suc hV ho.1 ho.2
  · constructor
    · intro hx
      have ho := oth_in (d := x) (M := E.length) hx.1 hx.2
      exact ⟨oth x, ho, oth_oth x⟩
    · rintro ⟨y, hy, rfl⟩
      exact oth_in hy.1 hy.2
theorem mir_faces (hV : vRot N E A) : (facesF (A.map List.reverse) (2 * E.length)).length = (facesF A (2 * E.length)).length := by
  rw [(fac_dec (mir_valid hV)).len (mir_dec hV), List.length_map]
theorem mir_iso (A : List (List Int)) : isoN (A.map List.reverse) = isoN A := by
  unfold isoN
  rw [List.length_map]
  exact cntP_congr fun u _ => by rw [rowOf_map List.reverse rfl, List.length_reverse]
theorem mir_genus (hV : vRot N E A) : genusF N E (A.map List.reverse) = genusF N E A := by
  rw [genus_eq hV, genus_eq (mir_valid hV), List.length_map]
  unfold genX
  rw [mir_faces hV, mir_iso]
end
end Go.Proofs.YtcahceceeeaeoaaDoor
