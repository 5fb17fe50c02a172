/- A matrix copied: a matrix of the call's own, whose cells may be written. -/
import Derived.Test.YtnodgagmnekliaaLawB
import Derived.Test.YtnodgagmnekliaaMem
set_option linter.unusedSimpArgs false
set_option linter.unusedVariables false
namespace Go.Proofs.Ytnodgagmnekliaa
open Go.RowKit

theorem Try.infoInts : (Try.prog.info? 25).map (fun i => (i.zero, i.size, i.bytes)) = some (some (.slice none 0 0), 1, 24) := by kernel_rfl

def intVs (xs : List Int) : List Value := xs.map (Value.int .i64)
theorem intVs_length (xs : List Int) : (intVs xs).length = xs.length := by simp [intVs]
theorem intVs_one (xs : List Int) : ∀ u ∈ intVs xs, u.oneCell' = true := by
  intro u hu
  obtain ⟨y, _, rfl⟩ := List.mem_map.1 hu
  rfl
theorem intVs_get (xs : List Int) {i : Nat} (h : i < xs.length) : (intVs xs)[i]? = some (.int .i64 (ge xs i)) := by
  unfold intVs
  rw [List.getElem?_map, List.getElem?_eq_getElem h, ge_eq xs h]
  rfl
theorem Ints.news {w : World} {ad : Addr} {xs : List Int} (h : Ints w (some ad) xs) : ∀ b, some ad = some b → ∀ j u, (intVs xs)[j]? = some u → w.cell? (b.add j) = some u := by
  intro b hb j u hj
  cases hb
  obtain ⟨_, _, b, o', h3, h4⟩ := h
  have hjl : j < xs.length := by
    have := (List.getElem?_eq_some_iff.1 hj).1
    rwa [intVs_length] at this
  rw [intVs_get xs hjl] at hj
  cases hj
  have hp := (h3 (by omega)).1
  cases hp
  rw [Addr.add_lit, h4 j hjl]

theorem one_news {w : World} {ad : Addr} (v : Value) (h : w.cell? (ad.add 0) = some v) : ∀ b, some ad = some b → ∀ j u, [v][j]? = some u → w.cell? (b.add j) = some u := by
  intro b hb j u hj
  cases hb
  cases j with
  | zero => simp at hj; subst hj; exact h
  | succ j => simp at hj

/-- A row of a valid matrix. -/
theorem Mat.row {w : World} {p : Option Addr} {m : List (List Int)} (h : Mat w p m) (hv : vMat m) {k : Nat} (hk : k < m.length) :
    ∃ b o ad c, p = some ⟨b, o, none⟩ ∧ b < w.heap.size ∧ w.cell? ⟨b, o + k, none⟩ = some (.slice (some ad) m.length c) ∧ Ints w (some ad) (rowOf m k) := by
  obtain ⟨_, b, o, rp, rc, h3, h4⟩ := h
  obtain ⟨h5, h6⟩ := h4 k hk
  have hl := (hv.2 k hk).1
  rw [hl] at h5
  obtain ⟨b1, o1, g1, g2⟩ := h6.open
  have hp := (g1 (by omega)).1
  rw [hp] at h5 h6
  exact ⟨b, o, _, _, (h3 (by omega)).1, (h3 (by omega)).2, h5, h6⟩

def matRow (v : Value) (xs : List Int) : Row := ⟨v, 3, 1, xs.length, intVs xs⟩
def matRows (vals : List Value) (m : List (List Int)) : List Row := List.zipWith matRow vals m

/-- A matrix of the call's own: the block of its rows, the rows' blocks. -/
def OMat (w : World) (B go co : Nat) (m : List (List Int)) : Prop :=
  ∃ vals : List Value, vals.length = m.length ∧ Owns w B (⟨.slice (some ⟨go, 0, none⟩) m.length co, 25, 1, m.length, vals⟩ :: matRows vals m) ∧
    ∀ u, u < m.length → ∃ gu cu, vals[u]? = some (.slice (some ⟨gu, 0, none⟩) (rowOf m u).length cu)

def CopyPost (m : List (List Int)) (w : World) (e : Ending) (w' : World) : Prop :=
  Grew w w' ∧ ((m.length = 0 ∧ ∃ q cap, e = .returned (.slice q 0 cap)) ∨ (0 < m.length ∧ ∃ go co, e = .returned (.slice (some ⟨go, 0, none⟩) m.length co) ∧ OMat w' w.heap.size go co m))

theorem take_row (m : List (List Int)) {k : Nat} (h : k < m.length) : m.take (k + 1) = m.take k ++ [rowOf m k] := by
  rw [List.take_succ_eq_append_getElem h, rowOf_eq m h]
theorem matRows_snoc {vals : List Value} {m : List (List Int)} {k : Nat} (hl : vals.length = k) (hk : k < m.length) (v : Value) :
    matRows (vals ++ [v]) (m.take (k + 1)) = matRows vals (m.take k) ++ [matRow v (rowOf m k)] := by
  unfold matRows
  rw [take_row m hk, List.zipWith_append (by rw [hl, List.length_take]; omega)]
  rfl
theorem rowOf_take (m : List (List Int)) {k u : Nat} (h : u < k) : rowOf (m.take k) u = rowOf m u := by
  unfold rowOf
  simp [List.getD_eq_getElem?_getD, List.getElem?_take, h]

set_option maxHeartbeats 4000000 in
theorem copied_l (p : Option Addr) (n cp : Nat) (m : List (List Int)) (w : World) (hM : Mat w p m) (hV : vMat m) (hn : m.length = n) :
    Calls Try.prog 16 #[.slice p n cp] w (CopyPost m w) := by
  subst hn
  have h8 := hV.1
  have HV := Lib.hid hV
  have HM := Lib.hid hM
  clear hV hM
  go_enter Try.func16, Try.ntmps16
  go_wp2
  go_loopw [3, 4] (fun v3 i wr => ∃ k : Nat, k ≤ m.length ∧ i = .int .i64 k ∧ Grew w wr ∧ ∃ vals : List Value, vals.length = k ∧ Owns wr w.heap.size (⟨v3, 25, 1, k, vals⟩ :: matRows vals (m.take k)) ∧
      ∀ u, u < k → ∃ gu cu, vals[u]? = some (.slice (some ⟨gu, 0, none⟩) (rowOf m u).length cu)) (fun _ i _ => m.length - (intOf i).toNat)
  case atStart => exact ⟨0, Nat.zero_le _, rfl, by (repeat (first | exact Grew.refl _ | refine Grew.over ?_ _ | refine Grew.alloc ?_ _ | refine Grew.drew ?_ | refine Grew.drewN ?_ _)), [], rfl, (Owns.nil _ _).none _ _, fun u hu => by omega⟩
  case round =>
    obtain ⟨k, hk, rfl, hg, vals, hvl, hO, hvs⟩ := hrel
    have HO := Lib.hid hO
    have Hvl := Lib.hid hvl
    have Hvs := Lib.hid hvs
    clear hO hvl hvs
    have hsz := hg.below.size
    by_cases hlt : k < m.length
    · obtain ⟨b, o, ad, c, rfl, hb, hc, hI⟩ := (HM.out.grew hg).row HV.out hlt
      have Hrow := Lib.hid (HV.out.2 k hlt).1
      go_wp2_with (first
        | (at_builtin; refine wp_append_owns rfl _ _ 25 rfl 3 1 8 (.int .i64 0) Try.underlying25 Try.infoInt rfl (by decide) w.heap.size _ 0 _ _ _ (Owns.made HO.out (by omega) #[] 3 1 0 _ rfl (by decide) rfl) rfl rfl _ _ _ rfl (intVs (rowOf m k)) (by rw [intVs_length, Hrow.out]; omega) (fun h => by cases h) ((hI.grew (by (repeat (first | exact Grew.refl _ | refine Grew.over ?_ _ | refine Grew.alloc ?_ _ | refine Grew.drew ?_ | refine Grew.drewN ?_ _)))).news) (intVs_one _) (by simp only [maxLen]; omega) (by omega) (by first | rfl | omega | (simp <;> omega)) ?_; intro v1 w1 hO1 hg1 hb1 _; (try simp only [List.set_cons_zero, Nat.zero_add, List.nil_append] at hO1); obtain ⟨g1, c1, rfl, hB1, hs1, _, _, _, _⟩ := hO1.some (k := 0) rfl (by omega); have Hg1 := Lib.hid (Grew.grownBy (w0 := w) (hg.trans (by (repeat (first | exact Grew.refl _ | refine Grew.over ?_ _ | refine Grew.alloc ?_ _ | refine Grew.drew ?_ | refine Grew.drewN ?_ _)))) hg1 hb1); have HO1 := Lib.hid hO1; clear hO1 hg1 hb1)
        | (at_builtin; refine wp_append_owns rfl _ _ 22 rfl 25 1 24 (.slice none 0 0) Try.underlying22 Try.infoInts rfl (by decide) w.heap.size _ 1 _ _ _ (HO1.out.grew (by (repeat (first | exact Grew.refl _ | refine Grew.over ?_ _ | refine Grew.alloc ?_ _ | refine Grew.drew ?_ | refine Grew.drewN ?_ _)))) rfl rfl _ _ _ rfl [.slice (some ⟨g1, 0, none⟩) m.length c1] rfl (fun h => by cases h) (one_news _ (by (simp [go_sem, ↓IntWalk.iteOmega]))) (by simp [Value.oneCell']) (by simp only [maxLen]; omega) (by omega) (by first | rfl | omega | (simp <;> omega)) ?_; intro v2 w2 hO2 hg2 hb2 _; have Hg2 := Lib.hid (Grew.grownBy (w0 := w) (Hg1.out.trans (by (repeat (first | exact Grew.refl _ | refine Grew.over ?_ _ | refine Grew.alloc ?_ _ | refine Grew.drew ?_ | refine Grew.drewN ?_ _)))) hg2 hb2); have HO2 := Lib.hid hO2; clear hO2 hg2 hb2))
      go_roundw
      case rel =>
        refine ⟨k + 1, by omega, by go_num, Hg2.out, vals ++ [.slice (some ⟨g1, 0, none⟩) m.length c1], by rw [List.length_append, Hvl.out]; rfl, ?_, fun u hu => ?_⟩
        · rw [matRows_snoc Hvl.out hlt]
          refine HO2.out.perm ?_
          have e : (⟨.slice (some ⟨g1, 0, none⟩) m.length c1, 3, 1, m.length, intVs (rowOf m k)⟩ : Row) = matRow (.slice (some ⟨g1, 0, none⟩) m.length c1) (rowOf m k) := by
            unfold matRow
            rw [Hrow.out]
          show (_ :: _ :: matRows vals (m.take k)).Perm _
          rw [e]
          exact (List.Perm.swap _ _ _).trans (List.Perm.cons _ (List.perm_append_singleton _ _).symm)
        · by_cases h : u = k
          · subst h
            exact ⟨g1, c1, by rw [List.getElem?_append_right (by rw [Hvl.out]; exact Nat.le_refl _), Hvl.out, Nat.sub_self, Hrow.out]; rfl⟩
          · obtain ⟨gu, cu, h2⟩ := Hvs.out u (by omega)
            exact ⟨gu, cu, by rw [List.getElem?_append_left (by rw [Hvl.out]; omega)]; exact h2⟩
      case measure => simp [intOf]; omega
    · have hkm : k = m.length := by omega
      subst hkm
      go_wp2
      go_ret
      refine ⟨hg, ?_⟩
      rcases Nat.eq_zero_or_pos m.length with h0 | h0
      · refine Or.inl ⟨h0, ?_⟩
        rcases ((HO.out).get (k := 0) rfl).2 with ⟨h1, _⟩ | ⟨g, cap, h1, _⟩
        · exact ⟨none, 0, by rw [h1]; rfl⟩
        · exact ⟨some ⟨g, 0, none⟩, cap, by rw [h1, h0]; rfl⟩
      · obtain ⟨g, cap, h1, _⟩ := HO.out.some (k := 0) rfl h0
        refine Or.inr ⟨h0, g, cap, by rw [h1]; rfl, vals, Hvl.out, ?_, Hvs.out⟩
        have := HO.out
        rw [h1, List.take_length] at this
        exact this

end Go.Proofs.Ytnodgagmnekliaa
