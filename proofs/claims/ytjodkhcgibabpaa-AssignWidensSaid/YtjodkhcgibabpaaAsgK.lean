/- A matrix copied, a number added to the costs of a row: a matrix of the call's own. -/
import Derived.Test.YtjodkhcgibabpaaAsgJ
set_option linter.unusedSimpArgs false
set_option linter.unusedVariables false
namespace Go.Proofs.Ytjodkhcgibabpaa
open Go.RowKit

def shX (b x : Int) : Int := if 0 ≤ x then x + b else x
/-- A matrix in which b is added to the costs of row r. -/
def cpM (m : List (List Int)) (r b : Int) : List (List Int) := (List.range m.length).map fun u : Nat => if (u : Int) = r then (rowOf m u).map (shX b) else rowOf m u
theorem cpM_length (m : List (List Int)) (r b : Int) : (cpM m r b).length = m.length := by simp [cpM]
theorem rowOf_cpM (m : List (List Int)) (r b : Int) {u : Nat} (hu : u < m.length) : rowOf (cpM m r b) u = if (u : Int) = r then (rowOf m u).map (shX b) else rowOf m u := by
  rw [rowOf_eq _ (by rw [cpM_length]; exact hu)]
  unfold cpM
  rw [List.getElem_map, List.getElem_range]
theorem rowlen_cpM (m : List (List Int)) (r b : Int) {u : Nat} (hu : u < m.length) : (rowOf (cpM m r b) u).length = (rowOf m u).length := by
  rw [rowOf_cpM m r b hu]
  split
  · exact List.length_map _
  · rfl
theorem ge_cpM (m : List (List Int)) (r b : Int) {u v : Nat} (hu : u < m.length) (hv : v < (rowOf m u).length) : ge (rowOf (cpM m r b) u) v = if (u : Int) = r then shX b (ge (rowOf m u) v) else ge (rowOf m u) v := by
  rw [rowOf_cpM m r b hu]
  split
  · rw [ge_eq _ (by rw [List.length_map]; exact hv), List.getElem_map, ge_eq _ hv]
  · rfl

/-- A matrix of the call's own. -/
def CpP (w : World) (B : Nat) (v : Value) (m : List (List Int)) : Prop :=
  ∃ vals : List Value, vals.length = m.length ∧ Owns w B (⟨v, 23, 1, m.length, vals⟩ :: matRows vals m) ∧ ∀ u, u < m.length → ∃ v', vals[u]? = some v' ∧ isRow v' (rowOf m u)
theorem CpP.grew {w w' : World} {B : Nat} {v : Value} {m : List (List Int)} (h : CpP w B v m) (hg : Grew w w') : CpP w' B v m := by
  obtain ⟨vals, h1, h2, h3⟩ := h
  exact ⟨vals, h1, h2.grew hg, h3⟩
theorem CpP.nil (w : World) (B : Nat) : CpP w B (.slice none 0 0) [] := ⟨[], rfl, (Owns.nil w B).none _ _, fun u hu => by simp at hu⟩
theorem CpP.shape {w : World} {B : Nat} {v : Value} {m : List (List Int)} (h : CpP w B v m) : (v = .slice none 0 0 ∧ m.length = 0) ∨ ∃ go co, v = .slice (some ⟨go, 0, none⟩) m.length co ∧ B ≤ go ∧ go < w.heap.size ∧ m.length ≤ co := by
  obtain ⟨vals, h1, h2, h3⟩ := h
  rcases (h2.get (k := 0) rfl).2 with ⟨g1, g2⟩ | ⟨g, cap, g1, g2, g3, g4, _⟩
  · exact Or.inl ⟨g1, g2⟩
  · exact Or.inr ⟨g, cap, g1, g2, g3, g4⟩
theorem CpP.mat {w : World} {B : Nat} {v : Value} {m : List (List Int)} (h : CpP w B v m) (hm : m.length ≤ 1000) (hl : ∀ u, u < m.length → (rowOf m u).length ≤ 1000)
    (hw : ∀ u, u < m.length → ∀ x ∈ rowOf m u, -9223372036854775808 ≤ x ∧ x ≤ 9223372036854775807) : ∃ q co, v = .slice q m.length co ∧ Mat w q m := by
  rcases h.shape with ⟨g1, g2⟩ | ⟨go, co, rfl, g2, g3, _⟩
  · have e : m = [] := List.eq_nil_of_length_eq_zero g2
    subst e
    exact ⟨none, 0, g1, by simp, 0, 0, fun _ => none, fun _ => 0, fun h => absurd h (by simp), fun u hu => by simp at hu⟩
  · refine ⟨_, _, rfl, ?_⟩
    obtain ⟨vals, h1, h2, h3⟩ := h
    have key : ∀ u, ∃ x : Option Addr × Nat, u < m.length → w.cell? ⟨go, u, none⟩ = some (.slice x.1 (rowOf m u).length x.2) ∧ Ints w x.1 (rowOf m u) := fun u => by
      by_cases hu : u < m.length
      · obtain ⟨v', e1, g, c, rfl⟩ := h3 u hu
        have hk : (⟨.slice (some ⟨go, 0, none⟩) m.length co, 23, 1, m.length, vals⟩ :: matRows vals m)[u + 1]? = some (matRow (.slice (some ⟨g, 0, none⟩) (rowOf m u).length c) (rowOf m u)) := by
          show (matRows vals m)[u]? = _
          exact matRows_get e1 hu
        exact ⟨(some ⟨g, 0, none⟩, c), fun _ => ⟨(own_blk h2 (j := 0) rfl).2.2.2.2 u _ e1, own_ints h2 hk rfl (hl u hu) (hw u hu)⟩⟩
      · exact ⟨(none, 0), fun h => absurd h hu⟩
    refine ⟨by omega, go, 0, fun u => (Classical.choose (key u)).1, fun u => (Classical.choose (key u)).2, fun _ => ⟨rfl, g3⟩, fun u hu => ?_⟩
    rw [Nat.zero_add]
    exact Classical.choose_spec (key u) hu
theorem CpP.snoc {w : World} {B : Nat} {v v' : Value} {m : List (List Int)} {k : Nat} {vals : List Value} (hk : k < m.length) (hvl : vals.length = k) (hr : ∀ u, u < k → ∃ v', vals[u]? = some v' ∧ isRow v' (rowOf (m.take k) u)) (hv : isRow v' (rowOf m k))
    (hO : Owns w B (matRow v' (rowOf m k) :: ⟨v, 23, 1, k + 1, vals ++ [v']⟩ :: matRows vals (m.take k))) : CpP w B v (m.take (k + 1)) := by
  have hl : (m.take (k + 1)).length = k + 1 := by rw [List.length_take]; omega
  refine ⟨vals ++ [v'], by rw [List.length_append, List.length_singleton, hvl, hl], ?_, fun u hu => ?_⟩
  · rw [hl, matRows_snoc hvl hk]
    exact hO.perm ((List.Perm.swap _ _ _).trans ((List.perm_append_singleton _ _).symm.cons _))
  · rw [hl] at hu
    have er : ∀ j, u < j → rowOf (m.take j) u = rowOf m u := fun j hj => by
      unfold rowOf
      simp [List.getD_eq_getElem?_getD, List.getElem?_take, hj]
    rw [er _ hu]
    by_cases e : u = k
    · subst e
      exact ⟨v', by rw [List.getElem?_append_right (by omega), hvl, Nat.sub_self]; rfl, hv⟩
    · obtain ⟨v1, h1, h2⟩ := hr u (by omega)
      rw [er k (by omega)] at h2
      exact ⟨v1, by rw [List.getElem?_append_left (by omega)]; exact h1, h2⟩
theorem own_setC {w : World} {B : Nat} {rs : List Row} {g n c : Nat} {xs : List Int} (h : Owns w B (⟨.slice (some ⟨g, 0, none⟩) n c, 3, 1, n, intVs xs⟩ :: rs)) (i : Nat) (x : Int) :
    Owns (w.setCell ⟨g, i, none⟩ (.int .i64 x)) B (⟨.slice (some ⟨g, 0, none⟩) n c, 3, 1, n, intVs (xs.set i x)⟩ :: rs) := by
  have := h.set (k := 0) rfl i (.int .i64 x)
  have e : (intVs xs).set i (.int .i64 x) = intVs (xs.set i x) := by unfold intVs; rw [List.map_set]
  rw [e] at this
  exact this

set_option maxHeartbeats 8000000 in
theorem copied_l (p : Option Addr) (n cp : Nat) (m : List (List Int)) (r b : Int) (w : World) (hM : Mat w p m) (hV : vA m) (hn : m.length = n) (hb0 : 0 ≤ b) (hb1 : b ≤ 65535) :
    Calls Try.prog 15 #[.slice p n cp, .int .i64 r, .int .i64 b] w fun e w' => Grew w w' ∧ ∃ v, e = .returned v ∧ CpP w' w.heap.size v (cpM m r b) := by
  subst hn
  have h16 := hV.n16
  have HV := Lib.hid hV
  have HM := Lib.hid hM
  clear hV hM
  go_enter Try.func15, Try.ntmps15
  go_wp2
  go_loopw [7, 8] (fun v7 v8 wr => ∃ k : Nat, k ≤ m.length ∧ v8 = .int .i64 k ∧ CpP wr w.heap.size v7 ((cpM m r b).take k) ∧ Grew w wr) (fun _ v8 _ => m.length - (intOf v8).toNat)
  case atStart => exact ⟨0, Nat.zero_le _, rfl, by rw [List.take_zero]; exact CpP.nil _ _, Grew.refl _⟩
  case round =>
    obtain ⟨k, hk, rfl, hC, hg⟩ := hrel
    have HC := Lib.hid hC
    have Hg := Lib.hid hg
    clear hC hg
    have hsz := Hg.out.below.size
    by_cases hlt : k < m.length
    · obtain ⟨bb, o, b1, o1, c1, rfl, hbs, hc, hI⟩ := (HM.out.grew Hg.out).row1 HV.out hlt
      have hl := HV.out.sq k hlt
      have hk64 := HV.out.k64 (by omega)
      have hk0 := HV.out.nk (by omega)
      obtain ⟨K, hKe⟩ : ∃ K, kO m = K := ⟨_, rfl⟩
      rw [hKe] at hc hl hk64 hk0
      have hK0 : 0 < K := by omega
      obtain ⟨vals, hvl, hO, hvr⟩ := HC.out
      have hkl : ((cpM m r b).take k).length = k := by rw [List.length_take, cpM_length]; omega
      rw [hkl] at hvl hO hvr
      have HKe := Lib.hid hKe
      have Hl := Lib.hid hl
      have HI := Lib.hid hI
      have HO := Lib.hid hO
      have Hvl := Lib.hid hvl
      have Hvr := Lib.hid hvr
      clear hl hI hKe hO hvl hvr hkl HC
      go_wp2_with (at_builtin; refine wp_append_owns rfl _ _ 23 rfl 3 1 8 (.int .i64 0) Try.underlying23 Try.infoInt rfl (by decide) w.heap.size _ 0 _ _ _ (HO.out.made hsz #[] 3 1 0 _ rfl (by decide) rfl) rfl rfl _ _ _ rfl (intVs (rowOf m k)) (by rw [intVs_length, Hl.out, Nat.mul_one]) (fun h => by cases h) ((HI.out.grew (by (repeat (first | exact Grew.refl _ | refine Grew.over ?_ _ | refine Grew.alloc ?_ _ | refine Grew.drew ?_ | refine Grew.drewN ?_ _)))).news) (intVs_one _) (by simp only [maxLen]; omega) (by omega) (by first | rfl | omega | (simp <;> omega)) ?_; intro v1 w1 hO1 hg1 hb1 _; simp only [List.set_cons_zero, Nat.zero_add, List.nil_append] at hO1; obtain ⟨g1, c1, rfl, hB1, hs1, _, _, _, _⟩ := hO1.some (k := 0) rfl hK0; have Hg1 := Lib.hid (Grew.grownBy (w0 := w) (Hg.out.trans (by (repeat (first | exact Grew.refl _ | refine Grew.over ?_ _ | refine Grew.alloc ?_ _ | refine Grew.drew ?_ | refine Grew.drewN ?_ _)))) hg1 hb1); have HO1 := Lib.hid hO1; clear hO1 hg1 hb1)
      have Hr1 : Hid (∀ v, v < K → ge (rowOf (cpM m r b) k) v = if (k : Int) = r then shX b (ge (rowOf m k) v) else ge (rowOf m k) v) := Lib.hid (fun v hv => ge_cpM m r b hlt (by rw [Hl.out]; exact hv))
      have Hr2 : Hid (∀ v, v < K → -1 ≤ ge (rowOf m k) v ∧ ge (rowOf m k) v ≤ 1000000) := Lib.hid (fun v hv => HV.out.b k hlt v (by rw [HKe.out]; exact hv))
      clear HI HO Hg hc hbs hB1 hs1
      go_loopw [10] (fun v10 wr => ∃ (j : Nat) (xs : List Int), j ≤ K ∧ v10 = .int .i64 j ∧ (xs.length = K ∧ ∀ v, v < K → ge xs v = if v < j then ge (rowOf (cpM m r b) k) v else ge (rowOf m k) v) ∧
        Owns wr w.heap.size (⟨.slice (some ⟨g1, 0, none⟩) K c1, 3, 1, K, intVs xs⟩ :: ⟨u7, 23, 1, k, vals⟩ :: matRows vals ((cpM m r b).take k)) ∧ Grew w wr) (fun v10 _ => K - (intOf v10).toNat)
      case atStart => exact ⟨0, rowOf m k, Nat.zero_le _, rfl, ⟨Hl.out, fun v hv => by rw [if_neg (by omega)]⟩, HO1.out, Hg1.out⟩
      case round =>
        clear HO1 Hg1
        obtain ⟨j, xs, hj, rfl, hxs, hO, hg⟩ := hrel
        have Hxs := Lib.hid hxs
        have HO := Lib.hid hO
        have Hg := Lib.hid hg
        clear hxs hO hg
        have hsz := Hg.out.below.size
        by_cases hjl : j < K
        · have hb := own_blk HO.out (j := 0) rfl
          have d0 := hb.2.2.2.2 j _ (intVs_get xs (by rw [Hxs.out.1]; exact hjl))
          have f0 := hb.2.2.2.1 j
          have s0 := hb.2.2.1
          have e0 := Hxs.out.2 j hjl
          rw [if_neg (by omega)] at e0
          obtain ⟨x, hx⟩ : ∃ x, ge (rowOf m k) j = x := ⟨_, rfl⟩
          have hxb := Hr2.out j hjl
          have ht := Hr1.out j hjl
          rw [e0, hx] at d0
          rw [hx] at hxb ht
          obtain ⟨hxb1, hxb2⟩ := hxb
          have Ht := Lib.hid ht
          have He0 : Hid (ge xs j = x) := Lib.hid (by rw [e0, hx])
          clear hb e0 hx ht
          have Hnx : Hid (∀ y, y = ge (rowOf (cpM m r b) k) j → ((xs.set j y).length = K ∧ ∀ v, v < K → ge (xs.set j y) v = if v < j + 1 then ge (rowOf (cpM m r b) k) v else ge (rowOf m k) v)) := Lib.hid (fun y hy => by
            refine ⟨by rw [List.length_set]; exact Hxs.out.1, fun v hv => ?_⟩
            rw [ge_set xs (by rw [Hxs.out.1]; exact hjl)]
            by_cases e : v = j
            · rw [if_pos e, if_pos (by omega), hy, e]
            · rw [if_neg e, Hxs.out.2 v hv]
              by_cases g : v < j
              · rw [if_pos g, if_pos (by omega)]
              · rw [if_neg g, if_neg (by omega)])
          have Hsame : Hid (xs.set j x = xs) := Lib.hid (by
            have h1 := He0.out
            rw [ge_eq xs (by rw [Hxs.out.1]; exact hjl)] at h1
            rw [← h1]
            exact List.set_getElem_self _)
          by_cases hkr : (k : Int) = r
          · have hkr2 : ((k : Int) == r) = true := by rw [beq_iff_eq]; exact hkr
            have Hkr := Lib.hid hkr
            clear hkr
            by_cases hx0 : 0 ≤ x
            · have HO2 := Lib.hid (own_setC HO.out j (x + b))
              have Hg2 := Lib.hid (HO.out.setGrew (w0 := w) (Nat.le_refl _) Hg.out (k := 0) rfl j (.int .i64 (x + b)))
              have Hx2 := Lib.hid (Hnx.out (x + b) (by rw [Ht.out, if_pos Hkr.out]; unfold shX; rw [if_pos hx0]))
              go_wp2
              go_roundw
              case rel => exact ⟨j + 1, _, by omega, by go_num, Hx2.out, HO2.out, Hg2.out⟩
              case measure => simp [intOf]; omega
            · have Hx2 := Lib.hid (Hnx.out x (by rw [Ht.out, if_pos Hkr.out]; unfold shX; rw [if_neg hx0]))
              go_wp2
              go_roundw
              case rel => exact ⟨j + 1, xs, by omega, by go_num, by rw [← Hsame.out]; exact Hx2.out, HO.out, Hg.out⟩
              case measure => simp [intOf]; omega
          · have hkr2 : ((k : Int) == r) = false := by rw [beq_eq_false_iff_ne]; exact hkr
            have Hkr := Lib.hid hkr
            clear hkr
            have Hx2 := Lib.hid (Hnx.out x (by rw [Ht.out, if_neg Hkr.out]))
            go_wp2
            go_roundw
            case rel => exact ⟨j + 1, xs, by omega, by go_num, by rw [← Hsame.out]; exact Hx2.out, HO.out, Hg.out⟩
            case measure => simp [intOf]; omega
        · have hje : j = K := by omega
          have Hrl : Hid ((rowOf (cpM m r b) k).length = K) := Lib.hid (by rw [rowlen_cpM m r b hlt, Hl.out])
          have Hxe : Hid (xs = rowOf (cpM m r b) k) := Lib.hid (by
            refine List.ext_getElem (by rw [Hxs.out.1, Hrl.out]) fun v h1 h2 => ?_
            have := Hxs.out.2 v (by rw [← Hxs.out.1]; exact h1)
            rw [if_pos (by rw [Hxs.out.1] at h1; omega), ge_eq _ h1, ge_eq _ h2] at this
            exact this)
          have HO3 := HO
          rw [Hxe.out] at HO3
          clear hje HO
          go_wp2_with (at_builtin; refine wp_append_owns rfl _ _ 22 rfl 23 1 24 (.slice none 0 0) Try.underlying22 Try.infoInts rfl (by decide) w.heap.size _ 1 _ _ _ (HO3.out.grew (by (repeat (first | exact Grew.refl _ | refine Grew.over ?_ _ | refine Grew.alloc ?_ _ | refine Grew.drew ?_ | refine Grew.drewN ?_ _)))) rfl rfl _ 1 1 rfl [.slice (some ⟨g1, 0, none⟩) K c1] rfl (fun h => by cases h) (one_news _ (by (simp [go_sem, ↓IntWalk.iteOmega]))) (by simp [Value.oneCell']) (by simp only [maxLen]; omega) (by omega) (by first | rfl | omega | (simp <;> omega)) ?_; intro v2 w2 hO2 hg2 hb2 _; have Hg2 := Lib.hid (Grew.grownBy (w0 := w) (Hg.out.trans (by (repeat (first | exact Grew.refl _ | refine Grew.over ?_ _ | refine Grew.alloc ?_ _ | refine Grew.drew ?_ | refine Grew.drewN ?_ _)))) hg2 hb2); have HO2 := Lib.hid hO2; clear hO2 hg2 hb2)
          go_roundw
          case rel =>
            refine ⟨k + 1, by omega, by go_num, ?_, Hg2.out⟩
            refine CpP.snoc (by rw [cpM_length]; exact hlt) Hvl.out Hvr.out (v' := .slice (some ⟨g1, 0, none⟩) K c1) ⟨g1, c1, by rw [Hrl.out]⟩ ?_
            have h := HO2.out
            unfold matRow
            rw [Hrl.out]
            exact h
          case measure => simp [intOf]; omega
    · have hkm : k = m.length := by omega
      subst hkm
      have Hf : Hid (CpP wr w.heap.size u7 (cpM m r b)) := Lib.hid (by
        have := HC.out
        rwa [List.take_of_length_le (by rw [cpM_length]; exact Nat.le_refl _)] at this)
      go_wp2
      go_ret
      exact ⟨Hg.out, _, rfl, Hf.out⟩
end Go.Proofs.Ytjodkhcgibabpaa
