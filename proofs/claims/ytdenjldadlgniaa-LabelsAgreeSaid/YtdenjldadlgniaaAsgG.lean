/- slices.Clone of a row; rows in blocks of their own, as Solve of the program keeps them. -/
import Derived.Test.YtdenjldadlgniaaAsgE
import Derived.Test.YtdenjldadlgniaaAsgF
import Derived.Test.YtdenjldadlgniaaHunF
set_option linter.unusedSimpArgs false
set_option linter.unusedVariables false
namespace Go.Proofs.Ytdenjldadlgniaa
open Go.RowKit

theorem intVs_one (xs : List Int) : ∀ u ∈ intVs xs, u.oneCell' = true := by
  intro u hu
  obtain ⟨y, _, rfl⟩ := List.mem_map.1 hu
  rfl
theorem Ints.news {w : World} {ad : Addr} {xs : List Int} (h : Ints w (some ad) xs) : ∀ b, some ad = some b → ∀ j u, (intVs xs)[j]? = some u → w.cell? (b.add j) = some u := by
  intro b hb j u hj
  cases hb
  obtain ⟨_, _, b, o', h3, h4⟩ := h
  have hjl : j < xs.length := by
    have := (List.getElem?_eq_some_iff.1 hj).1
    rwa [intVs_length] at this
  rw [intVs_get xs hjl] at hj
  cases hj
  have hp := (h3 (by omega)).1
  cases hp
  rw [Addr.add_lit, h4 j hjl]
theorem own_ints {w : World} {B : Nat} {rs : List Row} {k q n c : Nat} {xs : List Int} (h : Owns w B rs) (hk : rs[k]? = some ⟨.slice (some ⟨q, 0, none⟩) n c, 3, 1, n, intVs xs⟩) (hl : xs.length = n)
    (hm : n ≤ 1000) (hw : ∀ x ∈ xs, -9223372036854775808 ≤ x ∧ x ≤ 9223372036854775807) : Ints w (some ⟨q, 0, none⟩) xs := by
  refine ⟨by omega, hw, q, 0, fun _ => ⟨rfl, own_lt h hk⟩, fun i hi => ?_⟩
  rw [Nat.zero_add]
  exact (own_blk h hk).2.2.2.2 i _ (intVs_get xs hi)

def matRow (v : Value) (xs : List Int) : Row := ⟨v, 3, 1, xs.length, intVs xs⟩
def matRows (vals : List Value) (m : List (List Int)) : List Row := List.zipWith matRow vals m
theorem take_row (m : List (List Int)) {k : Nat} (h : k < m.length) : m.take (k + 1) = m.take k ++ [rowOf m k] := by
  rw [List.take_succ_eq_append_getElem h, rowOf_eq m h]
theorem matRows_snoc {vals : List Value} {m : List (List Int)} {k : Nat} (hl : vals.length = k) (hk : k < m.length) (v : Value) :
    matRows (vals ++ [v]) (m.take (k + 1)) = matRows vals (m.take k) ++ [matRow v (rowOf m k)] := by
  unfold matRows
  rw [take_row m hk, List.zipWith_append (by rw [hl, List.length_take]; omega)]
  rfl
theorem matRows_get {vals : List Value} {m : List (List Int)} {u : Nat} {v : Value} (hv : vals[u]? = some v) (hu : u < m.length) : (matRows vals m)[u]? = some (matRow v (rowOf m u)) := by
  unfold matRows
  rw [List.getElem?_zipWith, hv, List.getElem?_eq_getElem hu, rowOf_eq m hu]
theorem matRows_set {vals : List Value} {m : List (List Int)} (hl : vals.length = m.length) {u : Nat} (hu : u < m.length) (v : Value) (xs : List Int) : matRows (vals.set u v) (m.set u xs) = (matRows vals m).set u (matRow v xs) := by
  unfold matRows
  apply List.ext_getElem?
  intro i
  rw [List.getElem?_zipWith, List.getElem?_set, List.getElem?_set, List.getElem?_set, List.getElem?_zipWith]
  by_cases h : u = i
  · subst h
    rw [if_pos rfl, if_pos rfl, if_pos rfl, if_pos (by omega), if_pos hu, if_pos (by rw [List.length_zipWith]; omega)]
  · rw [if_neg h, if_neg h, if_neg h]
theorem own_join {w w' : World} {B : Nat} {r : Row} {rs : List Row} (h : Owns w B rs) (hg : Grew w w') (hr : Owns w' w.heap.size [r]) (hB : B ≤ w.heap.size) : Owns w' B (r :: rs) := by
  refine (h.grew hg).cons (ownsRow_base hr.head hB) (fun k x hk g h1 h2 => ?_)
  have e1 := (hr.head.lt g h1).1
  have e2 := ((h.1 k x hk).lt g h2).2
  omega
theorem own_repl {w : World} {B i : Nat} {r a b : Row} {rs : List Row} (h : Owns w B (r :: a :: b :: rs)) (hi : i < rs.length) : Owns w B (a :: b :: rs.set i r) := by
  have e : rs.Perm (rs[i] :: (rs.take i ++ rs.drop (i + 1))) := by
    have h1 : rs = rs.take i ++ rs[i] :: rs.drop (i + 1) := by rw [← List.drop_eq_getElem_cons hi, List.take_append_drop]
    exact (List.Perm.of_eq h1).trans List.perm_middle
  have h2 : Owns w B (rs[i] :: (r :: a :: b :: (rs.take i ++ rs.drop (i + 1)))) := h.perm (by
    refine ((((e.cons b).cons a).cons r)).trans ?_
    exact (((List.Perm.swap _ _ _).cons a).cons r).trans (((List.Perm.swap _ _ _).cons r).trans (List.Perm.swap _ _ _))
    )
  refine h2.tail.perm ?_
  rw [List.set_eq_take_append_cons_drop, if_pos hi]
  have h3 : (r :: (rs.take i ++ rs.drop (i + 1))).Perm (rs.take i ++ r :: rs.drop (i + 1)) := List.perm_middle.symm
  exact (List.Perm.swap _ _ _).trans (((List.Perm.swap _ _ _).trans (h3.cons b)).cons a)

set_option maxHeartbeats 2000000 in
theorem clone_i (b o K cap : Nat) (xs : List Int) (w : World) (hI : Ints w (some ⟨b, o, none⟩) xs) (hn : xs.length = K) (h0 : 0 < K) (hK : K ≤ 64) :
    Calls Try.prog 49 #[.slice (some ⟨b, o, none⟩) K cap] w fun e w' => Grew w w' ∧ ∃ q c, e = .returned (.slice (some ⟨q, 0, none⟩) K c) ∧ Owns w' w.heap.size [matRow (.slice (some ⟨q, 0, none⟩) K c) xs] := by
  have heq := fun W => Lib.run_eql_slice_nil (P := Try.prog) W 24 3 (some ⟨b, o, none⟩) K cap 0 0 Try.underlying24
  have HI := Lib.hid hI
  have Hn := Lib.hid hn
  clear hI hn
  go_enter Try.func49, Try.ntmps49
  go_wp2_with (at_builtin; refine wp_append_owns rfl _ _ 24 rfl 3 1 8 (.int .i64 0) Try.underlying24 Try.infoInt rfl (by decide) w.heap.size _ 0 _ _ _ ((Owns.nil w w.heap.size).made (Nat.le_refl _) #[] 3 1 0 w.heap.size rfl (by decide) rfl) rfl rfl _ _ _ rfl (intVs xs) (by rw [intVs_length, Hn.out, Nat.mul_one]) (fun h => by cases h) ((HI.out.grew (by (repeat (first | exact Grew.refl _ | refine Grew.over ?_ _ | refine Grew.alloc ?_ _ | refine Grew.drew ?_ | refine Grew.drewN ?_ _)))).news) (intVs_one _) (by simp only [maxLen]; omega) (by omega) (by first | rfl | omega | (simp <;> omega)) ?_; intro v1 w1 hO1 hg1 hb1 _; have Hg1 := Lib.hid (Grew.grownBy (w0 := w) (by (repeat (first | exact Grew.refl _ | refine Grew.over ?_ _ | refine Grew.alloc ?_ _ | refine Grew.drew ?_ | refine Grew.drewN ?_ _))) hg1 hb1); have HO1 := Lib.hid hO1; clear hO1 hg1 hb1)
  go_ret
  have h := HO1.out
  simp only [List.set_cons_zero, Nat.zero_add, List.nil_append] at h
  obtain ⟨g, c, rfl, _⟩ := h.some (k := 0) rfl h0
  refine ⟨Hg1.out, g, c, rfl, ?_⟩
  unfold matRow
  rw [Hn.out]
  exact h

/-! ### Solve's matrix: its own slice of slices -/
def hdrR (go n : Nat) (vals : List Value) : Row := ⟨.slice (some ⟨go, 0, none⟩) n n, 24, 1, n, vals⟩
def outR (vo : Value) (l : List Nat) : Row := ⟨vo, 3, 1, l.length, natVs l⟩
def isRow (v : Value) (xs : List Int) : Prop := ∃ g c, v = .slice (some ⟨g, 0, none⟩) xs.length c
/-- The slice of rows, the first k of them being laid. -/
structure SolK (w : World) (B go : Nat) (m : List (List Int)) (vals : List Value) (k : Nat) : Prop where
  own : Owns w B (hdrR go m.length vals :: matRows (vals.take k) (m.take k))
  vl : vals.length = m.length
  row : ∀ u, u < k → ∃ v, vals[u]? = some v ∧ isRow v (rowOf m u)
theorem SolK.set {w w' : World} {B go : Nat} {m : List (List Int)} {vals : List Value} {k : Nat} (h : SolK w B go m vals k) (hg : Grew w w') (hB : B ≤ w.heap.size) (hk : k < m.length) {v : Value} (hv : isRow v (rowOf m k))
    (hO : Owns w' w.heap.size [matRow v (rowOf m k)]) : SolK (w'.setCell ⟨go, k, none⟩ v) B go m (vals.set k v) (k + 1) := by
  have h1 := (own_join h.own hg hO hB).set (k := 1) rfl k v
  refine ⟨?_, by rw [List.length_set]; exact h.vl, fun u hu => ?_⟩
  · have e : (vals.set k v).take (k + 1) = vals.take k ++ [v] := by
      rw [List.take_succ_eq_append_getElem (by rw [List.length_set, h.vl]; exact hk), List.getElem_set_self, List.take_set, List.set_eq_of_length_le (by rw [List.length_take]; omega)]
    rw [e, matRows_snoc (by rw [List.length_take, h.vl]; omega) hk]
    exact h1.perm ((List.Perm.swap _ _ _).trans ((List.perm_append_singleton _ _).symm.cons _))
  · by_cases e : u = k
    · subst e
      exact ⟨v, by rw [List.getElem?_set, if_pos rfl, if_pos (by rw [h.vl]; exact hk)], hv⟩
    · obtain ⟨v', h1, h2⟩ := h.row u (by omega)
      exact ⟨v', by rw [List.getElem?_set, if_neg (Ne.symm e)]; exact h1, h2⟩

/-- The slice of rows and the list that is being built. -/
structure SolM (w : World) (B go : Nat) (vo : Value) (l : List Nat) (m : List (List Int)) (vals : List Value) : Prop where
  own : Owns w B (hdrR go m.length vals :: outR vo l :: matRows vals m)
  vl : vals.length = m.length
  row : ∀ u, u < m.length → ∃ v, vals[u]? = some v ∧ isRow v (rowOf m u)
theorem SolM.grew {w w' : World} {B go : Nat} {vo : Value} {l : List Nat} {m : List (List Int)} {vals : List Value} (h : SolM w B go vo l m vals) (hg : Grew w w') : SolM w' B go vo l m vals := ⟨h.own.grew hg, h.vl, h.row⟩
theorem SolM.set {w : World} {B go : Nat} {vo : Value} {l : List Nat} {m : List (List Int)} {vals : List Value} (h : SolM w B go vo l m vals) {w' : World} {i : Nat} (hi : i < m.length) {v : Value} {xs : List Int} (hv : isRow v xs)
    (hO : Owns w' B (matRow v xs :: hdrR go m.length vals :: outR vo l :: matRows vals m)) :
    SolM (w'.setCell ⟨go, i, none⟩ v) B go vo l (m.set i xs) (vals.set i v) := by
  refine ⟨?_, by rw [List.length_set, List.length_set]; exact h.vl, fun u hu => ?_⟩
  · have h1 := hO.set (k := 1) rfl i v
    rw [List.length_set, matRows_set h.vl hi]
    refine own_repl h1 ?_
    unfold matRows
    rw [List.length_zipWith, h.vl]
    omega
  · rw [List.length_set] at hu
    have er : rowOf (m.set i xs) u = if u = i then xs else rowOf m u := by
      unfold rowOf
      rw [List.getD_eq_getElem?_getD, List.getElem?_set]
      by_cases e : u = i
      · subst e; rw [if_pos rfl, if_pos hi, if_pos rfl]; rfl
      · rw [if_neg (Ne.symm e), if_neg e, List.getD_eq_getElem?_getD]
    rw [er]
    by_cases e : u = i
    · subst e
      rw [if_pos rfl]
      exact ⟨v, by rw [List.getElem?_set, if_pos rfl, if_pos (by rw [h.vl]; exact hu)], hv⟩
    · rw [if_neg e]
      obtain ⟨v', h1, h2⟩ := h.row u hu
      exact ⟨v', by rw [List.getElem?_set, if_neg (Ne.symm e)]; exact h1, h2⟩
theorem SolM.cell {w : World} {B go : Nat} {vo : Value} {l : List Nat} {m : List (List Int)} {vals : List Value} (h : SolM w B go vo l m vals) {u : Nat} (hu : u < m.length) (hl : (rowOf m u).length ≤ 1000) (hw : ∀ x ∈ rowOf m u, -9223372036854775808 ≤ x ∧ x ≤ 9223372036854775807) :
    ∃ g c, w.cell? ⟨go, u, none⟩ = some (.slice (some ⟨g, 0, none⟩) (rowOf m u).length c) ∧ Ints w (some ⟨g, 0, none⟩) (rowOf m u) ∧ g < w.heap.size ∧ go ≠ g := by
  obtain ⟨v, h1, g, c, rfl⟩ := h.row u hu
  have hk : (hdrR go m.length vals :: outR vo l :: matRows vals m)[u + 2]? = some (matRow (.slice (some ⟨g, 0, none⟩) (rowOf m u).length c) (rowOf m u)) := by
    show (matRows vals m)[u]? = _
    exact matRows_get h1 hu
  refine ⟨g, c, (own_blk h.own (j := 0) rfl).2.2.2.2 u _ h1, own_ints h.own hk rfl hl hw, own_lt h.own hk, fun e => ?_⟩
  exact h.own.2 0 (u + 2) _ _ rfl hk (by omega) go rfl (by rw [e]; rfl)
theorem SolM.mat {w : World} {B go : Nat} {vo : Value} {l : List Nat} {m : List (List Int)} {vals : List Value} (h : SolM w B go vo l m vals) (hm : m.length ≤ 1000) (hl : ∀ u, u < m.length → (rowOf m u).length ≤ 1000)
    (hw : ∀ u, u < m.length → ∀ x ∈ rowOf m u, -9223372036854775808 ≤ x ∧ x ≤ 9223372036854775807) : Mat w (some ⟨go, 0, none⟩) m := by
  have key : ∀ u, ∃ x : Option Addr × Nat, u < m.length → w.cell? ⟨go, u, none⟩ = some (.slice x.1 (rowOf m u).length x.2) ∧ Ints w x.1 (rowOf m u) := fun u => by
    by_cases hu : u < m.length
    · obtain ⟨g, c, h1, h3, _⟩ := h.cell hu (hl u hu) (hw u hu)
      exact ⟨(some ⟨g, 0, none⟩, c), fun _ => ⟨h1, h3⟩⟩
    · exact ⟨(none, 0), fun h => absurd h hu⟩
  refine ⟨by omega, go, 0, fun u => (Classical.choose (key u)).1, fun u => (Classical.choose (key u)).2, fun _ => ⟨rfl, own_lt h.own (j := 0) rfl⟩, fun u hu => ?_⟩
  rw [Nat.zero_add]
  exact Classical.choose_spec (key u) hu
theorem SolK.start {w : World} {B go : Nat} {m : List (List Int)} {vals : List Value} (h : SolK w B go m vals m.length) (hB : B ≤ w.heap.size) (g2 : Nat) (hg2 : g2 = w.heap.size) :
    SolM (w.alloc (.cells #[] 3)) B go (.slice (some ⟨g2, 0, none⟩) 0 0) [] m vals := by
  subst hg2
  refine ⟨?_, h.vl, h.row⟩
  have h1 := h.own
  rw [List.take_of_length_le (by rw [h.vl]; exact Nat.le_refl _), List.take_of_length_le (Nat.le_refl _)] at h1
  exact (h1.made hB #[] 3 1 0 w.heap.size rfl (by decide) rfl).perm (List.Perm.swap _ _ _)
end Go.Proofs.Ytdenjldadlgniaa
