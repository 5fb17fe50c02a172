/- Rows of ints, naturals and Bools in memory of the call's own. -/
import Derived.Test.YtgodoeefgmfpfaaSl
import Derived.Test.YtgodoeefgmfpfaaMem
import Derived.Test.YtgodoeefgmfpfaaHeld
import Derived.Laws.MakeOwn
set_option linter.unusedSimpArgs false
set_option linter.unusedVariables false
namespace Go.Proofs.Ytgodoeefgmfpfaa
open Go.RowKit

theorem Try.infoBool : (Try.prog.info? 4).map (fun i => (i.zero, i.size, i.bytes)) = some (some (.bool false), 1, 1) := by kernel_rfl
def gn (xs : List Nat) (i : Nat) : Nat := xs.getD i 0
theorem gn_eq (xs : List Nat) {i : Nat} (h : i < xs.length) : gn xs i = xs[i] := by simp [gn, h]
theorem ge_set (xs : List Int) {i : Nat} (h : i < xs.length) (x : Int) (j : Nat) : ge (xs.set i x) j = if j = i then x else ge xs j := by
  unfold ge
  rw [List.getD_eq_getElem?_getD, List.getD_eq_getElem?_getD, List.getElem?_set]
  by_cases e : i = j
  · subst e
    simp [h]
  · rw [if_neg e, if_neg (Ne.symm e)]
theorem gn_set (xs : List Nat) {i : Nat} (h : i < xs.length) (x : Nat) (j : Nat) : gn (xs.set i x) j = if j = i then x else gn xs j := by
  unfold gn
  rw [List.getD_eq_getElem?_getD, List.getD_eq_getElem?_getD, List.getElem?_set]
  by_cases e : i = j
  · subst e
    simp [h]
  · rw [if_neg e, if_neg (Ne.symm e)]


/-- Numbers that are all different and lie below n are at most n. -/
theorem nodup_below : ∀ (n : Nat) {l : List Nat}, l.Nodup → (∀ u ∈ l, u < n) → l.length ≤ n
  | 0, l, _, hl => by
    cases l with
    | nil => simp
    | cons a l => exact absurd (hl a (by simp)) (by omega)
  | n + 1, l, h, hl => by
    have h1 : (l.erase n).Nodup := h.erase n
    have h2 := nodup_below n h1 (fun u hu => by
      have hne : u ≠ n := fun e => by subst e; exact (List.Nodup.mem_erase_iff h).1 hu |>.1 rfl
      have := hl u (List.mem_of_mem_erase hu)
      omega)
    have := List.length_erase (a := n) (l := l)
    split at this <;> omega

def natVs (xs : List Nat) : List Value := xs.map fun x : Nat => Value.int .i64 (x : Int)
def boolVs (xs : List Bool) : List Value := xs.map Value.bool
theorem natVs_get (xs : List Nat) {i : Nat} (h : i < xs.length) : (natVs xs)[i]? = some (.int .i64 (gn xs i : Int)) := by
  unfold natVs
  rw [List.getElem?_map, List.getElem?_eq_getElem h, gn_eq xs h]
  rfl
def gb (xs : List Bool) (i : Nat) : Bool := xs.getD i false
theorem gb_eq (xs : List Bool) {i : Nat} (h : i < xs.length) : gb xs i = xs[i] := by simp [gb, h]
theorem boolVs_get (xs : List Bool) {i : Nat} (h : i < xs.length) : (boolVs xs)[i]? = some (.bool (gb xs i)) := by
  unfold boolVs
  rw [List.getElem?_map, List.getElem?_eq_getElem h, gb_eq xs h]
  rfl
theorem gb_set (xs : List Bool) {i : Nat} (h : i < xs.length) (x : Bool) (j : Nat) : gb (xs.set i x) j = if j = i then x else gb xs j := by
  unfold gb
  rw [List.getD_eq_getElem?_getD, List.getD_eq_getElem?_getD, List.getElem?_set]
  by_cases e : i = j
  · subst e
    simp [h]
  · rw [if_neg e, if_neg (Ne.symm e)]
abbrev rI (g n : Nat) (xs : List Int) : Row := ⟨.slice (some ⟨g, 0, none⟩) n n, 3, 1, n, intVs xs⟩
abbrev rN (g n : Nat) (xs : List Nat) : Row := ⟨.slice (some ⟨g, 0, none⟩) n n, 3, 1, n, natVs xs⟩
abbrev rB (g n : Nat) (xs : List Bool) : Row := ⟨.slice (some ⟨g, 0, none⟩) n n, 4, 1, n, boolVs xs⟩

theorem own_blk {w : World} {B : Nat} {rs : List Row} (h : Owns w B rs) {j g n c : Nat} {e : TypeId} {vs : List Value} (hk : rs[j]? = some ⟨.slice (some ⟨g, 0, none⟩) n c, e, 1, n, vs⟩) :
    vs.length = n ∧ B ≤ g ∧ g < w.heap.size ∧ (∀ i, w.frozen? ⟨g, i, none⟩ = false) ∧ ∀ i u, vs[i]? = some u → w.cell? ⟨g, i, none⟩ = some u := by
  obtain ⟨h1, h2⟩ := h.get hk
  rcases h2 with ⟨h2, _⟩ | ⟨g', cap, hv, h3, h4, _, _, h5, h6⟩
  · cases h2
  · have hg : g' = g := by
      simp only [Value.slice.injEq, Option.some.injEq, Addr.mk.injEq] at hv
      exact hv.1.1.symm
    subst hg
    exact ⟨by rw [h1]; simp, h3, h4, h5, h6⟩
theorem own_lt {w : World} {B : Nat} {rs : List Row} (h : Owns w B rs) {j g n c : Nat} {e : TypeId} {vs : List Value} (hk : rs[j]? = some ⟨.slice (some ⟨g, 0, none⟩) n c, e, 1, n, vs⟩) : g < w.heap.size := (own_blk h hk).2.2.1
theorem own_fr {w : World} {B : Nat} {rs : List Row} (h : Owns w B rs) {j g n c : Nat} {e : TypeId} {vs : List Value} (hk : rs[j]? = some ⟨.slice (some ⟨g, 0, none⟩) n c, e, 1, n, vs⟩) (i : Nat) : w.frozen? ⟨g, i, none⟩ = false := (own_blk h hk).2.2.2.1 i
theorem own_atI {w : World} {B : Nat} {rs : List Row} (h : Owns w B rs) {j g n : Nat} {xs : List Int} (hk : rs[j]? = some (rI g n xs)) {i : Nat} (hi : i < n) : w.cell? ⟨g, i, none⟩ = some (.int .i64 (ge xs i)) := by
  obtain ⟨h1, _, _, _, h2⟩ := own_blk h hk
  rw [intVs_length] at h1
  exact h2 i _ (intVs_get xs (by omega))
theorem own_atN {w : World} {B : Nat} {rs : List Row} (h : Owns w B rs) {j g n : Nat} {xs : List Nat} (hk : rs[j]? = some (rN g n xs)) {i : Nat} (hi : i < n) : w.cell? ⟨g, i, none⟩ = some (.int .i64 (gn xs i : Int)) := by
  obtain ⟨h1, _, _, _, h2⟩ := own_blk h hk
  have : (natVs xs).length = xs.length := by simp [natVs]
  exact h2 i _ (natVs_get xs (by omega))
theorem own_atB {w : World} {B : Nat} {rs : List Row} (h : Owns w B rs) {j g n : Nat} {xs : List Bool} (hk : rs[j]? = some (rB g n xs)) {i : Nat} (hi : i < n) : w.cell? ⟨g, i, none⟩ = some (.bool (gb xs i)) := by
  obtain ⟨h1, _, _, _, h2⟩ := own_blk h hk
  have : (boolVs xs).length = xs.length := by simp [boolVs]
  exact h2 i _ (boolVs_get xs (by omega))
theorem own_setI {w : World} {B : Nat} {rs : List Row} (h : Owns w B rs) {j g n : Nat} {xs : List Int} (hk : rs[j]? = some (rI g n xs)) (i : Nat) (x : Int) : Owns (w.setCell ⟨g, i, none⟩ (.int .i64 x)) B (rs.set j (rI g n (xs.set i x))) := by
  have := h.set hk i (.int .i64 x)
  have e : (intVs xs).set i (.int .i64 x) = intVs (xs.set i x) := by unfold intVs; rw [List.map_set]
  rwa [e] at this
theorem own_setN {w : World} {B : Nat} {rs : List Row} (h : Owns w B rs) {j g n : Nat} {xs : List Nat} (hk : rs[j]? = some (rN g n xs)) (i : Nat) (x : Nat) : Owns (w.setCell ⟨g, i, none⟩ (.int .i64 (x : Int))) B (rs.set j (rN g n (xs.set i x))) := by
  have := h.set hk i (.int .i64 (x : Int))
  have e : (natVs xs).set i (.int .i64 (x : Int)) = natVs (xs.set i x) := by unfold natVs; rw [List.map_set]
  rwa [e] at this
theorem own_setB {w : World} {B : Nat} {rs : List Row} (h : Owns w B rs) {j g n : Nat} {xs : List Bool} (hk : rs[j]? = some (rB g n xs)) (i : Nat) (x : Bool) : Owns (w.setCell ⟨g, i, none⟩ (.bool x)) B (rs.set j (rB g n (xs.set i x))) := by
  have := h.set hk i (.bool x)
  have e : (boolVs xs).set i (.bool x) = boolVs (xs.set i x) := by unfold boolVs; rw [List.map_set]
  rwa [e] at this

theorem ones_rep (z : Value) (n : Nat) : madeCells #[z] n = Array.replicate n z := by
  rw [← Array.toArray_toList (xs := madeCells #[z] n), toList_madeCells_one]
  simp
theorem mk_ints (n : Nat) (hn : n ≤ 100000) (W : World) : (Instr.makeSlice 22 (.int .i64 n) (.int .i64 n)).run Try.prog W = .ok (.slice (some ⟨W.heap.size, 0, none⟩) n n) (W.alloc (.cells (Array.replicate n (.int .i64 0)) 3)) := by
  obtain ⟨i0, hi, hz0, hz1, hz2⟩ := info_parts Try.infoInt
  have h := run_make (P := Try.prog) W 22 3 i0 (.int .i64 0) Try.underlying22 hi hz0 .i64 .i64 (n : Int) (n : Int) (by omega) (by omega) (by rw [hz2]; omega) (by omega)
  rw [hz1, show (Value.int .i64 0).cells = #[.int .i64 0] from rfl, Int.toNat_natCast, Nat.mul_one, ones_rep] at h
  exact h
theorem mk_bools (n : Nat) (hn : n ≤ 100000) (W : World) : (Instr.makeSlice 53 (.int .i64 n) (.int .i64 n)).run Try.prog W = .ok (.slice (some ⟨W.heap.size, 0, none⟩) n n) (W.alloc (.cells (Array.replicate n (.bool false)) 4)) := by
  obtain ⟨i0, hi, hz0, hz1, hz2⟩ := info_parts Try.infoBool
  have h := run_make (P := Try.prog) W 53 4 i0 (.bool false) Try.underlying53 hi hz0 .i64 .i64 (n : Int) (n : Int) (by omega) (by omega) (by rw [hz2]; omega) (by omega)
  rw [hz1, show (Value.bool false).cells = #[.bool false] from rfl, Int.toNat_natCast, Nat.mul_one, ones_rep] at h
  exact h
/-- A new row of zeros. -/
theorem own_newI {w : World} {B : Nat} {rs : List Row} (h : Owns w B rs) (hB : B ≤ w.heap.size) (n g : Nat) (hn : n ≤ 100000) (hg : g = w.heap.size) :
    Owns (w.alloc (.cells (Array.replicate n (.int .i64 0)) 3)) B (rI g n (List.replicate n 0) :: rs) := by
  have h1 := h.made hB (Array.replicate n (.int .i64 0)) 3 1 n g (by simp) (by simp only [maxLen]; omega) hg
  rw [Array.toList_replicate] at h1
  have e : intVs (List.replicate n 0) = List.replicate n (.int .i64 0) := by simp [intVs]
  unfold rI
  rw [e]
  exact h1
theorem own_newB {w : World} {B : Nat} {rs : List Row} (h : Owns w B rs) (hB : B ≤ w.heap.size) (n g : Nat) (hn : n ≤ 100000) (hg : g = w.heap.size) :
    Owns (w.alloc (.cells (Array.replicate n (.bool false)) 4)) B (rB g n (List.replicate n false) :: rs) := by
  have h1 := h.made hB (Array.replicate n (.bool false)) 4 1 n g (by simp) (by simp only [maxLen]; omega) hg
  rw [Array.toList_replicate] at h1
  have e : boolVs (List.replicate n false) = List.replicate n (.bool false) := by simp [boolVs]
  unfold rB
  rw [e]
  exact h1
theorem nat_zeros (n : Nat) : natVs (List.replicate n 0) = intVs (List.replicate n 0) := by simp [natVs, intVs]
theorem rN_zeros (g n m : Nat) : rI g n (List.replicate m 0) = rN g n (List.replicate m 0) := by
  unfold rI rN
  rw [nat_zeros]
/-- The first rows: made in either order. -/
theorem own_two {w : World} {B : Nat} (hB : B ≤ w.heap.size) (a c : Nat) (ha : a ≤ 100000) (hc : c ≤ 100000) :
    Owns ((w.alloc (.cells (Array.replicate a (.int .i64 0)) 3)).alloc (.cells (Array.replicate c (.int .i64 0)) 3)) B [rI w.heap.size a (List.replicate a 0), rI (w.heap.size + 1) c (List.replicate c 0)] ∧
    Owns ((w.alloc (.cells (Array.replicate c (.int .i64 0)) 3)).alloc (.cells (Array.replicate a (.int .i64 0)) 3)) B [rI (w.heap.size + 1) a (List.replicate a 0), rI w.heap.size c (List.replicate c 0)] := by
  refine ⟨?_, own_newI (own_newI (Owns.nil w B) hB c _ hc rfl) (by simp; omega) a _ ha (by simp)⟩
  exact (own_newI (own_newI (Owns.nil w B) hB a _ ha rfl) (by simp; omega) c _ hc (by simp)).perm (List.Perm.swap _ _ _)
theorem own_join {w w' : World} {B : Nat} {r : Row} {rs : List Row} (h : Owns w B rs) (hg : Grew w w') (hr : Owns w' w.heap.size [r]) (hB : B ≤ w.heap.size) : Owns w' B (r :: rs) := by
  refine (h.grew hg).cons (ownsRow_base hr.head hB) (fun k x hk g h1 h2 => ?_)
  have e1 := (hr.head.lt g h1).1
  have e2 := ((h.1 k x hk).lt g h2).2
  omega

theorem Ints.newsO {w : World} {q : Option Addr} {xs : List Int} (h : Ints w q xs) : ∀ b, q = some b → ∀ j u, (intVs xs)[j]? = some u → w.cell? (b.add j) = some u := by
  cases q with
  | none => intro b h; cases h
  | some ad => exact h.news
abbrev rC (g n c : Nat) (xs : List Int) : Row := ⟨.slice (some ⟨g, 0, none⟩) n c, 3, 1, n, intVs xs⟩
theorem own_atC {w : World} {B : Nat} {rs : List Row} (h : Owns w B rs) {j g n c : Nat} {xs : List Int} (hk : rs[j]? = some (rC g n c xs)) {i : Nat} (hi : i < xs.length) : w.cell? ⟨g, i, none⟩ = some (.int .i64 (ge xs i)) :=
  (own_blk h hk).2.2.2.2 i _ (intVs_get xs hi)
theorem own_setC {w : World} {B : Nat} {rs : List Row} (h : Owns w B rs) {j g n c : Nat} {xs : List Int} (hk : rs[j]? = some (rC g n c xs)) (i : Nat) (x : Int) : Owns (w.setCell ⟨g, i, none⟩ (.int .i64 x)) B (rs.set j (rC g n c (xs.set i x))) := by
  have := h.set hk i (.int .i64 x)
  have e : (intVs xs).set i (.int .i64 x) = intVs (xs.set i x) := by unfold intVs; rw [List.map_set]
  rwa [e] at this
/-- A row that came in as a value: nil, or in a block of its own. -/
abbrev lR (v : Value) (n : Nat) (xs : List Int) : Row := ⟨v, 3, 1, n, intVs xs⟩
theorem ints_mem {xs : List Int} {n : Nat} {lo hi : Int} (hl : xs.length = n) (h : ∀ v, v < n → lo ≤ ge xs v ∧ ge xs v ≤ hi) (h1 : -9223372036854775808 ≤ lo) (h2 : hi ≤ 9223372036854775807) : ∀ x ∈ xs, -9223372036854775808 ≤ x ∧ x ≤ 9223372036854775807 := by
  intro x hx
  obtain ⟨i, hi', rfl⟩ := List.mem_iff_getElem.1 hx
  have := h i (by omega)
  rw [ge_eq xs hi'] at this
  omega
theorem own_intsG {w : World} {B : Nat} {rs : List Row} {k n c : Nat} {pl : Option Addr} {xs : List Int} (h : Owns w B rs) (hk : rs[k]? = some (lR (.slice pl n c) n xs)) (hl : xs.length = n)
    (hm : n ≤ 100000) (hw : ∀ x ∈ xs, -9223372036854775808 ≤ x ∧ x ≤ 9223372036854775807) : Ints w pl xs := by
  rcases (h.get hk).2 with ⟨g1, g2⟩ | ⟨g, cap, g1, g2, g3, g4, g5, g6, g7⟩
  · have : xs = [] := List.eq_nil_of_length_eq_zero (by omega)
    subst this
    exact Ints.nil _ _
  · simp only [Value.slice.injEq, true_and] at g1
    obtain ⟨rfl, _⟩ := g1
    refine ⟨by omega, hw, g, 0, fun _ => ⟨rfl, g3⟩, fun i hi => ?_⟩
    rw [Nat.zero_add]
    exact g7 i _ (intVs_get xs hi)
theorem own_some {w : World} {B : Nat} {rs : List Row} {k n c : Nat} {pl : Option Addr} {xs : List Int} (h : Owns w B rs) (hk : rs[k]? = some (lR (.slice pl n c) n xs)) (h0 : 0 < n) : ∃ g, pl = some ⟨g, 0, none⟩ ∧ B ≤ g ∧ g < w.heap.size := by
  obtain ⟨g, c', h1, h2, h3, _⟩ := h.some hk h0
  simp only [Value.slice.injEq] at h1
  exact ⟨g, h1.1, h2, h3⟩

theorem own_form {w : World} {B : Nat} {rs : List Row} {k sz n : Nat} {v : Value} {e : TypeId} {vs : List Value} (h : Owns w B rs) (hk : rs[k]? = some ⟨v, e, sz, n, vs⟩) : ∃ p c, v = .slice p n c := by
  rcases (h.get hk).2 with ⟨g1, g2⟩ | ⟨g, cap, g1, _⟩
  · exact ⟨none, 0, by rw [g1, g2]⟩
  · exact ⟨_, _, g1⟩
theorem own_nil {w : World} {B : Nat} {rs : List Row} {k n c sz : Nat} {e : TypeId} {vs : List Value} {pl : Option Addr} (h : Owns w B rs) (hk : rs[k]? = some ⟨.slice pl n c, e, sz, n, vs⟩) : pl = none → n = 0 ∧ c = 0 := by
  intro hp
  subst hp
  rcases (h.get hk).2 with ⟨g1, g2⟩ | ⟨g, cap, g1, _⟩
  · simp only [Value.slice.injEq, true_and] at g1
    exact ⟨g2, g1.2⟩
  · simp only [Value.slice.injEq] at g1
    cases g1.1
theorem cell_lt {w : World} {b i : Nat} {v : Value} (h : w.cell? ⟨b, i, none⟩ = some v) : b < w.heap.size := by
  rcases Nat.lt_or_ge b w.heap.size with h' | h'
  · exact h'
  · exfalso
    simp only [World.cell?] at h
    rw [Array.getElem?_eq_none h'] at h
    cases h
end Go.Proofs.Ytgodoeefgmfpfaa
