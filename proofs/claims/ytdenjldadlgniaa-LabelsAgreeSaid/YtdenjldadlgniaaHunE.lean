/- The memory of the Hungarian method. -/
import Derived.Test.YtdenjldadlgniaaHunD
import Derived.Test.YtdenjldadlgniaaMem
import Derived.Test.YtdenjldadlgniaaHeld
import Derived.Laws.MakeOwn
set_option linter.unusedSimpArgs false
set_option linter.unusedVariables false
namespace Go.Proofs.Ytdenjldadlgniaa
open Go.RowKit

theorem Try.infoInt : (Try.prog.info? 3).map (fun i => (i.zero, i.size, i.bytes)) = some (some (.int .i64 0), 1, 8) := by kernel_rfl
theorem Try.infoBool : (Try.prog.info? 4).map (fun i => (i.zero, i.size, i.bytes)) = some (some (.bool false), 1, 1) := by kernel_rfl
theorem Try.infoInts : (Try.prog.info? 24).map (fun i => (i.zero, i.size, i.bytes)) = some (some (.slice none 0 0), 1, 24) := by kernel_rfl

def intVs (xs : List Int) : List Value := xs.map (Value.int .i64)
def natVs (xs : List Nat) : List Value := xs.map fun x : Nat => Value.int .i64 (x : Int)
def boolVs (xs : List Bool) : List Value := xs.map Value.bool
theorem intVs_length (xs : List Int) : (intVs xs).length = xs.length := by simp [intVs]
theorem intVs_get (xs : List Int) {i : Nat} (h : i < xs.length) : (intVs xs)[i]? = some (.int .i64 (ge xs i)) := by
  unfold intVs
  rw [List.getElem?_map, List.getElem?_eq_getElem h, ge_eq xs h]
  rfl
theorem natVs_get (xs : List Nat) {i : Nat} (h : i < xs.length) : (natVs xs)[i]? = some (.int .i64 (gn xs i : Int)) := by
  unfold natVs
  rw [List.getElem?_map, List.getElem?_eq_getElem h, gn_eq xs h]
  rfl
def gb (xs : List Bool) (i : Nat) : Bool := xs.getD i false
theorem gb_eq (xs : List Bool) {i : Nat} (h : i < xs.length) : gb xs i = xs[i] := by simp [gb, h]
theorem boolVs_get (xs : List Bool) {i : Nat} (h : i < xs.length) : (boolVs xs)[i]? = some (.bool (gb xs i)) := by
  unfold boolVs
  rw [List.getElem?_map, List.getElem?_eq_getElem h, gb_eq xs h]
  rfl
theorem gb_set (xs : List Bool) {i : Nat} (h : i < xs.length) (x : Bool) (j : Nat) : gb (xs.set i x) j = if j = i then x else gb xs j := by
  unfold gb
  rw [List.getD_eq_getElem?_getD, List.getD_eq_getElem?_getD, List.getElem?_set]
  by_cases e : i = j
  · subst e
    simp [h]
  · rw [if_neg e, if_neg (Ne.symm e)]
abbrev rI (g n : Nat) (xs : List Int) : Row := ⟨.slice (some ⟨g, 0, none⟩) n n, 3, 1, n, intVs xs⟩
abbrev rN (g n : Nat) (xs : List Nat) : Row := ⟨.slice (some ⟨g, 0, none⟩) n n, 3, 1, n, natVs xs⟩
abbrev rB (g n : Nat) (xs : List Bool) : Row := ⟨.slice (some ⟨g, 0, none⟩) n n, 4, 1, n, boolVs xs⟩

theorem own_blk {w : World} {B : Nat} {rs : List Row} (h : Owns w B rs) {j g n c : Nat} {e : TypeId} {vs : List Value} (hk : rs[j]? = some ⟨.slice (some ⟨g, 0, none⟩) n c, e, 1, n, vs⟩) :
    vs.length = n ∧ B ≤ g ∧ g < w.heap.size ∧ (∀ i, w.frozen? ⟨g, i, none⟩ = false) ∧ ∀ i u, vs[i]? = some u → w.cell? ⟨g, i, none⟩ = some u := by
  obtain ⟨h1, h2⟩ := h.get hk
  rcases h2 with ⟨h2, _⟩ | ⟨g', cap, hv, h3, h4, _, _, h5, h6⟩
  · cases h2
  · have hg : g' = g := by
      simp only [Value.slice.injEq, Option.some.injEq, Addr.mk.injEq] at hv
      exact hv.1.1.symm
    subst hg
    exact ⟨by rw [h1]; simp, h3, h4, h5, h6⟩
theorem own_lt {w : World} {B : Nat} {rs : List Row} (h : Owns w B rs) {j g n c : Nat} {e : TypeId} {vs : List Value} (hk : rs[j]? = some ⟨.slice (some ⟨g, 0, none⟩) n c, e, 1, n, vs⟩) : g < w.heap.size := (own_blk h hk).2.2.1
theorem own_fr {w : World} {B : Nat} {rs : List Row} (h : Owns w B rs) {j g n c : Nat} {e : TypeId} {vs : List Value} (hk : rs[j]? = some ⟨.slice (some ⟨g, 0, none⟩) n c, e, 1, n, vs⟩) (i : Nat) : w.frozen? ⟨g, i, none⟩ = false := (own_blk h hk).2.2.2.1 i
theorem own_atI {w : World} {B : Nat} {rs : List Row} (h : Owns w B rs) {j g n : Nat} {xs : List Int} (hk : rs[j]? = some (rI g n xs)) {i : Nat} (hi : i < n) : w.cell? ⟨g, i, none⟩ = some (.int .i64 (ge xs i)) := by
  obtain ⟨h1, _, _, _, h2⟩ := own_blk h hk
  rw [intVs_length] at h1
  exact h2 i _ (intVs_get xs (by omega))
theorem own_atN {w : World} {B : Nat} {rs : List Row} (h : Owns w B rs) {j g n : Nat} {xs : List Nat} (hk : rs[j]? = some (rN g n xs)) {i : Nat} (hi : i < n) : w.cell? ⟨g, i, none⟩ = some (.int .i64 (gn xs i : Int)) := by
  obtain ⟨h1, _, _, _, h2⟩ := own_blk h hk
  have : (natVs xs).length = xs.length := by simp [natVs]
  exact h2 i _ (natVs_get xs (by omega))
theorem own_atB {w : World} {B : Nat} {rs : List Row} (h : Owns w B rs) {j g n : Nat} {xs : List Bool} (hk : rs[j]? = some (rB g n xs)) {i : Nat} (hi : i < n) : w.cell? ⟨g, i, none⟩ = some (.bool (gb xs i)) := by
  obtain ⟨h1, _, _, _, h2⟩ := own_blk h hk
  have : (boolVs xs).length = xs.length := by simp [boolVs]
  exact h2 i _ (boolVs_get xs (by omega))
theorem own_setI {w : World} {B : Nat} {rs : List Row} (h : Owns w B rs) {j g n : Nat} {xs : List Int} (hk : rs[j]? = some (rI g n xs)) (i : Nat) (x : Int) : Owns (w.setCell ⟨g, i, none⟩ (.int .i64 x)) B (rs.set j (rI g n (xs.set i x))) := by
  have := h.set hk i (.int .i64 x)
  have e : (intVs xs).set i (.int .i64 x) = intVs (xs.set i x) := by unfold intVs; rw [List.map_set]
  rwa [e] at this
theorem own_setN {w : World} {B : Nat} {rs : List Row} (h : Owns w B rs) {j g n : Nat} {xs : List Nat} (hk : rs[j]? = some (rN g n xs)) (i : Nat) (x : Nat) : Owns (w.setCell ⟨g, i, none⟩ (.int .i64 (x : Int))) B (rs.set j (rN g n (xs.set i x))) := by
  have := h.set hk i (.int .i64 (x : Int))
  have e : (natVs xs).set i (.int .i64 (x : Int)) = natVs (xs.set i x) := by unfold natVs; rw [List.map_set]
  rwa [e] at this
theorem own_setB {w : World} {B : Nat} {rs : List Row} (h : Owns w B rs) {j g n : Nat} {xs : List Bool} (hk : rs[j]? = some (rB g n xs)) (i : Nat) (x : Bool) : Owns (w.setCell ⟨g, i, none⟩ (.bool x)) B (rs.set j (rB g n (xs.set i x))) := by
  have := h.set hk i (.bool x)
  have e : (boolVs xs).set i (.bool x) = boolVs (xs.set i x) := by unfold boolVs; rw [List.map_set]
  rwa [e] at this

/-- Before a phase: the potentials and the rows of the columns. -/
abbrev hmA (N K g5 g6 g7 : Nat) (u v : List Int) (row : List Nat) : List Row := [rI g5 N u, rI g6 K v, rN g7 K row]
/-- In a phase. -/
abbrev hmB (N K g5 g6 g7 g10 g11 g12 : Nat) (u v : List Int) (row : List Nat) (dist : List Int) (way : List Nat) (used : List Bool) : List Row :=
  [rI g5 N u, rI g6 K v, rN g7 K row, rI g10 K dist, rN g11 K way, rB g12 K used]

theorem ones_rep (z : Value) (n : Nat) : madeCells #[z] n = Array.replicate n z := by
  rw [← Array.toArray_toList (xs := madeCells #[z] n), toList_madeCells_one]
  simp
theorem make_ints (n : Nat) (hn : n ≤ 1000) (W : World) : (Instr.makeSlice 24 (.int .i64 n) (.int .i64 n)).run Try.prog W = .ok (.slice (some ⟨W.heap.size, 0, none⟩) n n) (W.alloc (.cells (Array.replicate n (.int .i64 0)) 3)) := by
  obtain ⟨i0, hi, hz0, hz1, hz2⟩ := info_parts Try.infoInt
  have h := run_make (P := Try.prog) W 24 3 i0 (.int .i64 0) Try.underlying24 hi hz0 .i64 .i64 (n : Int) (n : Int) (by omega) (by omega) (by rw [hz2]; omega) (by omega)
  rw [hz1, show (Value.int .i64 0).cells = #[.int .i64 0] from rfl, Int.toNat_natCast, Nat.mul_one, ones_rep] at h
  exact h
theorem make_bools (n : Nat) (hn : n ≤ 1000) (W : World) : (Instr.makeSlice 71 (.int .i64 n) (.int .i64 n)).run Try.prog W = .ok (.slice (some ⟨W.heap.size, 0, none⟩) n n) (W.alloc (.cells (Array.replicate n (.bool false)) 4)) := by
  obtain ⟨i0, hi, hz0, hz1, hz2⟩ := info_parts Try.infoBool
  have h := run_make (P := Try.prog) W 71 4 i0 (.bool false) Try.underlying71 hi hz0 .i64 .i64 (n : Int) (n : Int) (by omega) (by omega) (by rw [hz2]; omega) (by omega)
  rw [hz1, show (Value.bool false).cells = #[.bool false] from rfl, Int.toNat_natCast, Nat.mul_one, ones_rep] at h
  exact h
/-- A new row of zeros. -/
theorem own_newI {w : World} {B : Nat} {rs : List Row} (h : Owns w B rs) (hB : B ≤ w.heap.size) (n g : Nat) (hn : n ≤ 1000) (hg : g = w.heap.size) :
    Owns (w.alloc (.cells (Array.replicate n (.int .i64 0)) 3)) B (rI g n (List.replicate n 0) :: rs) := by
  have h1 := h.made hB (Array.replicate n (.int .i64 0)) 3 1 n g (by simp) (by simp only [maxLen]; omega) hg
  rw [Array.toList_replicate] at h1
  have e : intVs (List.replicate n 0) = List.replicate n (.int .i64 0) := by simp [intVs]
  unfold rI
  rw [e]
  exact h1
theorem own_newB {w : World} {B : Nat} {rs : List Row} (h : Owns w B rs) (hB : B ≤ w.heap.size) (n g : Nat) (hn : n ≤ 1000) (hg : g = w.heap.size) :
    Owns (w.alloc (.cells (Array.replicate n (.bool false)) 4)) B (rB g n (List.replicate n false) :: rs) := by
  have h1 := h.made hB (Array.replicate n (.bool false)) 4 1 n g (by simp) (by simp only [maxLen]; omega) hg
  rw [Array.toList_replicate] at h1
  have e : boolVs (List.replicate n false) = List.replicate n (.bool false) := by simp [boolVs]
  unfold rB
  rw [e]
  exact h1
theorem nat_zeros (n : Nat) : natVs (List.replicate n 0) = intVs (List.replicate n 0) := by simp [natVs, intVs]
theorem rN_zeros (g n m : Nat) : rI g n (List.replicate m 0) = rN g n (List.replicate m 0) := by
  unfold rI rN
  rw [nat_zeros]
/-- The first rows: made in either order. -/
theorem own_two {w : World} {B : Nat} (hB : B ≤ w.heap.size) (a c : Nat) (ha : a ≤ 1000) (hc : c ≤ 1000) :
    Owns ((w.alloc (.cells (Array.replicate a (.int .i64 0)) 3)).alloc (.cells (Array.replicate c (.int .i64 0)) 3)) B [rI w.heap.size a (List.replicate a 0), rI (w.heap.size + 1) c (List.replicate c 0)] ∧
    Owns ((w.alloc (.cells (Array.replicate c (.int .i64 0)) 3)).alloc (.cells (Array.replicate a (.int .i64 0)) 3)) B [rI (w.heap.size + 1) a (List.replicate a 0), rI w.heap.size c (List.replicate c 0)] := by
  refine ⟨?_, own_newI (own_newI (Owns.nil w B) hB c _ hc rfl) (by simp; omega) a _ ha (by simp)⟩
  exact (own_newI (own_newI (Owns.nil w B) hB a _ ha rfl) (by simp; omega) c _ hc (by simp)).perm (List.Perm.swap _ _ _)
/-- A column's rows of a phase: made in any order. -/
theorem own_iib {w : World} {B : Nat} {rs : List Row} (h : Owns w B rs) (hB : B ≤ w.heap.size) (n : Nat) (hn : n ≤ 1000) :
    Owns (((w.alloc (.cells (Array.replicate n (.int .i64 0)) 3)).alloc (.cells (Array.replicate n (.int .i64 0)) 3)).alloc (.cells (Array.replicate n (.bool false)) 4)) B
      (rB (w.heap.size + 1 + 1) n (List.replicate n false) :: rI (w.heap.size + 1) n (List.replicate n 0) :: rI w.heap.size n (List.replicate n 0) :: rs) :=
  own_newB (own_newI (own_newI h hB n _ hn rfl) (by simp; omega) n _ hn (by simp)) (by simp; omega) n _ hn (by simp)
theorem own_ibi {w : World} {B : Nat} {rs : List Row} (h : Owns w B rs) (hB : B ≤ w.heap.size) (n : Nat) (hn : n ≤ 1000) :
    Owns (((w.alloc (.cells (Array.replicate n (.int .i64 0)) 3)).alloc (.cells (Array.replicate n (.bool false)) 4)).alloc (.cells (Array.replicate n (.int .i64 0)) 3)) B
      (rI (w.heap.size + 1 + 1) n (List.replicate n 0) :: rB (w.heap.size + 1) n (List.replicate n false) :: rI w.heap.size n (List.replicate n 0) :: rs) :=
  own_newI (own_newB (own_newI h hB n _ hn rfl) (by simp; omega) n _ hn (by simp)) (by simp; omega) n _ hn (by simp)
theorem own_bii {w : World} {B : Nat} {rs : List Row} (h : Owns w B rs) (hB : B ≤ w.heap.size) (n : Nat) (hn : n ≤ 1000) :
    Owns (((w.alloc (.cells (Array.replicate n (.bool false)) 4)).alloc (.cells (Array.replicate n (.int .i64 0)) 3)).alloc (.cells (Array.replicate n (.int .i64 0)) 3)) B
      (rI (w.heap.size + 1 + 1) n (List.replicate n 0) :: rI (w.heap.size + 1) n (List.replicate n 0) :: rB w.heap.size n (List.replicate n false) :: rs) :=
  own_newI (own_newI (own_newB h hB n _ hn rfl) (by simp; omega) n _ hn (by simp)) (by simp; omega) n _ hn (by simp)
theorem perm3 {a b c : Row} {rs : List Row} {n : Nat} {x y z : Row} (h : [x, y, z].Perm [a, b, c]) : (x :: y :: z :: rs).Perm (rs ++ [a, b, c]) := by
  show ([x, y, z] ++ rs).Perm _
  exact (h.append_right rs).trans List.perm_append_comm
end Go.Proofs.Ytdenjldadlgniaa
