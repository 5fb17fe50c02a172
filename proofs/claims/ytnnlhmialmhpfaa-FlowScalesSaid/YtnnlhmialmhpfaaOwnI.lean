/- Rows of ints in memory of the call's own. -/
import Derived.Test.YtnnlhmialmhpfaaInts
import Derived.Test.YtnnlhmialmhpfaaMem
import Derived.Test.YtnnlhmialmhpfaaHeld
import Derived.Laws.MakeOwn
set_option linter.unusedSimpArgs false
set_option linter.unusedVariables false
namespace Go.Proofs.Ytnnlhmialmhpfaa
open Go.RowKit

theorem Try.infoInt : (Try.prog.info? 3).map (fun i => (i.zero, i.size, i.bytes)) = some (some (.int .i64 0), 1, 8) := by kernel_rfl
def intVs (xs : List Int) : List Value := xs.map (Value.int .i64)
def natVs (xs : List Nat) : List Value := xs.map fun x : Nat => Value.int .i64 (x : Int)
theorem intVs_length (xs : List Int) : (intVs xs).length = xs.length := by simp [intVs]
theorem intVs_get (xs : List Int) {i : Nat} (h : i < xs.length) : (intVs xs)[i]? = some (.int .i64 (ge xs i)) := by
  unfold intVs
  rw [List.getElem?_map, List.getElem?_eq_getElem h, ge_eq xs h]
  rfl
theorem natVs_get (xs : List Nat) {i : Nat} (h : i < xs.length) : (natVs xs)[i]? = some (.int .i64 (gn xs i : Int)) := by
  unfold natVs
  rw [List.getElem?_map, List.getElem?_eq_getElem h, gn_eq xs h]
  rfl
abbrev rI (g n : Nat) (xs : List Int) : Row := ⟨.slice (some ⟨g, 0, none⟩) n n, 3, 1, n, intVs xs⟩
abbrev rN (g n : Nat) (xs : List Nat) : Row := ⟨.slice (some ⟨g, 0, none⟩) n n, 3, 1, n, natVs xs⟩
theorem own_blk {w : World} {B : Nat} {rs : List Row} (h : Owns w B rs) {j g n c : Nat} {e : TypeId} {vs : List Value} (hk : rs[j]? = some ⟨.slice (some ⟨g, 0, none⟩) n c, e, 1, n, vs⟩) :
    vs.length = n ∧ B ≤ g ∧ g < w.heap.size ∧ (∀ i, w.frozen? ⟨g, i, none⟩ = false) ∧ ∀ i u, vs[i]? = some u → w.cell? ⟨g, i, none⟩ = some u := by
  obtain ⟨h1, h2⟩ := h.get hk
  rcases h2 with ⟨h2, _⟩ | ⟨g', cap, hv, h3, h4, _, _, h5, h6⟩
  · cases h2
  · have hg : g' = g := by
      simp only [Value.slice.injEq, Option.some.injEq, Addr.mk.injEq] at hv
      exact hv.1.1.symm
    subst hg
    exact ⟨by rw [h1]; simp, h3, h4, h5, h6⟩
theorem own_lt {w : World} {B : Nat} {rs : List Row} (h : Owns w B rs) {j g n c : Nat} {e : TypeId} {vs : List Value} (hk : rs[j]? = some ⟨.slice (some ⟨g, 0, none⟩) n c, e, 1, n, vs⟩) : g < w.heap.size := (own_blk h hk).2.2.1
theorem own_fr {w : World} {B : Nat} {rs : List Row} (h : Owns w B rs) {j g n c : Nat} {e : TypeId} {vs : List Value} (hk : rs[j]? = some ⟨.slice (some ⟨g, 0, none⟩) n c, e, 1, n, vs⟩) (i : Nat) : w.frozen? ⟨g, i, none⟩ = false := (own_blk h hk).2.2.2.1 i
theorem own_atI {w : World} {B : Nat} {rs : List Row} (h : Owns w B rs) {j g n : Nat} {xs : List Int} (hk : rs[j]? = some (rI g n xs)) {i : Nat} (hi : i < n) : w.cell? ⟨g, i, none⟩ = some (.int .i64 (ge xs i)) := by
  obtain ⟨h1, _, _, _, h2⟩ := own_blk h hk
  rw [intVs_length] at h1
  exact h2 i _ (intVs_get xs (by omega))
theorem own_atN {w : World} {B : Nat} {rs : List Row} (h : Owns w B rs) {j g n : Nat} {xs : List Nat} (hk : rs[j]? = some (rN g n xs)) {i : Nat} (hi : i < n) : w.cell? ⟨g, i, none⟩ = some (.int .i64 (gn xs i : Int)) := by
  obtain ⟨h1, _, _, _, h2⟩ := own_blk h hk
  have : (natVs xs).length = xs.length := by simp [natVs]
  exact h2 i _ (natVs_get xs (by omega))
theorem own_setI {w : World} {B : Nat} {rs : List Row} (h : Owns w B rs) {j g n : Nat} {xs : List Int} (hk : rs[j]? = some (rI g n xs)) (i : Nat) (x : Int) : Owns (w.setCell ⟨g, i, none⟩ (.int .i64 x)) B (rs.set j (rI g n (xs.set i x))) := by
  have := h.set hk i (.int .i64 x)
  have e : (intVs xs).set i (.int .i64 x) = intVs (xs.set i x) := by unfold intVs; rw [List.map_set]
  rwa [e] at this
theorem own_setN {w : World} {B : Nat} {rs : List Row} (h : Owns w B rs) {j g n : Nat} {xs : List Nat} (hk : rs[j]? = some (rN g n xs)) (i : Nat) (x : Nat) : Owns (w.setCell ⟨g, i, none⟩ (.int .i64 (x : Int))) B (rs.set j (rN g n (xs.set i x))) := by
  have := h.set hk i (.int .i64 (x : Int))
  have e : (natVs xs).set i (.int .i64 (x : Int)) = natVs (xs.set i x) := by unfold natVs; rw [List.map_set]
  rwa [e] at this
theorem ones_rep (z : Value) (n : Nat) : madeCells #[z] n = Array.replicate n z := by
  rw [← Array.toArray_toList (xs := madeCells #[z] n), toList_madeCells_one]
  simp
theorem make_ints (n : Nat) (hn : n ≤ 100000) (W : World) : (Instr.makeSlice 22 (.int .i64 n) (.int .i64 n)).run Try.prog W = .ok (.slice (some ⟨W.heap.size, 0, none⟩) n n) (W.alloc (.cells (Array.replicate n (.int .i64 0)) 3)) := by
  obtain ⟨i0, hi, hz0, hz1, hz2⟩ := info_parts Try.infoInt
  have h := run_make (P := Try.prog) W 22 3 i0 (.int .i64 0) Try.underlying22 hi hz0 .i64 .i64 (n : Int) (n : Int) (by omega) (by omega) (by rw [hz2]; omega) (by omega)
  rw [hz1, show (Value.int .i64 0).cells = #[.int .i64 0] from rfl, Int.toNat_natCast, Nat.mul_one, ones_rep] at h
  exact h
theorem own_newI {w : World} {B : Nat} {rs : List Row} (h : Owns w B rs) (hB : B ≤ w.heap.size) (n g : Nat) (hn : n ≤ 100000) (hg : g = w.heap.size) :
    Owns (w.alloc (.cells (Array.replicate n (.int .i64 0)) 3)) B (rI g n (List.replicate n 0) :: rs) := by
  have h1 := h.made hB (Array.replicate n (.int .i64 0)) 3 1 n g (by simp) (by simp only [maxLen]; omega) hg
  rw [Array.toList_replicate] at h1
  have e : intVs (List.replicate n 0) = List.replicate n (.int .i64 0) := by simp [intVs]
  unfold rI
  rw [e]
  exact h1
theorem nat_zeros (n : Nat) : natVs (List.replicate n 0) = intVs (List.replicate n 0) := by simp [natVs, intVs]
theorem rN_zeros (g n m : Nat) : rI g n (List.replicate m 0) = rN g n (List.replicate m 0) := by
  unfold rI rN
  rw [nat_zeros]
theorem perm3 {a b c : Row} {rs : List Row} {n : Nat} {x y z : Row} (h : [x, y, z].Perm [a, b, c]) : (x :: y :: z :: rs).Perm (rs ++ [a, b, c]) := by
  show ([x, y, z] ++ rs).Perm _
  exact (h.append_right rs).trans List.perm_append_comm

theorem intVs_one (xs : List Int) : ∀ u ∈ intVs xs, u.oneCell' = true := by
  intro u hu
  obtain ⟨y, _, rfl⟩ := List.mem_map.1 hu
  rfl
theorem Ints.news {w : World} {ad : Addr} {xs : List Int} (h : Ints w (some ad) xs) : ∀ b, some ad = some b → ∀ j u, (intVs xs)[j]? = some u → w.cell? (b.add j) = some u := by
  intro b hb j u hj
  cases hb
  obtain ⟨_, _, b, o', h3, h4⟩ := h
  have hjl : j < xs.length := by
    have := (List.getElem?_eq_some_iff.1 hj).1
    rwa [intVs_length] at this
  rw [intVs_get xs hjl] at hj
  cases hj
  have hp := (h3 (by omega)).1
  cases hp
  rw [Addr.add_lit, h4 j hjl]
theorem own_ints {w : World} {B : Nat} {rs : List Row} {k q n c : Nat} {xs : List Int} (h : Owns w B rs) (hk : rs[k]? = some ⟨.slice (some ⟨q, 0, none⟩) n c, 3, 1, n, intVs xs⟩) (hl : xs.length = n)
    (hm : n ≤ 100000) (hw : ∀ x ∈ xs, -9223372036854775808 ≤ x ∧ x ≤ 9223372036854775807) : Ints w (some ⟨q, 0, none⟩) xs := by
  refine ⟨by omega, hw, q, 0, fun _ => ⟨rfl, own_lt h hk⟩, fun i hi => ?_⟩
  rw [Nat.zero_add]
  exact (own_blk h hk).2.2.2.2 i _ (intVs_get xs hi)

theorem own_join {w w' : World} {B : Nat} {r : Row} {rs : List Row} (h : Owns w B rs) (hg : Grew w w') (hr : Owns w' w.heap.size [r]) (hB : B ≤ w.heap.size) : Owns w' B (r :: rs) := by
  refine (h.grew hg).cons (ownsRow_base hr.head hB) (fun k x hk g h1 h2 => ?_)
  have e1 := (hr.head.lt g h1).1
  have e2 := ((h.1 k x hk).lt g h2).2
  omega

theorem Ints.newsO {w : World} {q : Option Addr} {xs : List Int} (h : Ints w q xs) : ∀ b, q = some b → ∀ j u, (intVs xs)[j]? = some u → w.cell? (b.add j) = some u := by
  cases q with
  | none => intro b h; cases h
  | some ad => exact h.news
abbrev rC (g n c : Nat) (xs : List Int) : Row := ⟨.slice (some ⟨g, 0, none⟩) n c, 3, 1, n, intVs xs⟩
theorem own_atC {w : World} {B : Nat} {rs : List Row} (h : Owns w B rs) {j g n c : Nat} {xs : List Int} (hk : rs[j]? = some (rC g n c xs)) {i : Nat} (hi : i < xs.length) : w.cell? ⟨g, i, none⟩ = some (.int .i64 (ge xs i)) :=
  (own_blk h hk).2.2.2.2 i _ (intVs_get xs hi)
theorem own_setC {w : World} {B : Nat} {rs : List Row} (h : Owns w B rs) {j g n c : Nat} {xs : List Int} (hk : rs[j]? = some (rC g n c xs)) (i : Nat) (x : Int) : Owns (w.setCell ⟨g, i, none⟩ (.int .i64 x)) B (rs.set j (rC g n c (xs.set i x))) := by
  have := h.set hk i (.int .i64 x)
  have e : (intVs xs).set i (.int .i64 x) = intVs (xs.set i x) := by unfold intVs; rw [List.map_set]
  rwa [e] at this
/-- A row that came in as a value: nil, or in a block of its own. -/
theorem own_shape {w : World} {B : Nat} {v : Value} {n : Nat} {xs : List Int} (h : Owns w B [⟨v, 3, 1, n, intVs xs⟩]) : (v = .slice none 0 0 ∧ n = 0) ∨ ∃ g c, v = .slice (some ⟨g, 0, none⟩) n c ∧ B ≤ g ∧ g < w.heap.size ∧ n ≤ c := by
  rcases (h.get (k := 0) rfl).2 with ⟨g1, g2⟩ | ⟨g, cap, g1, g2, g3, g4, _⟩
  · exact Or.inl ⟨g1, g2⟩
  · exact Or.inr ⟨g, cap, g1, g2, g3, g4⟩

set_option maxHeartbeats 2000000 in
theorem clone_g (p : Option Addr) (K cap : Nat) (xs : List Int) (w : World) (hI : Ints w p xs) (hn : xs.length = K) (hK : K ≤ 4096) (hnil : p = none → K = 0 ∧ cap = 0) :
    Calls Try.prog 23 #[.slice p K cap] w fun e w' => Grew w w' ∧ ∃ v, e = .returned v ∧ Owns w' w.heap.size [⟨v, 3, 1, K, intVs xs⟩] := by
  cases p with
  | none =>
    obtain ⟨rfl, rfl⟩ := hnil rfl
    have e : xs = [] := List.eq_nil_of_length_eq_zero hn
    subst e
    have heq := fun W => Lib.run_eql_slice_nil (P := Try.prog) W 22 3 none 0 0 0 0 Try.underlying22
    go_enter Try.func23, Try.ntmps23
    go_wp2
    go_ret
    exact ⟨by (repeat (first | exact Grew.refl _ | refine Grew.over ?_ _ | refine Grew.alloc ?_ _ | refine Grew.drew ?_ | refine Grew.drewN ?_ _)), _, rfl, (Owns.nil _ _).none _ _⟩
  | some ad =>
    obtain ⟨b, o, t⟩ := ad
    have ht : 0 < K → t = none ∧ True := fun h0 => by
      obtain ⟨_, _, b', o', h3, _⟩ := hI
      have := (h3 (by omega)).1
      cases this
      exact ⟨rfl, trivial⟩
    have heq := fun W => Lib.run_eql_slice_nil (P := Try.prog) W 22 3 (some ⟨b, o, t⟩) K cap 0 0 Try.underlying22
    have HI := Lib.hid hI
    have Hn := Lib.hid hn
    clear hI hn hnil ht
    go_enter Try.func23, Try.ntmps23
    go_wp2_with (at_builtin; refine wp_append_owns rfl _ _ 22 rfl 3 1 8 (.int .i64 0) Try.underlying22 Try.infoInt rfl (by decide) w.heap.size _ 0 _ _ _ ((Owns.nil w w.heap.size).made (Nat.le_refl _) #[] 3 1 0 w.heap.size rfl (by decide) rfl) rfl rfl _ _ _ rfl (intVs xs) (by rw [intVs_length, Hn.out, Nat.mul_one]) (fun h => by cases h) ((HI.out.grew (by (repeat (first | exact Grew.refl _ | refine Grew.over ?_ _ | refine Grew.alloc ?_ _ | refine Grew.drew ?_ | refine Grew.drewN ?_ _)))).news) (intVs_one _) (by simp only [maxLen]; omega) (by omega) (by first | rfl | omega | (simp <;> omega)) ?_; intro v1 w1 hO1 hg1 hb1 _; have Hg1 := Lib.hid (Grew.grownBy (w0 := w) (by (repeat (first | exact Grew.refl _ | refine Grew.over ?_ _ | refine Grew.alloc ?_ _ | refine Grew.drew ?_ | refine Grew.drewN ?_ _))) hg1 hb1); have HO1 := Lib.hid hO1; clear hO1 hg1 hb1)
    go_ret
    have h := HO1.out
    simp only [List.set_cons_zero, Nat.zero_add, List.nil_append] at h
    exact ⟨Hg1.out, _, rfl, h⟩
end Go.Proofs.Ytnnlhmialmhpfaa
