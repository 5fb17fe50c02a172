/- Lists of neighbours in memory of the call's own. -/
import Derived.Test.YtgodoeefgmfpfaaFoC
import Derived.Test.YtgodoeefgmfpfaaRep
set_option linter.unusedSimpArgs false
set_option linter.unusedVariables false
namespace Go.Proofs.Ytgodoeefgmfpfaa
open Go.RowKit
attribute [local go_sem ↓] Go.wp_at_zero Go.wp_at_succ

theorem Try.infoInts : (Try.prog.info? 22).map (fun i => (i.zero, i.size, i.bytes)) = some (some (.slice none 0 0), 1, 24) := by kernel_rfl
theorem mk_rows (n : Nat) (hn : n ≤ 100000) (W : World) : (Instr.makeSlice 50 (.int .i64 n) (.int .i64 n)).run Try.prog W = .ok (.slice (some ⟨W.heap.size, 0, none⟩) n n) (W.alloc (.cells (Array.replicate n (.slice none 0 0)) 22)) := by
  obtain ⟨i0, hi, hz0, hz1, hz2⟩ := info_parts Try.infoInts
  have h := run_make (P := Try.prog) W 50 22 i0 (.slice none 0 0) Try.underlying50 hi hz0 .i64 .i64 (n : Int) (n : Int) (by omega) (by omega) (by rw [hz2]; omega) (by omega)
  rw [hz1, show (Value.slice none 0 0).cells = #[.slice none 0 0] from rfl, Int.toNat_natCast, Nat.mul_one, ones_rep] at h
  exact h
abbrev tbR (g N : Nat) (vals : List Value) : Row := ⟨.slice (some ⟨g, 0, none⟩) N N, 22, 1, N, vals⟩
def mRow (v : Value) (xs : List Int) : Row := ⟨v, 3, 1, xs.length, intVs xs⟩
def mRows (vals : List Value) (M : List (List Int)) : List Row := List.zipWith mRow vals M
theorem mRows_get {vals : List Value} {M : List (List Int)} {u : Nat} {v : Value} (hv : vals[u]? = some v) (hu : u < M.length) : (mRows vals M)[u]? = some (mRow v (rowOf M u)) := by
  unfold mRows
  rw [List.getElem?_zipWith, hv, List.getElem?_eq_getElem hu, rowOf_eq M hu]
theorem mRows_set {vals : List Value} {M : List (List Int)} {u : Nat} (v : Value) (xs : List Int) : mRows (vals.set u v) (M.set u xs) = (mRows vals M).set u (mRow v xs) := by
  unfold mRows
  apply List.ext_getElem?
  intro i
  rw [List.getElem?_zipWith, List.getElem?_set, List.getElem?_set, List.getElem?_set, List.getElem?_zipWith, List.length_zipWith]
  by_cases h : u = i
  · subst h
    rw [if_pos rfl, if_pos rfl, if_pos rfl]
    by_cases h1 : u < vals.length <;> by_cases h2 : u < M.length <;> simp [h1, h2, Nat.lt_min]
  · rw [if_neg h, if_neg h, if_neg h]
theorem own_nils {w : World} {B : Nat} {rs : List Row} (h : Owns w B rs) : ∀ n, Owns w B (mRows (List.replicate n (.slice none 0 0)) (List.replicate n []) ++ rs)
  | 0 => h
  | n + 1 => by
    have := (own_nils h n).none 3 1
    rw [List.replicate_succ, List.replicate_succ]
    exact this
theorem rowOf_set (M : List (List Int)) {u : Nat} (hu : u < M.length) (xs : List Int) (c : Nat) : rowOf (M.set u xs) c = if c = u then xs else rowOf M c := by
  unfold rowOf
  rw [List.getD_eq_getElem?_getD, List.getD_eq_getElem?_getD, List.getElem?_set]
  by_cases e : u = c
  · subst e
    simp [hu]
  · rw [if_neg e, if_neg (Ne.symm e)]
def nL (l : List Nat) : List Int := l.map fun x : Nat => (x : Int)
theorem nL_app (a b : List Nat) : nL (a ++ b) = nL a ++ nL b := by simp [nL]
theorem nL_len (a : List Nat) : (nL a).length = a.length := by simp [nL]
theorem ge_nL {a : List Nat} {i : Nat} (h : i < a.length) : ge (nL a) i = (a.getD i 0 : Nat) := by
  rw [ge_eq _ (by rw [nL_len]; exact h)]
  simp [nL, h]
/-- The lists after k arcs. -/
structure NearOK (E : List (Int × Int)) (N k : Nat) (M : List (List Int)) : Prop where
  l : M.length = N
  r : ∀ c, c < N → rowOf M c = nL (near E c k)
theorem NearOK.begin (E : List (Int × Int)) (N : Nat) : NearOK E N 0 (List.replicate N []) := by
  refine ⟨by simp, fun c hc => ?_⟩
  unfold rowOf
  rw [List.getD_eq_getElem?_getD, List.getElem?_replicate, if_pos hc]
  rfl
theorem NearOK.step {E : List (Int × Int)} {N k : Nat} {M : List (List Int)} (h : NearOK E N k M) {f t : Nat} (hf : aF E k = f) (ht : aT E k = t) (hfN : f < N) (htN : t < N) :
    NearOK E N (k + 1) ((M.set f (rowOf M f ++ [(t : Int)])).set t (rowOf (M.set f (rowOf M f ++ [(t : Int)])) t ++ [(f : Int)])) := by
  have hl := h.l
  refine ⟨by rw [List.length_set, List.length_set]; exact hl, fun c hc => ?_⟩
  rw [rowOf_set _ (by rw [List.length_set]; omega), rowOf_set M (by omega), rowOf_set M (by omega), near_succ, nL_app, ← h.r c hc]
  unfold nearI
  rw [hf, ht]
  by_cases e1 : c = t
  · subst e1
    rw [if_pos rfl, if_pos rfl]
    by_cases e2 : c = f
    · subst e2
      rw [if_pos rfl, if_pos rfl]
      simp [nL]
    · rw [if_neg e2, if_neg (Ne.symm e2)]
      simp [nL]
  · rw [if_neg e1, if_neg (Ne.symm e1)]
    by_cases e2 : c = f
    · subst e2
      rw [if_pos rfl, if_pos rfl]
      simp [nL]
    · rw [if_neg e2, if_neg (Ne.symm e2)]
      simp [nL]
theorem near_len (E : List (Int × Int)) (c : Nat) : ∀ k, (near E c k).length ≤ 2 * k
  | 0 => by simp [near]
  | k + 1 => by
    have := near_len E c k
    rw [near_succ, List.length_append]
    unfold nearI
    split <;> split <;> simp <;> omega
/-- A store of a row's new head. -/
theorem near_store {w : World} {B g N u n : Nat} {a : Row} {vals : List Value} {M : List (List Int)} {v : Value} {xs : List Int} {x : Int} (h : Owns w B (a :: tbR g N vals :: (mRows vals M).set u ⟨v, 3, 1, n + 1, intVs xs ++ [.int .i64 x]⟩)) (hn : xs.length = n) :
    Owns (w.setCell ⟨g, u, none⟩ v) B (a :: tbR g N (vals.set u v) :: mRows (vals.set u v) (M.set u (xs ++ [x]))) := by
  have := h.set (k := 1) rfl u v
  simp only [List.set_cons_succ, List.set_cons_zero] at this
  rw [mRows_set]
  have e : mRow v (xs ++ [x]) = ⟨v, 3, 1, n + 1, intVs xs ++ [.int .i64 x]⟩ := by
    unfold mRow
    rw [List.length_append, hn]
    simp [intVs]
  rw [e]
  exact this
theorem near_mat {w : World} {B g N : Nat} {vals : List Value} {M : List (List Int)} (h : Owns w B (tbR g N vals :: mRows vals M)) (hl : M.length = N) (hN : N ≤ 1000) (hr : ∀ c, c < N → (rowOf M c).length ≤ 1000 ∧ ∀ x ∈ rowOf M c, -9223372036854775808 ≤ x ∧ x ≤ 9223372036854775807) : Mat w (some ⟨g, 0, none⟩) M := by
  obtain ⟨b1, b2, b3, _, b4⟩ := own_blk h (j := 0) rfl
  have key : ∀ u, ∃ pc : Option Addr × Nat, u < M.length → w.cell? ⟨g, 0 + u, none⟩ = some (.slice pc.1 (rowOf M u).length pc.2) ∧ Ints w pc.1 (rowOf M u) := by
    intro u
    by_cases hu : u < M.length
    · obtain ⟨v, hv⟩ : ∃ v, vals[u]? = some v := ⟨_, List.getElem?_eq_getElem (by omega)⟩
      have hk : (tbR g N vals :: mRows vals M)[u + 1]? = some (mRow v (rowOf M u)) := by
        rw [List.getElem?_cons_succ]
        exact mRows_get hv hu
      obtain ⟨p, c, rfl⟩ := own_form h hk
      refine ⟨(p, c), fun _ => ⟨by rw [Nat.zero_add]; exact b4 u _ hv, ?_⟩⟩
      exact own_intsG h hk rfl (by have := (hr u (by omega)).1; omega) (hr u (by omega)).2
    · exact ⟨(none, 0), fun h => absurd h hu⟩
  exact ⟨by omega, g, 0, fun u => (Classical.choose (key u)).1, fun u => (Classical.choose (key u)).2, fun _ => ⟨rfl, b3⟩, fun u hu => Classical.choose_spec (key u) hu⟩
theorem nL_bd (l : List Nat) {n : Nat} (h : ∀ x ∈ l, x < n) (hn : n ≤ 1000000) : ∀ x ∈ nL l, -9223372036854775808 ≤ x ∧ x ≤ 9223372036854775807 := by
  intro x hx
  obtain ⟨y, hy, rfl⟩ := List.mem_map.1 hx
  have := h y hy
  omega
/-- Which vertices have been seen. -/
structure Sn (n : Nat) (S : BS) (sb : List Bool) : Prop where
  l : sb.length = n
  v : ∀ u, u < n → gb sb u = decide (u ∈ S.O)
theorem Sn.add {n u : Nat} {S S' : BS} {sb : List Bool} (h : Sn n S sb) (hu : u < n) (e : S'.O = S.O ++ [u]) : Sn n S' (sb.set u true) := by
  refine ⟨by rw [List.length_set]; exact h.l, fun x hx => ?_⟩
  rw [gb_set sb (by rw [h.l]; exact hu), e, h.v x hx]
  by_cases g : x = u
  · subst g
    rw [if_pos rfl]
    exact (decide_eq_true (by simp)).symm
  · rw [if_neg g, decide_eq_decide]
    simp [g]
theorem Sn.same {n : Nat} {S S' : BS} {sb : List Bool} (h : Sn n S sb) (e : S'.O = S.O) : Sn n S' sb := ⟨h.l, fun x hx => by rw [e]; exact h.v x hx⟩
theorem Sn.begin (E : List (Int × Int)) (n : Nat) : Sn n (B E n 0) (List.replicate n false) := by
  refine ⟨by simp, fun u hu => ?_⟩
  unfold gb
  rw [List.getD_eq_getElem?_getD, List.getElem?_replicate, if_pos hu]
  simp [B]
theorem visit_roots (c : Nat) (S : BS) (u : Nat) : (visit c S u).roots = S.roots := by unfold visit; split <;> rfl
theorem visits_roots (c : Nat) : ∀ (ws : List Nat) (S : BS), (visits c S ws).roots = S.roots
  | [], _ => rfl
  | u :: ws, S => by
    show (visits c (visit c S u) ws).roots = _
    rw [visits_roots c ws, visit_roots]
theorem visits_take {c : Nat} {S : BS} {ws : List Nat} {j u : Nat} (h : ws[j]? = some u) : visits c S (ws.take (j + 1)) = visit c (visits c S (ws.take j)) u := by
  rw [List.take_add_one, h, visits_app]
  rfl
theorem drop_add {O : List Nat} {t u : Nat} (h : t ≤ O.length) : (O ++ [u]).drop t = O.drop t ++ [u] := by
  rw [List.drop_append_of_le_length h]
theorem drop_head {S : BS} {t : Nat} (h : t < S.O.length) : S.O.drop t = oc S t :: S.O.drop (t + 1) := by
  rw [List.drop_eq_getElem_cons h]
  unfold oc
  rw [List.getD_eq_getElem?_getD, List.getElem?_eq_getElem h]
  rfl
theorem all_len {n : Nat} {S : BS} (h : Sd n S) (ha : ∀ u, u < n → u ∈ S.O) : S.O.length = n := by
  have h1 := h.len
  have h2 := (List.nodup_range (n := n)).length_le_of_subset (fun v hv => ha v (by simpa using hv))
  simp at h2
  omega
theorem natVs_app (a b : List Nat) : natVs (a ++ b) = natVs a ++ natVs b := by simp [natVs]
theorem natVs_len (a : List Nat) : (natVs a).length = a.length := by simp [natVs]
theorem par_ints {n : Nat} {S : BS} (h : Sd n S) (hn : n ≤ 64) : ∀ x ∈ S.par, -9223372036854775808 ≤ x ∧ x ≤ 9223372036854775807 :=
  ints_mem h.pl (lo := -1) (hi := 64) (fun v hv => ⟨(h.pb v hv).1, by have := (h.pb v hv).2; omega⟩) (by decide) (by decide)
end Go.Proofs.Ytgodoeefgmfpfaa
