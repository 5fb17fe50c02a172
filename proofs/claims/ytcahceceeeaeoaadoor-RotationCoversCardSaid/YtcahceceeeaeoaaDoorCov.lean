/- What RotationCovers asks of the faces: plain part. -/
import Derived.Test.YtcahceceeeaeoaaDoorMim
import Derived.Test.YtcahceceeeaeoaaDoorRotH
set_option linter.unusedSimpArgs false
set_option linter.unusedVariables false
namespace Go.Proofs.YtcahceceeeaeoaaDoor

/-- The number of the first list that holds d. -/
def posF (fs : List (List Int)) (d : Int) : Nat := fs.findIdx (fun l => decide (d ∈ l))
theorem posF_of {fs : List (List Int)} (hn : fs.flatten.Nodup) {i : Nat} (hi : i < fs.length) {d : Int} (hd : d ∈ rowOf fs i) : posF fs d = i := by
  have hlt : posF fs d < fs.length := List.findIdx_lt_length_of_exists ⟨rowOf fs i, by rw [rowOf_eq fs hi]; exact List.getElem_mem hi, decide_eq_true hd⟩
  have hin : d ∈ fs[posF fs d] := of_decide_eq_true (List.findIdx_getElem (w := hlt) (p := fun l => decide (d ∈ l)))
  apply Classical.byContradiction
  intro hne
  have hp := (List.pairwise_flatten.1 hn).2
  rw [List.pairwise_iff_getElem] at hp
  rw [rowOf_eq fs hi] at hd
  rcases Nat.lt_or_gt_of_ne hne with h | h
  · exact hp _ _ hlt hi h d hin d hd rfl
  · exact hp _ _ hi hlt h d hd d hin rfl
/-- The darts of the first f lists, and the first k of the next. -/
def preF (fs : List (List Int)) (f k : Nat) : List Int := (fs.take f).flatten ++ (rowOf fs f).take k
theorem preF_zero (fs : List (List Int)) : preF fs 0 0 = [] := by simp [preF]
theorem preF_row (fs : List (List Int)) (f : Nat) : preF fs f 0 = (fs.take f).flatten := by simp [preF]
theorem preF_succ {fs : List (List Int)} {f k : Nat} (hk : k < (rowOf fs f).length) : preF fs f (k + 1) = preF fs f k ++ [ge (rowOf fs f) k] := by
  unfold preF
  rw [List.take_succ_eq_append_getElem hk, ge_eq _ hk, List.append_assoc]
theorem preF_next {fs : List (List Int)} {f : Nat} (hf : f < fs.length) : preF fs f (rowOf fs f).length = preF fs (f + 1) 0 := by
  rw [preF_row]
  unfold preF
  rw [List.take_length, List.take_succ_eq_append_getElem hf, List.flatten_append, rowOf_eq fs hf]
  simp
theorem preF_all (fs : List (List Int)) : preF fs fs.length 0 = fs.flatten := by rw [preF_row, List.take_length]
theorem preF_not {fs : List (List Int)} (hn : fs.flatten.Nodup) {f k : Nat} (hf : f < fs.length) (hk : k < (rowOf fs f).length) : ge (rowOf fs f) k ∉ preF fs f k := by
  have h1 : preF fs f (k + 1) ++ ((rowOf fs f).drop (k + 1) ++ (fs.drop (f + 1)).flatten) = fs.flatten := by
    have e : fs = fs.take f ++ (rowOf fs f :: fs.drop (f + 1)) := by
      rw [rowOf_eq fs hf, ← List.drop_eq_getElem_cons hf, List.take_append_drop]
    conv => rhs; rw [e, List.flatten_append, List.flatten_cons]
    unfold preF
    rw [List.append_assoc, ← List.append_assoc ((rowOf fs f).take (k + 1)), List.take_append_drop]
  rw [← h1, List.nodup_append, preF_succ hk, List.nodup_append] at hn
  exact fun h => hn.1.2.2 _ h _ (by simp) rfl

/-- A list of a system has at most as many darts as there are. -/
theorem flat_row_le {fs : List (List Int)} {M : Nat} (h : fs.flatten.Nodup ∧ ∀ x : Int, x ∈ fs.flatten ↔ 0 ≤ x ∧ x < 2 * (M : Int)) {i : Nat} (hi : i < fs.length) : (rowOf fs i).length ≤ 2 * M ∧ ∀ k, k < (rowOf fs i).length → 0 ≤ ge (rowOf fs i) k ∧ ge (rowOf fs i) k < 2 * (M : Int) := by
  have hm : ∀ x ∈ rowOf fs i, 0 ≤ x ∧ x < 2 * (M : Int) := fun x hx => (h.2 x).1 (List.mem_flatten.2 ⟨_, by rw [rowOf_eq fs hi]; exact List.getElem_mem hi, hx⟩)
  refine ⟨?_, fun k hk => hm _ (ge_mem hk)⟩
  have hn : (rowOf fs i).Nodup := (List.pairwise_flatten.1 h.1).1 _ (by rw [rowOf_eq fs hi]; exact List.getElem_mem hi)
  have h1 := List.Nodup.length_le_of_subset hn (l₂ := (List.range (2 * M)).map fun n : Nat => (n : Int)) (fun x hx => by
    have := hm x hx
    exact List.mem_map.2 ⟨x.toNat, by rw [List.mem_range]; omega, by omega⟩)
  simpa using h1
theorem flat_in {fs : List (List Int)} {M : Nat} (h : fs.flatten.Nodup ∧ ∀ x : Int, x ∈ fs.flatten ↔ 0 ≤ x ∧ x < 2 * (M : Int)) {d : Nat} (hd : d < 2 * M) : (d : Int) ∈ fs.flatten := (h.2 _).2 ⟨by omega, by omega⟩

def inL (os : List (List Int)) (M : Nat) (S : List Int) : List Int := tab M fun d : Nat => if (d : Int) ∈ S then (posF os d : Int) else 0
theorem inL_len (os : List (List Int)) (M : Nat) (S : List Int) : (inL os M S).length = M := tab_length _ _
theorem inL_nil (os : List (List Int)) (M : Nat) : inL os M [] = tab M (fun _ => 0) := tab_congr fun u _ => by simp
theorem inL_set {os : List (List Int)} {M : Nat} {S : List Int} {d f : Nat} (hd : d < M) (h : posF os d = f) : (inL os M S).set d f = inL os M (S ++ [(d : Int)]) := by
  unfold inL
  rw [tab_set _ _ hd]
  refine tab_congr fun u hu => ?_
  by_cases e : u = d
  · subst e
    rw [if_pos rfl, if_pos (by simp), h]
  · rw [if_neg e]
    by_cases hs : (u : Int) ∈ S
    · rw [if_pos hs, if_pos (List.mem_append_left _ hs)]
    · rw [if_neg hs, if_neg (fun h2 => (List.mem_append.1 h2).elim hs (fun h3 => e (by have := List.mem_singleton.1 h3; omega)))]
def seL (M : Nat) (S : List Int) : List Int := tab M fun d : Nat => if (d : Int) ∈ S then 1 else 0
theorem seL_len (M : Nat) (S : List Int) : (seL M S).length = M := tab_length _ _
theorem seL_nil (M : Nat) : seL M [] = tab M (fun _ => 0) := tab_congr fun u _ => by simp
theorem seL_set {M : Nat} {S : List Int} {d : Nat} (hd : d < M) : (seL M S).set d 1 = seL M (S ++ [(d : Int)]) := by
  unfold seL
  rw [tab_set _ _ hd]
  refine tab_congr fun u hu => ?_
  by_cases e : u = d
  · subst e
    rw [if_pos rfl, if_pos (by simp)]
  · rw [if_neg e]
    by_cases hs : (u : Int) ∈ S
    · rw [if_pos hs, if_pos (List.mem_append_left _ hs)]
    · rw [if_neg hs, if_neg (fun h2 => (List.mem_append.1 h2).elim hs (fun h3 => e (by have := List.mem_singleton.1 h3; omega)))]
theorem seL_get {M : Nat} {S : List Int} {d : Nat} (hd : d < M) : ge (seL M S) d = if (d : Int) ∈ S then 1 else 0 := by unfold seL; rw [ge_tab _ hd]
theorem inL_get {os : List (List Int)} {M : Nat} {S : List Int} {d : Nat} (hd : d < M) (hS : (d : Int) ∈ S) : ge (inL os M S) d = posF os d := by unfold inL; rw [ge_tab _ hd, if_pos hS]

/-- The two tables of the law. -/
def covRows (bI bS M : Nat) (L S : List Int) : List Row := [⟨.slice (some ⟨bI, 0, none⟩) M M, 3, 1, M, intVs L⟩, ⟨.slice (some ⟨bS, 0, none⟩) M M, 3, 1, M, intVs S⟩]
theorem covRows_in {w : World} {B bI bS M : Nat} {L S : List Int} (h : Owns w B (covRows bI bS M L S)) (d : Nat) (x : Int) : Owns (w.setCell ⟨bI, d, none⟩ (.int .i64 x)) B (covRows bI bS M (L.set d x) S) := by
  have h1 := h.set (k := 0) rfl d (.int .i64 x)
  rw [intVs_set] at h1
  exact h1
theorem covRows_se {w : World} {B bI bS M : Nat} {L S : List Int} (h : Owns w B (covRows bI bS M L S)) (d : Nat) (x : Int) : Owns (w.setCell ⟨bS, d, none⟩ (.int .i64 x)) B (covRows bI bS M L (S.set d x)) := by
  have h1 := h.set (k := 1) rfl d (.int .i64 x)
  rw [intVs_set] at h1
  exact h1
theorem covRows_at {w : World} {B bI bS M : Nat} {L S : List Int} (h : Owns w B (covRows bI bS M L S)) (hL : L.length = M) (hS : S.length = M) :
    (B ≤ bI ∧ bI < w.heap.size ∧ (∀ i, w.frozen? ⟨bI, i, none⟩ = false) ∧ ∀ d, d < M → w.cell? ⟨bI, d, none⟩ = some (.int .i64 (ge L d))) ∧
    (B ≤ bS ∧ bS < w.heap.size ∧ (∀ i, w.frozen? ⟨bS, i, none⟩ = false) ∧ ∀ d, d < M → w.cell? ⟨bS, d, none⟩ = some (.int .i64 (ge S d))) := by
  constructor
  · obtain ⟨_, h1⟩ := h.get (k := 0) rfl
    rcases h1 with ⟨e, _⟩ | ⟨g, cap, e, h1, h2, _, _, h3, h4⟩
    · cases e
    · cases e
      exact ⟨h1, h2, h3, fun d hd => h4 d _ (intVs_get _ (by rw [hL]; exact hd))⟩
  · obtain ⟨_, h1⟩ := h.get (k := 1) rfl
    rcases h1 with ⟨e, _⟩ | ⟨g, cap, e, h1, h2, _, _, h3, h4⟩
    · cases e
    · cases e
      exact ⟨h1, h2, h3, fun d hd => h4 d _ (intVs_get _ (by rw [hS]; exact hd))⟩

/-- What the law asks of a face. -/
structure CovFace (N : Int) (E : List (Int × Int)) (A : List (List Int)) (os : List (List Int)) (l : List Int) : Prop where
  ne : 0 < l.length
  rg : ∀ k, k < l.length → 0 ≤ ge l k ∧ ge l k < 2 * (E.length : Int)
  ge0 : ∀ k, k < l.length → ge l 0 ≤ ge l k
  nx : ∀ k, k < l.length → nextF N E A (ge l k) = ge l ((k + 1) % l.length)
  ps : ∀ k, k < l.length → posF os (oth (ge l k)) = posF os (oth (ge l 0))
  pl : posF os (oth (ge l 0)) < os.length
  ln : (rowOf os (posF os (oth (ge l 0)))).length = l.length
section
variable {N : Int} {E : List (Int × Int)} {A : List (List Int)}
theorem cov_face (hV : vRot N E A) {i : Nat} (hi : i < (facesF A (2 * E.length)).length) : CovFace N E A (facesF (A.map List.reverse) (2 * E.length)) (rowOf (facesF A (2 * E.length)) i) := by
  have hk := fac_ok hV
  have hD := fac_dec hV
  have hD' := fac_dec (mir_valid hV)
  have hM := mir_dec hV
  obtain ⟨l, hl⟩ : ∃ l, rowOf (facesF A (2 * E.length)) i = l := ⟨_, rfl⟩
  have hlm : l ∈ facesF A (2 * E.length) := by rw [← hl, rowOf_eq _ hi]; exact List.getElem_mem hi
  rw [hl]
  have hc := hD.cyc l hlm
  have h0 : 0 < l.length := List.length_pos_iff.2 hc.ne
  have hrg : ∀ x ∈ l, 0 ≤ x ∧ x < 2 * (E.length : Int) := fun x hx => (hD.mem x).1 (List.mem_flatten.2 ⟨l, hlm, hx⟩)
  -- the face of the mirror
  obtain ⟨os, hos⟩ : ∃ os, facesF (A.map List.reverse) (2 * E.length) = os := ⟨_, rfl⟩
  rw [hos] at hD'
  rw [hos]
  have hm' : (l.map oth).reverse ∈ (facesF A (2 * E.length)).map fun l => (l.map oth).reverse := List.mem_map.2 ⟨l, hlm, rfl⟩
  have hc' := hM.cyc _ hm'
  have hnd' : ((l.map oth).reverse).Nodup := (List.pairwise_flatten.1 hM.nd).1 _ hm'
  have hin : ∀ k, k < l.length → oth (ge l k) ∈ (l.map oth).reverse := fun k hk => by rw [List.mem_reverse]; exact List.mem_map.2 ⟨_, ge_mem hk, rfl⟩
  have ho0 := hrg _ (ge_mem h0)
  obtain ⟨m, hmm, hxm⟩ := List.mem_flatten.1 ((hD'.mem (oth (ge l 0))).2 (oth_in (d := ge l 0) (M := E.length) ho0.1 ho0.2))
  have hsame := hc'.same (hD'.cyc m hmm) (hin 0 h0) hxm
  have hndm : m.Nodup := (List.pairwise_flatten.1 hD'.nd).1 _ hmm
  have hml : m.length = l.length := by
    have h1 := List.Nodup.length_le_of_subset hndm (fun x hx => (hsame x).2 hx)
    have h2 := List.Nodup.length_le_of_subset hnd' (fun x hx => (hsame x).1 hx)
    simp at h1 h2
    omega
  obtain ⟨j, hj, rfl⟩ := List.getElem_of_mem hmm
  have hps : ∀ k, k < l.length → posF os (oth (ge l k)) = j := fun k hk => posF_of hD'.nd hj (by rw [rowOf_eq os hj]; exact (hsame _).1 (hin k hk))
  refine ⟨h0, fun k hk => hrg _ (ge_mem hk), fun k hkl => (hk.head l hlm).1 _ (ge_mem hkl), fun k hkl => ?_, fun k hkl => by rw [hps k hkl, hps 0 h0], by rw [hps 0 h0]; exact hj, by rw [hps 0 h0, rowOf_eq os hj]; exact hml⟩
  have hr := hrg _ (ge_mem hkl)
  unfold nextF
  rw [if_pos ⟨vRotB_iff.2 hV, hr.1, hr.2⟩]
  exact hc.idx hkl
theorem cov_incr (hV : vRot N E A) {i : Nat} (hi : i + 1 < (facesF A (2 * E.length)).length) : ge (rowOf (facesF A (2 * E.length)) i) 0 < ge (rowOf (facesF A (2 * E.length)) (i + 1)) 0 := by
  have h := (fac_ok hV).incr
  rw [List.pairwise_iff_getElem] at h
  have := h i (i + 1) (by omega) hi (by omega)
  rw [rowOf_eq _ hi, rowOf_eq _ (by omega)]
  exact this
theorem cov_flat (hV : vRot N E A) : (facesF A (2 * E.length)).flatten.Nodup ∧ ∀ x : Int, x ∈ (facesF A (2 * E.length)).flatten ↔ 0 ≤ x ∧ x < 2 * (E.length : Int) := ⟨(fac_dec hV).nd, (fac_dec hV).mem⟩
end
end Go.Proofs.YtcahceceeeaeoaaDoor
