/- TreeBack, plain: a renaming and its way back. -/
import Derived.Test.YtbamckfjikpjlaaTreZb
set_option linter.unusedSimpArgs false
set_option linter.unusedVariables false
namespace Go.Proofs.Ytbamckfjikpjlaa
open Go.RowKit

def gR (f t s : ByteArray) : ByteArray := if sq s f = true then t else s
theorem gR_y {f t s : ByteArray} (h : s = f) : gR f t s = t := if_pos (sq_iff.2 h)
theorem gR_n {f t s : ByteArray} (h : s ≠ f) : gR f t s = s := if_neg (fun e => h (sq_iff.1 e))
theorem renP_fst (f t : ByteArray) (x : P2) : (renP f t x).1 = gR f t x.1 := by unfold renP gR; split <;> rfl
theorem renP_snd (f t : ByteArray) (x : P2) : (renP f t x).2 = x.2 := by unfold renP; split <;> rfl
theorem renN_1 (f t nm : ByteArray) : renN f t 1 nm = gR f t nm := by unfold renN gR; simp
theorem renN_o {f t nm : ByteArray} {k : Int} (h : k ≠ 1) : renN f t k nm = nm := if_neg (fun e => h e.1)
theorem gR_inj {f t a b : ByteArray} (ha : a ≠ t) (hb : b ≠ t) (h : gR f t a = gR f t b) : a = b := by
  by_cases h1 : a = f <;> by_cases h2 : b = f
  · rw [h1, h2]
  · rw [gR_y h1, gR_n h2] at h; exact absurd h.symm hb
  · rw [gR_n h1, gR_y h2] at h; exact absurd h ha
  · rwa [gR_n h1, gR_n h2] at h
theorem gR_back {f t a : ByteArray} (ha : a ≠ t) : gR t f (gR f t a) = a := by
  by_cases h1 : a = f
  · rw [gR_y h1, gR_y rfl, h1]
  · rw [gR_n h1, gR_n ha]
def renS (f t : ByteArray) : St × Nat → St × Nat
  | (.mk k nm rs ats bd, lv) => (.mk k (renN f t k nm) (rs.map (renP f t)) ats (renL f t bd), lv)
theorem pre_ren (f t : ByteArray) : ∀ (l : List St) (lv : Nat), pre (renL f t l) lv = (pre l lv).map (renS f t)
  | [], _ => by simp [pre, renL]
  | .mk k n rs ats b :: r, lv => by
    have h1 := pre_ren f t b (inn k lv)
    have h2 := pre_ren f t r lv
    simp only [renL, pre, h1, h2, List.map_cons, List.map_append, renS]
/-- The names that a statement puts, in their order. -/
def occS : St → List ByteArray
  | .mk k nm rs _ _ => (if k = 1 then [nm] else []) ++ rs.map (·.1)
def occL (F : List (St × Nat)) : List ByteArray := F.flatMap fun x => occS x.1
theorem nmF_occ (out : List ByteArray) (x : St × Nat) : nmF out x = (occS x.1).foldl putN out := by
  obtain ⟨⟨k, nm, rs, ats, bd⟩, lv⟩ := x
  have h : ∀ o : List ByteArray, rsN o rs = (rs.map (·.1)).foldl putN o := fun o => by unfold rsN; rw [List.foldl_map]
  simp only [nmF, occS, List.foldl_append, h]
  by_cases hk : k = 1
  · simp only [if_pos hk, List.foldl_cons, List.foldl_nil]
  · simp only [if_neg hk, List.foldl_nil]
theorem nmsL_occ (F : List (St × Nat)) : nmsL F = (occL F).foldl putN [] := by
  have : ∀ (F : List (St × Nat)) (o : List ByteArray), F.foldl nmF o = (occL F).foldl putN o := by
    intro F
    induction F with
    | nil => intro o; rfl
    | cons x F ih => intro o; simp only [List.foldl_cons, occL, List.flatMap_cons, List.foldl_append, nmF_occ]; exact ih _
  exact this F []
theorem mem_put {out : List ByteArray} {s x : ByteArray} : x ∈ putN out s ↔ x ∈ out ∨ x = s := by
  unfold putN
  split
  · rename_i h
    constructor
    · exact Or.inl
    · rintro (h' | rfl)
      · exact h'
      · exact memB_iff.1 h
  · simp
theorem mem_fold {L out : List ByteArray} {x : ByteArray} : x ∈ L.foldl putN out ↔ x ∈ out ∨ x ∈ L := by
  induction L generalizing out with
  | nil => simp
  | cons a L ih => rw [List.foldl_cons, ih, mem_put, List.mem_cons, or_assoc]
theorem mem_nms {F : List (St × Nat)} {x : ByteArray} : x ∈ nmsL F ↔ x ∈ occL F := by rw [nmsL_occ, mem_fold]; simp
theorem put_map {f t : ByteArray} {out : List ByteArray} {s : ByteArray} (ho : t ∉ out) (hs : s ≠ t) : putN (out.map (gR f t)) (gR f t s) = (putN out s).map (gR f t) := by
  cases h : memB s out
  · rw [putN_n h, putN_n]
    · simp
    · rw [memB_no] at h ⊢
      intro hm
      obtain ⟨y, hy, e⟩ := List.mem_map.1 hm
      have hyt : y ≠ t := fun e => ho (e ▸ hy)
      exact h (gR_inj hyt hs e ▸ hy)
  · rw [putN_y h, putN_y]
    exact memB_iff.2 (List.mem_map.2 ⟨s, memB_iff.1 h, rfl⟩)
theorem fold_map {f t : ByteArray} : ∀ (L out : List ByteArray), t ∉ out → t ∉ L → (L.map (gR f t)).foldl putN (out.map (gR f t)) = (L.foldl putN out).map (gR f t)
  | [], out, _, _ => rfl
  | a :: L, out, ho, hl => by
    rw [List.map_cons, List.foldl_cons, List.foldl_cons, put_map ho (fun e => hl (by simp [e]))]
    exact fold_map L (putN out a) (fun h => by
      rcases mem_put.1 h with h | h
      · exact ho h
      · exact hl (by simp [h])) (fun h => hl (by simp [h]))
theorem occS_ren (f t : ByteArray) (x : St × Nat) : occS (renS f t x).1 = (occS x.1).map (gR f t) := by
  obtain ⟨⟨k, nm, rs, ats, bd⟩, lv⟩ := x
  simp only [renS, occS, List.map_append, List.map_map]
  congr 1
  · by_cases hk : k = 1
    · subst hk; simp [renN_1]
    · simp [hk]
  · apply List.map_congr_left
    intro y _
    exact renP_fst f t y
theorem occL_ren (f t : ByteArray) (F : List (St × Nat)) : occL (F.map (renS f t)) = (occL F).map (gR f t) := by
  induction F with
  | nil => rfl
  | cons x F ih =>
    simp only [occL, List.map_cons, List.flatMap_cons, List.map_append] at *
    rw [occS_ren, ih]
theorem nms_ren {f t : ByteArray} {F : List (St × Nat)} (h : t ∉ nmsL F) : nmsL (F.map (renS f t)) = (nmsL F).map (gR f t) := by
  rw [nmsL_occ, nmsL_occ, occL_ren]
  rw [mem_nms] at h
  exact fold_map (occL F) [] (by simp) h
theorem mx_ren (f t : ByteArray) (F : List (St × Nat)) : mxL (F.map (renS f t)) = mxL F := by
  unfold mxL
  rw [List.foldl_map]
  congr 1
  funext o x
  obtain ⟨⟨k, nm, rs, ats, bd⟩, lv⟩ := x
  rfl
theorem cls_ren (f t : ByteArray) (F : List (St × Nat)) : clsL (F.map (renS f t)) = clsL F := by
  unfold clsL
  rw [List.foldl_map]
  congr 1
  funext o x
  obtain ⟨⟨k, nm, rs, ats, bd⟩, lv⟩ := x
  simp only [renS, clF]
  by_cases hk : k = 5
  · subst hk; simp [renN_o]
  · simp [hk]
theorem cnt_ren (f t : ByteArray) : ∀ l : List St, cntL (renL f t l) = cntL l
  | [] => by simp [renL]
  | .mk k n rs ats b :: r => by
    have h1 := cnt_ren f t b
    have h2 := cnt_ren f t r
    simp only [renL, cntL, h1, h2]
theorem dep_ren (f t : ByteArray) : ∀ l : List St, depL (renL f t l) = depL l
  | [] => by simp [renL]
  | .mk k n rs ats b :: r => by
    have h1 := dep_ren f t b
    have h2 := dep_ren f t r
    simp only [renL, depL, h1, h2]
theorem sm_ren (f t : ByteArray) : ∀ l : List St, smL l → smL (renL f t l)
  | [], _ => by simp [renL, smL]
  | .mk k n rs ats b :: r, h => by
    simp only [smL] at h
    have h1 := sm_ren f t b h.2.2.1
    have h2 := sm_ren f t r h.2.2.2
    simp only [renL, smL, List.length_map]
    exact ⟨h.1, h.2.1, h1, h2⟩
theorem ren_back (f t : ByteArray) : ∀ (l : List St) (lv : Nat), t ∉ occL (pre l lv) → renL t f (renL f t l) = l
  | [], _, _ => by simp [renL]
  | .mk k n rs ats b :: r, lv, h => by
    simp only [pre, occL, List.flatMap_cons, List.flatMap_append, List.mem_append, not_or] at h
    have h1 := ren_back f t b (inn k lv) h.2.1
    have h2 := ren_back f t r lv h.2.2
    have h3 := h.1
    simp only [occS, List.mem_append, not_or] at h3
    have hn : renN t f k (renN f t k n) = n := by
      by_cases hk : k = 1
      · subst hk
        rw [renN_1, renN_1]
        exact gR_back (fun e => h3.1 (by simp [e]))
      · rw [renN_o hk, renN_o hk]
    have hr : (rs.map (renP f t)).map (renP t f) = rs := by
      rw [List.map_map]
      conv => rhs; rw [← List.map_id rs]
      apply List.map_congr_left
      intro y hy
      have hy' : y.1 ≠ t := fun e => h3.2 (List.mem_map.2 ⟨y, hy, e⟩)
      apply Prod.ext
      · show (renP t f (renP f t y)).1 = y.1
        rw [renP_fst, renP_fst, gR_back hy']
      · show (renP t f (renP f t y)).2 = y.2
        rw [renP_snd, renP_snd]
    simp only [renL, h1, h2, hn, hr]
theorem st_ren {f t : ByteArray} (ht : nameB t = true) {x : St × Nat} (h : stE x = 0) : stE (renS f t x) = 0 := by
  obtain ⟨⟨k, nm, rs, ats, bd⟩, lv⟩ := x
  have h' : ckE k nm rs ats bd.length lv = 0 := h
  show ckE k (renN f t k nm) (rs.map (renP f t)) ats (renL f t bd).length lv = 0
  rw [renL_len]
  have hfm : fmB k (renN f t k nm) (rs.map (renP f t)).length ats bd.length = fmB k nm rs.length ats bd.length := by
    rw [List.length_map]
    by_cases hk : k = 1
    · subst hk; rfl
    · rw [renN_o hk]
  unfold ckE at h' ⊢
  rw [hfm]
  split at h'
  · omega
  rename_i g1
  rw [if_neg g1]
  split at h'
  · omega
  rename_i g2
  rw [if_neg g2]
  split at h'
  · omega
  rename_i g3
  rw [if_neg (fun g => g3 ⟨g.1, by
    by_cases hk : k = 1
    · subst hk
      have := g.2
      rw [renN_1] at this
      by_cases e : nm = f
      · rw [gR_y e, ht] at this; cases this
      · rw [gR_n e] at this; exact this
    · have := g.2
      rw [renN_o hk] at this; exact this⟩)]
  split at h'
  · omega
  rename_i g4
  rw [if_neg (fun g => g4 (by
    obtain ⟨y, hy, hb⟩ := List.any_eq_true.1 g
    obtain ⟨z, hz, rfl⟩ := List.mem_map.1 hy
    refine List.any_eq_true.2 ⟨z, hz, ?_⟩
    unfold badR at hb ⊢
    rw [renP_fst, renP_snd] at hb
    by_cases e : z.1 = f
    · rw [gR_y e, ht] at hb
      simp only [Bool.not_true, Bool.false_or] at hb
      rw [hb]; simp
    · rw [gR_n e] at hb; exact hb))]
  exact h'
theorem vl_ren {name f t : ByteArray} {l : List St} (ht : nameB t = true) (h : vlE name l = 0) : vlE name (renL f t l) = 0 := by
  obtain ⟨h1, h2, h3⟩ := valid_facts h
  unfold vlE
  rw [if_neg (by rw [h1]; simp), if_neg (by rw [cnt_ren]; omega), pre_ren, List.map_map]
  refine fst0_miss fun y hy => ?_
  obtain ⟨z, hz, rfl⟩ := List.mem_map.1 hy
  exact st_ren ht (h3 z hz)
/-- What a renaming that has gone well says. -/
theorem rn_facts {name : ByteArray} {l : List St} {f t : ByteArray} (h : rnE name l f t = 0) : vlE name l = 0 ∧ nameB f = true ∧ nameB t = true ∧ f ∈ nmsL (pre l 0) ∧ t ∉ nmsL (pre l 0) ∧ t ∉ clsL (pre l 0) := by
  unfold rnE at h
  split at h
  · rename_i h1
    split at h
    · rename_i h2
      split at h
      · rename_i h3
        split at h
        · omega
        · rename_i h4
          rw [not_or, Bool.not_eq_true, Bool.not_eq_true, memB_no, memB_no] at h4
          exact ⟨h1, h2.1, h2.2, memB_iff.1 h3, h4.1, h4.2⟩
      · omega
    · omega
  · omega
/-- The way back. -/
theorem rn_back {name : ByteArray} {l : List St} {f t : ByteArray} (h : rnE name l f t = 0) (hc : f ∉ clsL (pre l 0)) :
    rnE name (renL f t l) t f = 0 ∧ renL t f (renL f t l) = l ∧ renL f t l ≠ l := by
  obtain ⟨h1, h2, h3, h4, h5, h6⟩ := rn_facts h
  have hft : f ≠ t := fun e => h5 (e ▸ h4)
  have hn : nmsL (pre (renL f t l) 0) = (nmsL (pre l 0)).map (gR f t) := by rw [pre_ren, nms_ren h5]
  have m1 : t ∈ nmsL (pre (renL f t l) 0) := by rw [hn]; exact List.mem_map.2 ⟨f, h4, gR_y rfl⟩
  have m2 : f ∉ nmsL (pre (renL f t l) 0) := by
    rw [hn]
    intro hm
    obtain ⟨y, hy, e⟩ := List.mem_map.1 hm
    by_cases e2 : y = f
    · rw [gR_y e2] at e; exact hft e.symm
    · rw [gR_n e2] at e; exact e2 e
  refine ⟨?_, ren_back f t l 0 (fun e => h5 (mem_nms.2 e)), fun e => ?_⟩
  · unfold rnE
    rw [if_pos (vl_ren h3 h1), if_pos ⟨h3, h2⟩, if_pos (memB_iff.2 m1), if_neg]
    rw [not_or, Bool.not_eq_true, Bool.not_eq_true, memB_no, memB_no]
    exact ⟨m2, by rw [pre_ren, cls_ren]; exact hc⟩
  · rw [e] at m2
    exact m2 h4
theorem nms_at {f t : ByteArray} {l : List St} (h : t ∉ nmsL (pre l 0)) : nmsL (pre (renL f t l) 0) = (nmsL (pre l 0)).map (gR f t) := by rw [pre_ren, nms_ren h]
theorem cls_at (f t : ByteArray) (l : List St) : clsL (pre (renL f t l) 0) = clsL (pre l 0) := by rw [pre_ren, cls_ren]
theorem mx_at (f t : ByteArray) (l : List St) : mxL (pre (renL f t l) 0) = mxL (pre l 0) := by rw [pre_ren, mx_ren]
end Go.Proofs.Ytbamckfjikpjlaa
