/- The Hungarian method, plain: a round of a phase. -/
import Derived.Test.YtdenjldadlgniaaHunB
set_option linter.unusedSimpArgs false
set_option linter.unusedVariables false
namespace Go.Proofs.Ytdenjldadlgniaa
variable {n k : Nat} {C : Nat → Nat → Int} {i : Nat} {b : Int} {u v : List Int} {row : List Nat} {dist : List Int} {way ord : List Nat} {col : Nat} {D : Int}
variable {r : Nat} {dist' : List Int} {way' : List Nat} {delta : Int} {next c : Nat}

theorem Ph.wst_lt (h : Ph n k C i b u v row dist way ord col D) (hC : CostOK n k C) (hb : b ≤ 16 * (1099511627776 : Int)) {r c : Nat} (h1 : 1 ≤ r) (h2 : r ≤ n) (h3 : 1 ≤ c) (h4 : c ≤ k) : wst C u v r c ≤ 18 * (1099511627776 : Int) := by
  have := hC.b r c h1 h2 h3 h4
  have := h.m.ub r h2
  have := h.m.vb c h4
  have := h.D0
  unfold wst
  omega

/-- What is known behind the scan. -/
theorem Ph.scan (h : Ph n k C i b u v row dist way ord col D) (hC : CostOK n k C) (hb : b ≤ 16 * (1099511627776 : Int)) (hr : 0 < gn row col)
    (hs : Sc n k C u v (gn row col) col ord dist way (k + 1) dist' way' delta next) {c : Nat} (h1 : 1 ≤ c) (h2 : c ≤ k) (h3 : c ∉ ord) (h4 : c ≠ col) :
    (gn way' c ∈ ord ∨ gn way' c = col) ∧ ge dist' c = wst C u v (gn row (gn way' c)) c ∧ (∀ c' ∈ ord, ge dist' c ≤ wst C u v (gn row c') c) ∧ ge dist' c ≤ wst C u v (gn row col) c ∧ (gn row c = 0 → ge dist' c + D ≤ (1099511627776 : Int)) := by
  obtain ⟨n1, n2⟩ := hs.new c h1 (by omega) h2 h3 h4
  have hrn : gn row col ≤ n := by
    have := (h.row_le h.colk).1
    have := h.iN
    omega
  by_cases e : ord = []
  · obtain ⟨e1, e2, e3⟩ := h.start e
    have hlt : wst C u v (gn row col) c < ge dist c := by
      have := h.wst_lt hC hb (r := gn row col) hr hrn h1 h2
      rw [e3 c h2]
      omega
    obtain ⟨a1, a2⟩ := n1 hlt
    refine ⟨Or.inr a2, by rw [a1, a2], fun c' hc' => (by rw [e] at hc'; cases hc'), by omega, fun hf => ?_⟩
    have := hC.b (gn row col) c hr hrn h1 h2
    have := h.m.ub (gn row col) hrn
    have := h.m.vfree c h1 h2 hf
    rw [a1]
    unfold wst
    omega
  · obtain ⟨o1, o2, o3⟩ := h.out e c h1 h2 h3
    have hf := h.free e c h1 h2 h3
    by_cases hlt : wst C u v (gn row col) c < ge dist c
    · obtain ⟨a1, a2⟩ := n1 hlt
      refine ⟨Or.inr a2, by rw [a1, a2], fun c' hc' => by have := o3 c' hc'; omega, by omega, fun hz => by have := hf hz; omega⟩
    · obtain ⟨a1, a2⟩ := n2 hlt
      rw [a1, a2]
      exact ⟨Or.inl o1, o2, o3, by omega, hf⟩

theorem Ph.dlt (h : Ph n k C i b u v row dist way ord col D) (hC : CostOK n k C) (hb : b ≤ 16 * (1099511627776 : Int)) (hr : 0 < gn row col)
    (hs : Sc n k C u v (gn row col) col ord dist way (k + 1) dist' way' delta next) : next ≠ 0 ∧ 0 ≤ delta ∧ D + delta ≤ (1099511627776 : Int) := by
  have hik : i - 1 < k := by
    have := h.iN
    have := hC.nk
    have := h.i1
    omega
  obtain ⟨f, f1, f2, f3⟩ := free_col hik h.m.rle h.m.inj
  have hfo : f ∉ ord := fun e => by have := (h.row_ord e).1; omega
  have hfc : f ≠ col := fun e => by subst e; omega
  have hn : next ≠ 0 := fun e => by
    rcases (hs.nil e).2 f f1 (by omega) with t | t
    · exact hfo t
    · exact hfc t
  obtain ⟨g1, g2, g3, g4, g5, g6⟩ := hs.got hn
  obtain ⟨s1, s2, s3, s4, s5⟩ := h.scan hC hb hr hs (c := next) (by omega) g2 g3 g4
  obtain ⟨_, _, _, _, t5⟩ := h.scan hC hb hr hs f1 f2 hfo hfc
  have hle := g6 f f1 (by omega) f2 hfo hfc
  have := t5 f3
  refine ⟨hn, ?_, by omega⟩
  rw [g5, s2]
  rcases s1 with s1 | s1
  · exact h.red_ord s1 (by omega) g2
  · rw [s1]
    have hrn : gn row col ≤ n := by
      have := (h.row_le h.colk).1
      have := h.iN
      omega
    exact h.m.red _ _ hr hrn (by omega) g2

variable {u2 v2 dist2 : List Int}
theorem Ph.round (h : Ph n k C i b u v row dist way ord col D) (hC : CostOK n k C) (hb : b ≤ 16 * (1099511627776 : Int)) (hr : 0 < gn row col)
    (hs : Sc n k C u v (gn row col) col ord dist way (k + 1) dist' way' delta next) (hu : Up n k row (ord ++ [col]) delta u v dist' (k + 1) u2 v2 dist2) :
    Ph n k C i b u2 v2 row dist2 way' (ord ++ [col]) next (D + delta) := by
  obtain ⟨hn, hd0, hdD⟩ := h.dlt hC hb hr hs
  obtain ⟨g1, g2, g3, g4, g5, g6⟩ := hs.got hn
  have hmem : ∀ c, c ∈ ord ++ [col] ↔ c ∈ ord ∨ c = col := fun c => by simp
  have hnin : ∀ c, c ∉ ord ++ [col] ↔ c ∉ ord ∧ c ≠ col := fun c => by simp
  have hle : ∀ c, c ∈ ord ++ [col] → c ≤ k := fun c hc => by
    rcases (hmem c).1 hc with e | e
    · exact h.ole c e
    · rw [e]; exact h.colk
  have hrow : ∀ c, c ∈ ord ++ [col] → 1 ≤ gn row c ∧ gn row c ≤ n := fun c hc => by
    rcases (hmem c).1 hc with e | e
    · exact h.row_ord e
    · rw [e]
      have := (h.row_le h.colk).1
      have := h.iN
      exact ⟨hr, by omega⟩
  have hX : ∀ c, 1 ≤ c → c ≤ k → c ∉ ord ++ [col] → gn way' c ∈ ord ++ [col] ∧ ge dist' c = wst C u v (gn row (gn way' c)) c ∧ (∀ c' ∈ ord ++ [col], ge dist' c ≤ wst C u v (gn row c') c) ∧ delta ≤ ge dist' c ∧ (gn row c = 0 → ge dist' c + D ≤ (1099511627776 : Int)) := by
    intro c h1 h2 h3
    obtain ⟨a1, a2⟩ := (hnin c).1 h3
    obtain ⟨s1, s2, s3, s4, s5⟩ := h.scan hC hb hr hs h1 h2 a1 a2
    refine ⟨(hmem _).2 s1, s2, fun c' hc' => ?_, g6 c h1 (by omega) h2 a1 a2, s5⟩
    rcases (hmem c').1 hc' with e | e
    · exact s3 c' e
    · rw [e]; exact s4
  have hU : ∀ c, c ∈ ord ++ [col] → ge u2 (gn row c) = ge u (gn row c) + delta := fun c hc => hu.uY c (by have := hle c hc; omega) hc
  have hV : ∀ c, c ≤ k → c ∈ ord ++ [col] → ge v2 c = ge v c - delta := fun c hk hc => hu.vY c (by omega) hc
  have hV0 : ∀ c, c ∉ ord ++ [col] → ge v2 c = ge v c := fun c hc => hu.vN c (Or.inr hc)
  have hinj : ∀ c c', c ≤ k → c' ≤ k → gn row c = gn row c' → 0 < gn row c → c = c' := fun c c' h1 h2 h3 h4 => h.inj_ord h1 h2 h3 h4
  have hW : ∀ c c', c' ∈ ord ++ [col] → c ∉ ord ++ [col] → wst C u2 v2 (gn row c') c = wst C u v (gn row c') c - delta := fun c c' h1 h2 => by
    unfold wst
    rw [hU c' h1, hV0 c h2]
    omega
  have hW2 : ∀ c c', c' ∈ ord ++ [col] → c ∈ ord ++ [col] → wst C u2 v2 (gn row c') c = wst C u v (gn row c') c := fun c c' h1 h2 => by
    unfold wst
    rw [hU c' h1, hV c (hle c h2) h2]
    omega
  refine { m := ?_, i1 := h.i1, iN := h.iN, r0 := h.r0, ld := hu.ld, lw := hs.lw, D0 := ⟨(by have := h.D0; omega), hdD⟩, nd := ?_, ole := hle, orow := fun c hc _ => (hrow c hc).1, colk := g2, cn := (hnin next).2 ⟨g3, g4⟩, start := fun e => (by simp at e), zero := fun _ => ?_, ways := ?_, wcol := fun _ => ?_, out := fun _ c h1 h2 h3 => ?_, free := fun _ c h1 h2 h3 h4 => ?_ }
  · refine { lu := hu.lu, lv := hu.lv, lr := h.m.lr, red := fun r c h1 h2 h3 h4 => ?_, tight := fun c h1 h2 h3 => ?_, rle := h.m.rle, inj := h.m.inj, cov := h.m.cov, vb := fun c hc => ?_, vfree := fun c h1 h2 h3 => ?_, ub := fun r hr => ?_, ufree := fun r h1 h2 => ?_ }
    · have h0 := h.m.red r c h1 h2 h3 h4
      by_cases hit : ∃ j, j ∈ ord ++ [col] ∧ gn row j = r
      · obtain ⟨j, hj, rfl⟩ := hit
        by_cases hc : c ∈ ord ++ [col]
        · have := hW2 c j hj hc
          unfold wst at this
          omega
        · have := hW c j hj hc
          obtain ⟨_, _, x3, x4, _⟩ := hX c h3 h4 hc
          have := x3 j hj
          unfold wst at *
          omega
      · have hur : ge u2 r = ge u r := hu.uN r (fun j _ hj e => hit ⟨j, hj, e⟩)
        rw [hur]
        by_cases hc : c ∈ ord ++ [col]
        · rw [hV c h4 hc]; omega
        · rw [hV0 c hc]; exact h0
    · have h0 := h.m.tight c h1 h2 h3
      by_cases hc : c ∈ ord ++ [col]
      · rw [hU c hc, hV c h2 hc]; omega
      · have hur : ge u2 (gn row c) = ge u (gn row c) := hu.uN _ (fun j hj1 hj e => hc (by rw [← hinj j c (by omega) h2 e (by omega)]; exact hj))
        rw [hur, hV0 c hc]
        exact h0
    · have h0 := h.m.vb c hc
      by_cases ho : c ∈ ord ++ [col]
      · rw [hV c hc ho]; omega
      · rw [hV0 c ho]; omega
    · have ho : c ∉ ord ++ [col] := fun e => by have := (hrow c e).1; omega
      rw [hV0 c ho]
      exact h.m.vfree c h1 h2 h3
    · have h0 := h.m.ub r hr
      by_cases hit : ∃ j, j ∈ ord ++ [col] ∧ gn row j = r
      · obtain ⟨j, hj, rfl⟩ := hit
        rw [hU j hj]
        omega
      · rw [hu.uN r (fun j _ hj e => hit ⟨j, hj, e⟩)]
        omega
    · rw [hu.uN r (fun j _ hj e => by have := (h.row_le (hle j hj)).1; omega)]
      exact h.m.ufree r h1 h2
  · rw [List.nodup_append]
    exact ⟨h.nd, by simp, fun a ha b hb e => by simp at hb; subst hb; subst e; exact h.cn ha⟩
  · rw [hmem]
    by_cases e : ord = []
    · exact Or.inr (h.start e).1.symm
    · exact Or.inl (h.zero e)
  · intro j c hj hc0
    have hso : ∀ x, x ≤ k → x ∈ ord ++ [col] → gn way' x = gn way x := fun x hx hm => (hs.same x hx (Or.inr (Or.inr ((hmem x).1 hm)))).2
    have hcm : c ∈ ord ++ [col] := List.mem_of_getElem? hj
    rw [hso c (hle c hcm) hcm]
    rw [List.getElem?_append] at hj
    split at hj
    · rename_i hjl
      obtain ⟨j', h1, h2, h3⟩ := h.ways j c hj hc0
      refine ⟨j', h1, by rw [List.getElem?_append_left (by omega)]; exact h2, ?_⟩
      rw [hW2 c _ ((hmem _).2 (Or.inl (List.mem_of_getElem? h2))) hcm]
      exact h3
    · rename_i hjl
      have hj0 : j - ord.length = 0 := by
        have := (List.getElem?_eq_some_iff.1 hj).1
        simp at this
        omega
      rw [hj0] at hj
      simp at hj
      subst hj
      obtain ⟨h1, h2⟩ := h.wcol hc0
      obtain ⟨j', hj', e⟩ := List.getElem_of_mem h1
      refine ⟨j', by omega, by rw [List.getElem?_append_left hj', List.getElem?_eq_getElem hj', e], ?_⟩
      rw [hW2 _ _ ((hmem _).2 (Or.inl h1)) hcm]
      exact h2
  · have hno : next ∉ ord ++ [col] := (hnin next).2 ⟨g3, g4⟩
    obtain ⟨x1, x2, _⟩ := hX next (by omega) g2 hno
    refine ⟨x1, ?_⟩
    rw [hW next _ x1 hno, ← x2, g5]
    omega
  · obtain ⟨x1, x2, x3, x4, x5⟩ := hX c h1 h2 h3
    have hd : ge dist2 c = ge dist' c - delta := hu.dY c (by omega) h3
    refine ⟨x1, by rw [hd, hW c _ x1 h3, x2], fun c' hc' => ?_⟩
    rw [hd, hW c c' hc' h3]
    have := x3 c' hc'
    omega
  · obtain ⟨x1, x2, x3, x4, x5⟩ := hX c h1 h2 h3
    have hd : ge dist2 c = ge dist' c - delta := hu.dY c (by omega) h3
    have := x5 h4
    omega

/-! ### The augmentation -/
/-- The matching with a hole at column h; the columns that are used up to place t of the order are as they were. -/
structure Au (n k : Nat) (C : Nat → Nat → Int) (i : Nat) (u v : List Int) (row0 : List Nat) (ord : List Nat) (row : List Nat) (h t : Nat) : Prop where
  lr : row.length = k + 1
  hk : h ≤ k
  old : ∀ j c, j ≤ t → ord[j]? = some c → gn row c = gn row0 c
  inj : ∀ c c', c ≤ k → c' ≤ k → c ≠ h → c' ≠ h → gn row c = gn row c' → 0 < gn row c → c = c'
  cov : ∀ r, 1 ≤ r → r ≤ i → ∃ c, c ≤ k ∧ c ≠ h ∧ gn row c = r
  tight : ∀ c, 1 ≤ c → c ≤ k → c ≠ h → 0 < gn row c → C (gn row c) c = ge u (gn row c) + ge v c
  rle : ∀ c, c ≤ k → gn row c ≤ i
  vfree : ∀ c, 1 ≤ c → c ≤ k → c ≠ h → gn row c = 0 → ge v c = 0
theorem Ph.au (h : Ph n k C i b u v row dist way ord col D) (hr : gn row col = 0) : Au n k C i u v row ord row col ord.length := by
  have h0 : col ≠ 0 := fun e => by subst e; have := h.r0; have := h.i1; omega
  refine ⟨h.m.lr, h.colk, fun _ _ _ _ => rfl, fun c c' h1 h2 _ _ h5 h6 => h.inj_ord h1 h2 h5 h6, fun r h1 h2 => ?_, fun c h1 h2 _ h4 => h.m.tight c h1 h2 h4, fun c hc => (h.row_le hc).1, fun c h1 h2 _ h4 => h.m.vfree c h1 h2 h4⟩
  by_cases e : r = i
  · exact ⟨0, by omega, h0.symm, by rw [h.r0, e]⟩
  · obtain ⟨c, g1, g2, g3⟩ := h.m.cov r h1 (by omega)
    exact ⟨c, g2, fun e => by subst e; omega, g3⟩
/-- A step: the hole goes to the column from which it was reached. -/
theorem Au.step {row0 : List Nat} (hP : Ph n k C i b u v row0 dist way ord col D) {h t : Nat} (ha : Au n k C i u v row0 ord row h t) (h0 : h ≠ 0) (ht : (h = col ∧ t = ord.length) ∨ ord[t]? = some h) :
    ∃ t', t' < t ∧ ord[t']? = some (gn way h) ∧ Au n k C i u v row0 ord (row.set h (gn row (gn way h))) (gn way h) t' := by
  obtain ⟨t', h1, h2, h3⟩ : ∃ t', t' < t ∧ ord[t']? = some (gn way h) ∧ wst C u v (gn row0 (gn way h)) h = 0 := by
    rcases ht with ⟨rfl, rfl⟩ | ht
    · obtain ⟨a1, a2⟩ := hP.wcol h0
      obtain ⟨j, hj, e⟩ := List.getElem_of_mem a1
      exact ⟨j, hj, by rw [List.getElem?_eq_getElem hj, e], a2⟩
    · exact hP.ways t h ht h0
  have hw := List.mem_of_getElem? h2
  have hwk := hP.ole _ hw
  have hwrow := hP.row_ord hw
  have hwo : gn row (gn way h) = gn row0 (gn way h) := ha.old t' _ (by omega) h2
  have hwh : gn way h ≠ h := fun e => by
    rcases ht with ⟨e1, e2⟩ | ht
    · rw [e, e1] at hw; exact hP.cn hw
    · rw [e] at h2
      have g1 := (List.getElem?_eq_some_iff.1 h2)
      have g2 := (List.getElem?_eq_some_iff.1 ht)
      obtain ⟨q1, q2⟩ := g1
      obtain ⟨q3, q4⟩ := g2
      have := (List.nodup_iff_pairwise_ne.1 hP.nd)
      exact (List.pairwise_iff_getElem.1 this) t' t q1 q3 h1 (by rw [q2, q4])
  have es := fun j => gn_set row (i := h) (by have := ha.lr; have := ha.hk; omega) (gn row (gn way h)) j
  refine ⟨t', h1, h2, ?_⟩
  refine ⟨by rw [List.length_set]; exact ha.lr, hwk, fun j c hj hc => ?_, fun c c' g1 g2 g3 g4 g5 g6 => ?_, fun r g1 g2 => ?_, fun c g1 g2 g3 g4 => ?_, fun c hc => ?_, fun c g1 g2 g3 g4 => ?_⟩
  · have hne : c ≠ h := fun e => by
      subst e
      rcases ht with ⟨e1, e2⟩ | ht
      · subst e1; exact hP.cn (List.mem_of_getElem? hc)
      · obtain ⟨q1, q2⟩ := List.getElem?_eq_some_iff.1 hc
        obtain ⟨q3, q4⟩ := List.getElem?_eq_some_iff.1 ht
        exact (List.pairwise_iff_getElem.1 (List.nodup_iff_pairwise_ne.1 hP.nd)) j t q1 q3 (by omega) (by rw [q2, q4])
    rw [es, if_neg hne]
    exact ha.old j c (by omega) hc
  · rw [es, es] at g5
    rw [es] at g6
    by_cases e : c = h
    · rw [if_pos e] at g5 g6
      by_cases e' : c' = h
      · omega
      · rw [if_neg e'] at g5
        exact absurd (ha.inj _ _ hwk g2 hwh e' g5 g6).symm g4
    · rw [if_neg e] at g5 g6
      by_cases e' : c' = h
      · rw [if_pos e'] at g5
        exact absurd (ha.inj _ _ g1 hwk e hwh g5 g6) g3
      · rw [if_neg e'] at g5
        exact ha.inj _ _ g1 g2 e e' g5 g6
  · obtain ⟨c, c1, c2, c3⟩ := ha.cov r g1 g2
    by_cases e : c = gn way h
    · exact ⟨h, ha.hk, hwh.symm, by rw [es, if_pos rfl, ← e, c3]⟩
    · exact ⟨c, c1, e, by rw [es, if_neg c2, c3]⟩
  · rw [es] at g4 ⊢
    by_cases e : c = h
    · rw [if_pos e] at g4 ⊢
      subst e
      rw [hwo]
      unfold wst at h3
      omega
    · rw [if_neg e] at g4 ⊢
      exact ha.tight c g1 g2 e g4
  · rw [es]
    split
    · exact ha.rle _ hwk
    · exact ha.rle c hc
  · rw [es] at g4
    by_cases e : c = h
    · rw [if_pos e, hwo] at g4
      omega
    · rw [if_neg e] at g4
      exact ha.vfree c g1 g2 e g4
/-- The end of a phase. -/
theorem Au.done {row0 : List Nat} (hP : Ph n k C i b u v row0 dist way ord col D) {t : Nat} (ha : Au n k C i u v row0 ord row 0 t) : Mt n k C i i u v row (b + D) :=
  { lu := hP.m.lu, lv := hP.m.lv, lr := ha.lr, red := hP.m.red, tight := fun c h1 h2 h3 => ha.tight c h1 h2 (by omega) h3, rle := fun c h1 h2 => ha.rle c h2, inj := fun c c' h1 h2 h3 h4 h5 h6 => ha.inj c c' h2 h4 (by omega) (by omega) h5 h6, cov := fun r h1 h2 => (by obtain ⟨c, g1, g2, g3⟩ := ha.cov r h1 h2; exact ⟨c, by omega, g1, g3⟩), vb := hP.m.vb, vfree := fun c h1 h2 h3 => ha.vfree c h1 h2 (by omega) h3, ub := hP.m.ub, ufree := hP.m.ufree }
/-- The beginning of a phase. -/
theorem Mt.phase (h : Mt n k C (i - 1) (i - 1) u v row b) (h1 : 1 ≤ i) (h2 : i ≤ n) (hld : dist.length = k + 1) (hlw : way.length = k + 1) (hd : ∀ c, c ≤ k → ge dist c = (1152921504606846976 : Int)) : Ph n k C i b u v (row.set 0 i) dist way [] 0 0 := by
  have es := fun j => gn_set row (i := 0) (by have := h.lr; omega) i j
  have e1 : ∀ c, 1 ≤ c → gn (row.set 0 i) c = gn row c := fun c hc => by rw [es, if_neg (by omega)]
  refine { m := ?_, i1 := h1, iN := h2, r0 := (by rw [es, if_pos rfl]), ld := hld, lw := hlw, D0 := ⟨(by omega), (by decide)⟩, nd := List.nodup_nil, ole := fun c hc => (by cases hc), orow := fun c hc => (by cases hc), colk := Nat.zero_le _, cn := (by simp), start := fun _ => ⟨rfl, rfl, hd⟩, zero := fun h => absurd rfl h, ways := fun j c hj => (by simp at hj), wcol := fun h => absurd rfl h, out := fun h => absurd rfl h, free := fun h => absurd rfl h }
  refine { lu := h.lu, lv := h.lv, lr := (by rw [List.length_set]; exact h.lr), red := h.red, tight := fun c h1 h2 h3 => ?_, rle := fun c h1 h2 => ?_, inj := fun c c' h1 h2 h3 h4 h5 h6 => ?_, cov := fun r h1 h2 => ?_, vb := fun c hc => (by have := h.vb c hc; omega), vfree := fun c h1 h2 h3 => ?_, ub := fun r hr => (by have := h.ub r hr; omega), ufree := fun r h1 h2 => h.ufree r (by omega) h2 }
  · rw [e1 c h1] at h3 ⊢
    exact h.tight c h1 h2 h3
  · rw [e1 c h1]
    exact h.rle c h1 h2
  · rw [e1 c h1, e1 c' h3] at h5
    rw [e1 c h1] at h6
    exact h.inj c c' h1 h2 h3 h4 h5 h6
  · obtain ⟨c, g1, g2, g3⟩ := h.cov r h1 h2
    exact ⟨c, g1, g2, by rw [e1 c g1]; exact g3⟩
  · rw [e1 c h1] at h3
    exact h.vfree c h1 h2 h3

end Go.Proofs.Ytdenjldadlgniaa
