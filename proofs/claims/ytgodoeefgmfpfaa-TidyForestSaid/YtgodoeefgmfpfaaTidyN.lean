/- Tidy drawings: the part of a subtree has the properties of the chapter, and how far it extends. No program in sight. -/
import Derived.Test.YtgodoeefgmfpfaaTidyM
set_option linter.unusedSimpArgs false
set_option linter.unusedVariables false
namespace Go.Proofs.Ytgodoeefgmfpfaa

/-- The part of one subtree. -/
structure SubOK (P W : List Int) (sep : Int) (v : Nat) (s : Dr) : Prop extends Part P W sep s where
  vert : ∀ u, u ∈ verts s ↔ Bel P v u
  root : (v, 0) ∈ s
/-- The part of a row of subtrees of siblings. -/
structure RowOK (P W : List Int) (sep : Int) (l : List Nat) (s : Dr) : Prop extends Part P W sep s where
  vert : ∀ u, u ∈ verts s ↔ ∃ c ∈ l, Bel P c u
  first : ∀ c ∈ l.tail, Tight P W sep s c

theorem sib_dep {P : List Int} (h : vFor P) {p : Int} {a b : Nat} (ha : a ∈ kids P p) (hb : b ∈ kids P p) : dep P a = dep P b := by
  obtain ⟨h1, h2⟩ := mem_kids.1 ha
  obtain ⟨h3, h4⟩ := mem_kids.1 hb
  by_cases h0 : p < 0
  · rw [dep_root (by omega), dep_root (by omega)]
  · obtain ⟨q, rfl⟩ := Int.eq_ofNat_of_zero_le (by omega : 0 ≤ p)
    rw [dep_kid h h1 h2, dep_kid h h3 h4]

/-- A row with one subtree more. -/
theorem RowOK.snoc {P W : List Int} {sep : Int} (hP : vFor P) {p : Int} {l : List Nat} {v : Nat} {s t : Dr} (hl : ∀ c ∈ l, c ∈ kids P p) (hv : v ∈ kids P p) (hlt : ∀ c ∈ l, c < v)
    (hs : RowOK P W sep l s) (ht : SubOK P W sep v t) : RowOK P W sep (l ++ [v]) (s ++ mvD t (shD P W sep s t)) := by
  have hdis : ∀ u, u ∈ verts s → u ∈ verts t → False := fun u h1 h2 => by
    obtain ⟨c, hc, hb⟩ := (hs.vert u).1 h1
    have := Bel.unique hP hb ((ht.vert u).1 h2) (sib_dep hP (hl c hc) hv)
    have := hlt c hc
    omega
  have hmv := ht.toPart.mv (shD P W sep s t)
  -- every pair stands apart
  have hap : ∀ a ∈ s, ∀ b ∈ mvD t (shD P W sep s t), dep P a.1 = dep P b.1 → rtE W a + sep ≤ lfE W b := by
    intro a ha b hb hd
    obtain ⟨b', hb', e1, e2, _, _⟩ := lfE_mem (W := W) hb
    have := (shD_spec (W := W) (sep := sep) ha hb' (by rw [e1]; exact hd)).2 a ha b' hb' (by rw [e1]; exact hd)
    unfold need at this
    omega
  refine ⟨⟨?_, ?_, ?_, ?_⟩, ?_, ?_⟩
  · rw [verts_append, verts_mvD, List.nodup_append]
    refine ⟨hs.nodup, ht.nodup, fun a ha b hb e => ?_⟩
    subst e
    exact hdis a ha hb
  · intro a ha b hb hne hd
    rcases List.mem_append.1 ha with ha | ha <;> rcases List.mem_append.1 hb with hb | hb
    · exact hs.sepa a ha b hb hne hd
    · exact Or.inl (hap a ha b hb hd)
    · exact Or.inr (hap b hb a ha hd.symm)
    · exact hmv.sepa a ha b hb hne hd
  · intro u x hx
    rcases List.mem_append.1 hx with hx | hx
    · exact (hs.mid u x hx).mono (fun q hq => List.mem_append_left _ hq)
    · exact (hmv.mid u x hx).mono (fun q hq => List.mem_append_right _ hq)
  · intro u hu c hc
    rw [verts_append] at hu
    rcases List.mem_append.1 hu with hu | hu
    · exact (hs.tight u hu c hc).mono (fun q hq => List.mem_append_left _ hq)
    · exact (hmv.tight u hu c hc).mono (fun q hq => List.mem_append_right _ hq)
  · intro u
    rw [verts_append, verts_mvD, List.mem_append, hs.vert, ht.vert]
    constructor
    · rintro (⟨c, hc, hb⟩ | hb)
      · exact ⟨c, by simp [hc], hb⟩
      · exact ⟨v, by simp, hb⟩
    · rintro ⟨c, hc, hb⟩
      rcases List.mem_append.1 hc with hc | hc
      · exact Or.inl ⟨c, hc, hb⟩
      · simp at hc; subst hc; exact Or.inr hb
  · intro c hc
    cases l with
    | nil => simp at hc
    | cons c0 l =>
      rw [List.cons_append, List.tail_cons] at hc
      rcases List.mem_append.1 hc with hc | hc
      · exact (hs.first c hc).mono (fun q hq => List.mem_append_left _ hq)
      · simp at hc
        subst hc
        -- the new subtree touches an earlier one
        obtain ⟨x0, hx0⟩ := mem_verts.1 ((hs.vert c0).2 ⟨c0, List.mem_cons_self, Bel.self⟩)
        obtain ⟨⟨a, ha, b, hb, hd, he⟩, _⟩ := shD_spec (W := W) (sep := sep) hx0 ht.root (sib_dep hP (hl c0 List.mem_cons_self) hv)
        obtain ⟨e, hel, hbe⟩ := (hs.vert a.1).1 (mem_verts.2 ⟨a.2, ha⟩)
        refine ⟨e, hlt e hel, ?_, (mem_kids.1 (hl e hel)).1, a, List.mem_append_left _ ha, (b.1, b.2 + shD P W sep s t), List.mem_append_right _ (List.mem_map.2 ⟨b, hb, rfl⟩), hbe, (ht.vert b.1).1 (mem_verts.2 ⟨b.2, hb⟩), hd, ?_⟩
        · rw [(mem_kids.1 (hl e hel)).2, (mem_kids.1 hv).2]
        · rw [lfE_mv, he]
          unfold need
          show rtE W a + sep = lfE W b + (rtE W a + sep - lfE W b)
          omega

theorem RowOK.nil (P W : List Int) (sep : Int) : RowOK P W sep [] [] :=
  ⟨⟨by simp [verts], (fun p hp => by cases hp), (fun u x hx => by cases hx), (fun u hu => by simp [verts] at hu)⟩, (fun u => by simp [verts]), (fun c hc => by cases hc)⟩

/-- A row of a sorted list of siblings. -/
theorem rowD_ok {P W : List Int} {sep : Int} (hP : vFor P) {p : Int} {sub : Nat → Dr} : ∀ (l : List Nat), (∀ c ∈ l, c ∈ kids P p) → l.Pairwise (· < ·) → (∀ c ∈ l, SubOK P W sep c (sub c)) → RowOK P W sep l (rowD P W sep sub l) := by
  intro l
  suffices h : ∀ n, n ≤ l.length → (∀ c ∈ l, c ∈ kids P p) → l.Pairwise (· < ·) → (∀ c ∈ l, SubOK P W sep c (sub c)) → RowOK P W sep (l.take n) (rowD P W sep sub (l.take n)) by
    intro h1 h2 h3
    have := h l.length (Nat.le_refl _) h1 h2 h3
    rwa [List.take_length] at this
  intro n
  induction n with
  | zero => intro _ _ _ _; exact RowOK.nil P W sep
  | succ n ih =>
    intro hn h1 h2 h3
    have hlt : n < l.length := by omega
    rw [List.take_succ_eq_append_getElem hlt, rowD_snoc]
    refine RowOK.snoc hP (p := p) (fun c hc => h1 c (List.mem_of_mem_take hc)) (h1 _ (List.getElem_mem hlt)) (fun c hc => ?_) (ih (by omega) h1 h2 h3) (h3 _ (List.getElem_mem hlt))
    obtain ⟨i, hi, rfl⟩ := List.getElem_of_mem hc
    rw [List.getElem_take]
    rw [List.length_take] at hi
    exact (List.pairwise_iff_getElem.1 h2) i n (by omega) hlt (by omega)

theorem subD_ok {P W : List Int} {sep : Int} (hP : vFor P) : ∀ (k v : Nat), v < P.length → P.length ≤ v + k → SubOK P W sep v (subD P W sep k v)
  | 0, v, hv, hk => by omega
  | k + 1, v, hv, hk => by
    have hsub : ∀ c ∈ kids P v, SubOK P W sep c (subD P W sep k c) := fun c hc => subD_ok hP k c (mem_kids.1 hc).1 (by have := kid_gt hP hc; omega)
    simp only [subD]
    cases hks : kids P v with
    | nil =>
      refine ⟨⟨by simp [verts], fun p hp q hq hne => ?_, fun u x hx => ?_, fun u hu c hc => ?_⟩, fun u => ?_, by simp⟩
      · simp at hp hq; subst hp; subst hq; exact absurd rfl hne
      · simp at hx
        obtain ⟨rfl, rfl⟩ := hx
        intro c cs hc
        rw [hks] at hc; cases hc
      · simp [verts] at hu; subst hu
        rw [hks] at hc; cases hc
      · simp only [verts, List.map_cons, List.map_nil, List.mem_singleton]
        constructor
        · rintro rfl; exact Bel.self
        · intro hb
          rcases hb.split with h | ⟨c, hc, _⟩
          · exact h
          · rw [hks] at hc; cases hc
    | cons c cs =>
      have hrow : RowOK P W sep (c :: cs) (rowD P W sep (subD P W sep k) (c :: cs)) := by
        rw [← hks]
        exact rowD_ok hP (p := (v : Int)) _ (fun c hc => hc) (kids_sorted P v) hsub
      have hlast : (c :: cs).getLast (by simp) ∈ kids P v := by rw [hks]; exact List.getLast_mem _
      obtain ⟨a, ha⟩ := mem_verts.1 ((hrow.vert c).2 ⟨c, List.mem_cons_self, Bel.self⟩)
      obtain ⟨b, hb⟩ := mem_verts.1 ((hrow.vert ((c :: cs).getLast (by simp))).2 ⟨_, List.getLast_mem _, Bel.self⟩)
      dsimp only
      rw [atD_of hrow.nodup ha, atD_of hrow.nodup hb]
      have hmv := hrow.toPart.mv (-((a + b) / 2))
      have hnot : v ∉ verts (rowD P W sep (subD P W sep k) (c :: cs)) := fun h => by
        obtain ⟨e, he, hbe⟩ := (hrow.vert v).1 h
        have := bel_ge hP hbe
        have := kid_gt hP (v := v) (u := e) (by rw [hks]; exact he)
        omega
      have hsub' : ∀ q ∈ mvD (rowD P W sep (subD P W sep k) (c :: cs)) (-((a + b) / 2)), q ∈ mvD (rowD P W sep (subD P W sep k) (c :: cs)) (-((a + b) / 2)) ++ [(v, 0)] := fun q hq => List.mem_append_left _ hq
      -- the root alone stands at its depth
      have hdep : ∀ q ∈ mvD (rowD P W sep (subD P W sep k) (c :: cs)) (-((a + b) / 2)), dep P v < dep P q.1 := fun q hq => by
        obtain ⟨r, hr, e1, _⟩ := lfE_mem (W := W) hq
        obtain ⟨e, he, hbe⟩ := (hrow.vert r.1).1 (mem_verts.2 ⟨r.2, hr⟩)
        have h1 := bel_dep hP hbe
        have he' : e ∈ kids P v := by rw [hks]; exact he
        have h2 := dep_kid hP (mem_kids.1 he').1 (mem_kids.1 he').2
        rw [← e1]
        omega
      refine ⟨⟨?_, ?_, ?_, ?_⟩, ?_, by simp⟩
      · rw [verts_append, verts_mvD, List.nodup_append]
        refine ⟨hrow.nodup, by simp [verts], fun x hx y hy e => ?_⟩
        simp [verts] at hy
        subst hy; subst e
        exact hnot hx
      · intro p hp q hq hne hd
        rcases List.mem_append.1 hp with hp | hp <;> rcases List.mem_append.1 hq with hq | hq
        · exact hmv.sepa p hp q hq hne hd
        · simp at hq; subst hq
          have := hdep p hp
          simp at hd; omega
        · simp at hp; subst hp
          have := hdep q hq
          simp at hd; omega
        · simp at hp hq; subst hp; subst hq; exact absurd rfl hne
      · intro u x hx
        rcases List.mem_append.1 hx with hx | hx
        · exact (hmv.mid u x hx).mono hsub'
        · simp at hx
          obtain ⟨rfl, rfl⟩ := hx
          intro c' cs' hc'
          rw [hks] at hc'
          cases hc'
          refine ⟨a + -((a + b) / 2), b + -((a + b) / 2), hsub' _ (List.mem_map.2 ⟨_, ha, rfl⟩), hsub' _ (List.mem_map.2 ⟨_, hb, rfl⟩), ?_⟩
          omega
      · intro u hu e he
        rw [verts_append] at hu
        rcases List.mem_append.1 hu with hu | hu
        · exact (hmv.tight u hu e he).mono hsub'
        · simp [verts] at hu
          subst hu
          rw [hks] at he
          exact ((hrow.first e he).mv _).mono hsub'
      · intro u
        rw [verts_append, verts_mvD, List.mem_append, hrow.vert]
        simp only [verts, List.map_cons, List.map_nil, List.mem_singleton]
        constructor
        · rintro (⟨e, he, hb⟩ | rfl)
          · exact Bel.kid (by rw [hks]; exact he) hb
          · exact Bel.self
        · intro hb
          rcases hb.split with h | ⟨e, he, hbe⟩
          · exact Or.inr h
          · exact Or.inl ⟨e, by rw [hks] at he; exact he, hbe⟩

/-! ### How far a part extends -/
/-- All boxes of s lie between L and R, which are no farther apart than its number of boxes allows. -/
def Span (W : List Int) (s : Dr) (L R : Int) : Prop := (∀ q ∈ s, L ≤ lfE W q ∧ rtE W q ≤ R) ∧ R - L + 1048576 ≤ 2097152 * s.length
def wOK (W : List Int) (sep : Int) : Prop := 0 ≤ sep ∧ sep ≤ 1048576 ∧ ∀ u, 0 ≤ ge W u ∧ ge W u ≤ 1048576
theorem Span.mv {W : List Int} {s : Dr} {L R : Int} (h : Span W s L R) (b : Int) : Span W (mvD s b) (L + b) (R + b) := by
  refine ⟨fun q hq => ?_, by rw [mvD_length]; have := h.2; omega⟩
  obtain ⟨r, hr, _, e2, e3, _⟩ := lfE_mem (W := W) hq
  have := h.1 r hr
  omega
theorem lf_rt {W : List Int} {sep : Int} (hW : wOK W sep) (q : Nat × Int) : lfE W q ≤ q.2 ∧ q.2 ≤ rtE W q := by
  have := hW.2.2 q.1
  unfold rtE lfE
  omega

theorem Span.one {W : List Int} {sep : Int} (hW : wOK W sep) (v : Nat) : Span W [(v, 0)] (lfE W (v, 0)) (rtE W (v, 0)) := by
  refine ⟨fun q hq => by simp at hq; subst hq; exact ⟨Int.le_refl _, Int.le_refl _⟩, ?_⟩
  have := hW.2.2 v
  unfold rtE
  simp
  omega

/-- A row with one subtree more: its span. -/
theorem Span.snoc {P W : List Int} {sep : Int} (hW : wOK W sep) {s t : Dr} {L R L' R' : Int} (hs : Span W s L R) (ht : Span W t L' R') (hp : ∃ p ∈ s, ∃ q ∈ t, dep P p.1 = dep P q.1) :
    ∃ A B, A ≤ L ∧ R ≤ B ∧ Span W (s ++ mvD t (shD P W sep s t)) A B := by
  obtain ⟨p, hp, q, hq, hd⟩ := hp
  obtain ⟨⟨a, ha, b, hb, _, he⟩, _⟩ := shD_spec (W := W) (sep := sep) hp hq hd
  have h1 := hs.1 a ha
  have h2 := ht.1 b hb
  have h3 := lf_rt hW a
  have h4 := lf_rt hW b
  have h5 := hW.1
  have h6 := hW.2.1
  have h7 := hs.2
  have h8 := ht.2
  unfold need at he
  have hlen : 0 < s.length := List.length_pos_of_mem ha
  have hlen2 : 0 < t.length := List.length_pos_of_mem hb
  have hmv := ht.mv (shD P W sep s t)
  refine ⟨min L (L' + shD P W sep s t), max R (R' + shD P W sep s t), by omega, by omega, fun q hq => ?_, ?_⟩
  · rcases List.mem_append.1 hq with hq | hq
    · have := hs.1 q hq; omega
    · have := hmv.1 q hq; omega
  · rw [List.length_append, mvD_length]
    have e : ((s.length + t.length : Nat) : Int) = (s.length : Int) + t.length := by omega
    rw [e]
    omega

/-- A vertex above the middle of two boxes: the span with it. -/
theorem Span.parent {W : List Int} {sep : Int} (hW : wOK W sep) {s : Dr} {L R : Int} (hs : Span W s L R) {c d : Nat} {a b : Int} (ha : (c, a) ∈ s) (hb : (d, b) ∈ s) (v : Nat) :
    ∃ A B, A ≤ L - (a + b) / 2 ∧ R - (a + b) / 2 ≤ B ∧ Span W (mvD s (-((a + b) / 2)) ++ [(v, 0)]) A B := by
  have h1 := hs.1 _ ha
  have h2 := hs.1 _ hb
  have h3 := lf_rt hW (c, a)
  have h4 := lf_rt hW (d, b)
  have h5 := hW.2.2 v
  have h6 := hs.2
  dsimp only at h3 h4
  have hm := hs.mv (-((a + b) / 2))
  have hv : lfE W (v, 0) = - (ge W v / 2) := by unfold lfE; simp
  have hv2 : rtE W (v, 0) = - (ge W v / 2) + ge W v := by unfold rtE; rw [hv]
  refine ⟨min (L - (a + b) / 2) (lfE W (v, 0)), max (R - (a + b) / 2) (rtE W (v, 0)), by omega, by omega, fun q hq => ?_, ?_⟩
  · rcases List.mem_append.1 hq with hq | hq
    · have := hm.1 q hq; omega
    · simp at hq; subst hq; omega
  · rw [List.length_append, mvD_length]
    simp only [List.length_cons, List.length_nil]
    have e : ((s.length + (0 + 1) : Nat) : Int) = (s.length : Int) + 1 := by omega
    rw [e, hv, hv2]
    omega

/-- The spans of all parts, 0 lying in each where it is moved by t (the first leaf stands at 0 before all moves). -/
def SpanZ (W : List Int) (s : Dr) (t : Int) : Prop := ∃ L R, Span W s L R ∧ L + t ≤ 0 ∧ 0 ≤ R + t
theorem SpanZ.one {W : List Int} {sep : Int} (hW : wOK W sep) (v : Nat) : SpanZ W [(v, 0)] 0 := by
  have := lf_rt hW (v, 0)
  dsimp only at this
  exact ⟨_, _, Span.one hW v, by omega, by omega⟩
theorem SpanZ.bd {W : List Int} {sep : Int} (hW : wOK W sep) {s : Dr} {t : Int} (h : SpanZ W s t) (hl : s.length ≤ 64) : ∀ q ∈ s, -134217728 ≤ q.2 + t ∧ q.2 + t ≤ 134217728 ∧ -134217728 ≤ lfE W q + t ∧ lfE W q + t ≤ 134217728 ∧ -134217728 ≤ rtE W q + t ∧ rtE W q + t ≤ 134217728 := by
  obtain ⟨L, R, ⟨h1, h2⟩, h3, h4⟩ := h
  intro q hq
  have h5 := h1 q hq
  have h6 := lf_rt hW q
  omega
theorem SpanZ.snoc {P W : List Int} {sep : Int} (hW : wOK W sep) {s t : Dr} {b b' : Int} (hs : SpanZ W s b) (ht : SpanZ W t b') (hp : ∃ p ∈ s, ∃ q ∈ t, dep P p.1 = dep P q.1) : SpanZ W (s ++ mvD t (shD P W sep s t)) b := by
  obtain ⟨L, R, h1, h2, h3⟩ := hs
  obtain ⟨L', R', h4, _, _⟩ := ht
  obtain ⟨A, B, hA, hB, h⟩ := Span.snoc hW h1 h4 hp
  exact ⟨A, B, h, by omega, by omega⟩
theorem SpanZ.parent {W : List Int} {sep : Int} (hW : wOK W sep) {s : Dr} {t : Int} (hs : SpanZ W s t) {c d : Nat} {a b : Int} (ha : (c, a) ∈ s) (hb : (d, b) ∈ s) (v : Nat) :
    SpanZ W (mvD s (-((a + b) / 2)) ++ [(v, 0)]) ((a + b) / 2 + t) := by
  obtain ⟨L, R, h1, h2, h3⟩ := hs
  obtain ⟨A, B, hA, hB, h⟩ := Span.parent hW h1 ha hb v
  exact ⟨A, B, h, by omega, by omega⟩
/-- With its root in place. -/
theorem SubOK.spanZ {P W : List Int} {sep : Int} (hW : wOK W sep) {v : Nat} {s : Dr} (h : SubOK P W sep v s) {t : Int} (hz : SpanZ W s t) : SpanZ W s 0 := by
  obtain ⟨L, R, h1, _, _⟩ := hz
  have h2 := h1.1 _ h.root
  have h3 := lf_rt hW (v, 0)
  dsimp only at h3
  exact ⟨L, R, h1, by omega, by omega⟩

theorem verts_len {s : Dr} : s.length = (verts s).length := by simp [verts]
theorem nodup_len {l : List Nat} (h : l.Nodup) {n : Nat} (hl : ∀ u ∈ l, u < n) : l.length ≤ n := by
  induction n generalizing l with
  | zero =>
    cases l with
    | nil => simp
    | cons x l => have := hl x List.mem_cons_self; omega
  | succ n ih =>
    have h1 := ih (l := l.filter (· != n)) (h.filter _) (fun u hu => by
      rw [List.mem_filter] at hu
      have := hl u hu.1
      have h2 : u ≠ n := by simpa using hu.2
      omega)
    have h2 : l.length ≤ (l.filter (· != n)).length + 1 := by
      clear ih h1 hl
      induction l with
      | nil => simp
      | cons x l ih =>
        rw [List.nodup_cons] at h
        by_cases hx : x = n
        · subst hx
          have : l.filter (· != x) = l := List.filter_eq_self.2 fun y hy => by
            have : y ≠ x := fun e => h.1 (e ▸ hy)
            simpa using this
          simp [this]
        · have := ih h.2
          rw [List.filter_cons, if_pos (by simpa using hx)]
          simp only [List.length_cons]
          omega
    omega
theorem SubOK.len {P W : List Int} {sep : Int} (hP : vFor P) {v : Nat} (hv : v < P.length) {s : Dr} (h : SubOK P W sep v s) : s.length ≤ 64 := by
  rw [verts_len]
  have := nodup_len h.nodup (n := P.length) (fun u hu => ((h.vert u).1 hu).lt hv)
  have := hP.1
  omega
theorem RowOK.len {P W : List Int} {sep : Int} (hP : vFor P) {l : List Nat} (hl : ∀ c ∈ l, c < P.length) {s : Dr} (h : RowOK P W sep l s) : s.length ≤ 64 := by
  rw [verts_len]
  have := nodup_len h.nodup (n := P.length) (fun u hu => by
    obtain ⟨c, hc, hb⟩ := (h.vert u).1 hu
    exact hb.lt (hl c hc))
  have := hP.1
  omega

end Go.Proofs.Ytgodoeefgmfpfaa
