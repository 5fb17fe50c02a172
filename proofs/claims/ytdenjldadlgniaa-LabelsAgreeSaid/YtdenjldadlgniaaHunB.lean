/- The Hungarian method, plain: a phase. -/
import Derived.Test.YtdenjldadlgniaaHunA
set_option linter.unusedSimpArgs false
set_option linter.unusedVariables false
namespace Go.Proofs.Ytdenjldadlgniaa

/-- What row r and column c have left. -/
def wst (C : Nat → Nat → Int) (u v : List Int) (r c : Nat) : Int := C r c - ge u r - ge v c

/-- A phase, at the head of its loop: ord are the columns that are used, col is the next one, D what has been added so far. -/
structure Ph (n k : Nat) (C : Nat → Nat → Int) (i : Nat) (b : Int) (u v : List Int) (row : List Nat) (dist : List Int) (way : List Nat) (ord : List Nat) (col : Nat) (D : Int) : Prop where
  m : Mt n k C i (i - 1) u v row (b + D)
  i1 : 1 ≤ i
  iN : i ≤ n
  r0 : gn row 0 = i
  ld : dist.length = k + 1
  lw : way.length = k + 1
  D0 : 0 ≤ D ∧ D ≤ (1099511627776 : Int)
  nd : ord.Nodup
  ole : ∀ c ∈ ord, c ≤ k
  orow : ∀ c ∈ ord, c ≠ 0 → 0 < gn row c
  colk : col ≤ k
  cn : col ∉ ord
  start : ord = [] → col = 0 ∧ D = 0 ∧ ∀ c, c ≤ k → ge dist c = (1152921504606846976 : Int)
  zero : ord ≠ [] → 0 ∈ ord
  ways : ∀ (j c : Nat), ord[j]? = some c → c ≠ 0 → ∃ j' : Nat, j' < j ∧ ord[j']? = some (gn way c) ∧ wst C u v (gn row (gn way c)) c = 0
  wcol : col ≠ 0 → gn way col ∈ ord ∧ wst C u v (gn row (gn way col)) col = 0
  out : ord ≠ [] → ∀ c, 1 ≤ c → c ≤ k → c ∉ ord → gn way c ∈ ord ∧ ge dist c = wst C u v (gn row (gn way c)) c ∧ ∀ c' ∈ ord, ge dist c ≤ wst C u v (gn row c') c
  free : ord ≠ [] → ∀ c, 1 ≤ c → c ≤ k → c ∉ ord → gn row c = 0 → ge dist c + D ≤ (1099511627776 : Int)

variable {n k : Nat} {C : Nat → Nat → Int} {i : Nat} {b : Int} {u v : List Int} {row : List Nat} {dist : List Int} {way ord : List Nat} {col : Nat} {D : Int}

theorem Ph.row_le (h : Ph n k C i b u v row dist way ord col D) {c : Nat} (hc : c ≤ k) : gn row c ≤ i ∧ (c ≠ 0 → gn row c ≤ i - 1) := by
  have := h.i1
  rcases Nat.eq_zero_or_pos c with e | e
  · subst e
    have := h.r0
    exact ⟨by omega, fun h => absurd rfl h⟩
  · have := h.m.rle c e hc
    exact ⟨by omega, fun _ => this⟩
theorem Ph.row_ord (h : Ph n k C i b u v row dist way ord col D) {c : Nat} (hc : c ∈ ord) : 1 ≤ gn row c ∧ gn row c ≤ n := by
  have h1 := h.row_le (h.ole c hc)
  have := h.iN
  have := h.i1
  refine ⟨?_, by omega⟩
  by_cases e : c = 0
  · subst e; have := h.r0; omega
  · exact h.orow c hc e
theorem Ph.inj_ord (h : Ph n k C i b u v row dist way ord col D) {c c' : Nat} (hc : c ≤ k) (hc' : c' ≤ k) (he : gn row c = gn row c') (hp : 0 < gn row c) : c = c' := by
  have h1 := h.row_le hc
  have h2 := h.row_le hc'
  have := h.r0
  have := h.i1
  by_cases e : c = 0
  · by_cases e' : c' = 0
    · omega
    · have := h2.2 e'; subst e; omega
  · by_cases e' : c' = 0
    · have := h1.2 e; subst e'; omega
    · exact h.m.inj c c' (by omega) hc (by omega) hc' he hp
theorem Ph.red_ord (h : Ph n k C i b u v row dist way ord col D) {c' c : Nat} (hc' : c' ∈ ord) (h1 : 1 ≤ c) (h2 : c ≤ k) : 0 ≤ wst C u v (gn row c') c := by
  have := h.row_ord hc'
  exact h.m.red _ _ this.1 this.2 h1 h2
theorem Ph.dist_lo (h : Ph n k C i b u v row dist way ord col D) {c : Nat} (h1 : 1 ≤ c) (h2 : c ≤ k) (hn : c ∉ ord) : 0 ≤ ge dist c := by
  by_cases e : ord = []
  · rw [(h.start e).2.2 c h2]; decide
  · obtain ⟨a1, a2, _⟩ := h.out e c h1 h2 hn
    rw [a2]
    exact h.red_ord a1 h1 h2

/-- The scan for the next column, c being the next place: r is the row of col. -/
structure Sc (n k : Nat) (C : Nat → Nat → Int) (u v : List Int) (r col : Nat) (ord : List Nat) (dist : List Int) (way : List Nat) (c : Nat) (dist' : List Int) (way' : List Nat) (delta : Int) (next : Nat) : Prop where
  ld : dist'.length = k + 1
  lw : way'.length = k + 1
  same : ∀ j, j ≤ k → (c ≤ j ∨ j = 0 ∨ j ∈ ord ∨ j = col) → ge dist' j = ge dist j ∧ gn way' j = gn way j
  new : ∀ j, 1 ≤ j → j < c → j ≤ k → j ∉ ord → j ≠ col → (wst C u v r j < ge dist j → ge dist' j = wst C u v r j ∧ gn way' j = col) ∧ (¬ wst C u v r j < ge dist j → ge dist' j = ge dist j ∧ gn way' j = gn way j)
  nil : next = 0 → delta = (1152921504606846976 : Int) ∧ ∀ j, 1 ≤ j → j < c → j ∈ ord ∨ j = col
  got : next ≠ 0 → next < c ∧ next ≤ k ∧ next ∉ ord ∧ next ≠ col ∧ delta = ge dist' next ∧ ∀ j, 1 ≤ j → j < c → j ≤ k → j ∉ ord → j ≠ col → delta ≤ ge dist' j

theorem Sc.begin (r col : Nat) (ord : List Nat) (hd : dist.length = k + 1) (hw : way.length = k + 1) : Sc n k C u v r col ord dist way 1 dist way (1152921504606846976 : Int) 0 :=
  ⟨hd, hw, fun j _ _ => ⟨rfl, rfl⟩, fun j h1 h2 => by omega, fun _ => ⟨rfl, fun j h1 h2 => by omega⟩, fun h => absurd rfl h⟩
variable {r : Nat} {dist' : List Int} {way' : List Nat} {delta : Int} {next c : Nat}
/-- A column that is used. -/
theorem Sc.skip (h : Sc n k C u v r col ord dist way c dist' way' delta next) (hu : c ∈ ord ∨ c = col) : Sc n k C u v r col ord dist way (c + 1) dist' way' delta next := by
  refine ⟨h.ld, h.lw, fun j hk hj => ?_, fun j h1 h2 h3 h4 h5 => ?_, fun hn => ⟨(h.nil hn).1, fun j h1 h2 => ?_⟩, fun hn => ?_⟩
  · exact h.same j hk (hj.imp (fun h => by omega) id)
  · have : j ≠ c := fun e => by subst e; rcases hu with hu | hu; exact h4 hu; exact h5 hu
    exact h.new j h1 (by omega) h3 h4 h5
  · by_cases e : j = c
    · subst e; exact hu
    · exact (h.nil hn).2 j h1 (by omega)
  · obtain ⟨a1, a2, a3, a4, a5, a6⟩ := h.got hn
    refine ⟨by omega, a2, a3, a4, a5, fun j h1 h2 h3 h4 h5 => a6 j h1 ?_ h3 h4 h5⟩
    have : j ≠ c := fun e => by subst e; rcases hu with hu | hu; exact h4 hu; exact h5 hu
    omega
/-- A column that is not used: d, w are the values behind the first test. -/
theorem Sc.take (h : Sc n k C u v r col ord dist way c dist' way' delta next) (h1 : 1 ≤ c) (hck : c ≤ k) (hu : c ∉ ord) (hc : c ≠ col) {d2 : List Int} {w2 : List Nat}
    (hl : d2.length = k + 1) (hlw : w2.length = k + 1)
    (hd : (wst C u v r c < ge dist' c ∧ d2 = dist'.set c (wst C u v r c) ∧ w2 = way'.set c col) ∨ (¬ wst C u v r c < ge dist' c ∧ d2 = dist' ∧ w2 = way'))
    (hinf : ge d2 c < (1152921504606846976 : Int)) {delta2 : Int} {next2 : Nat} (hn : (ge d2 c < delta ∧ delta2 = ge d2 c ∧ next2 = c) ∨ (¬ ge d2 c < delta ∧ delta2 = delta ∧ next2 = next)) :
    Sc n k C u v r col ord dist way (c + 1) d2 w2 delta2 next2 := by
  obtain ⟨s1, s2⟩ := h.same c hck (Or.inl (Nat.le_refl _))
  have hoff : ∀ j, j ≠ c → ge d2 j = ge dist' j ∧ gn w2 j = gn way' j := fun j hj => by
    rcases hd with ⟨_, rfl, rfl⟩ | ⟨_, rfl, rfl⟩
    · rw [ge_set dist' (by rw [h.ld]; omega), gn_set way' (by rw [h.lw]; omega), if_neg hj, if_neg hj]
      exact ⟨rfl, rfl⟩
    · exact ⟨rfl, rfl⟩
  refine ⟨hl, hlw, fun j hk hj => ?_, fun j g1 g2 g3 g4 g5 => ?_, fun hz => ?_, fun hz => ?_⟩
  · have hjc : j ≠ c := fun e => by
      subst e
      rcases hj with hj | hj | hj | hj
      · omega
      · omega
      · exact hu hj
      · exact hc hj
    obtain ⟨a1, a2⟩ := hoff j hjc
    rw [a1, a2]
    exact h.same j hk (hj.imp (fun h => by omega) id)
  · by_cases e : j = c
    · subst e
      rcases hd with ⟨q1, rfl, rfl⟩ | ⟨q1, rfl, rfl⟩
      · rw [ge_set dist' (by rw [h.ld]; omega), gn_set way' (by rw [h.lw]; omega), if_pos rfl, if_pos rfl]
        exact ⟨fun _ => ⟨rfl, rfl⟩, fun hno => absurd (by omega) hno⟩
      · exact ⟨fun hy => absurd (by omega) q1, fun _ => ⟨s1, s2⟩⟩
    · obtain ⟨a1, a2⟩ := hoff j e
      rw [a1, a2]
      exact h.new j g1 (by omega) g3 g4 g5
  · rcases hn with ⟨_, _, q3⟩ | ⟨q1, q2, q3⟩
    · omega
    · have := (h.nil (by omega)).1
      omega
  · rcases hn with ⟨q1, q2, q3⟩ | ⟨q1, q2, q3⟩
    · rw [q3]
      refine ⟨by omega, hck, hu, hc, q2, fun j g1 g2 g3 g4 g5 => ?_⟩
      by_cases e : j = c
      · subst e; omega
      · obtain ⟨a1, _⟩ := hoff j e
        rw [a1]
        by_cases hz0 : next = 0
        · rcases (h.nil hz0).2 j g1 (by omega) with t | t
          · exact absurd t g4
          · exact absurd t g5
        · have := (h.got hz0).2.2.2.2.2 j g1 (by omega) g3 g4 g5
          omega
    · rw [q3] at hz ⊢
      obtain ⟨a1, a2, a3, a4, a5, a6⟩ := h.got hz
      refine ⟨by omega, a2, a3, a4, by rw [(hoff next (by omega)).1]; omega, fun j g1 g2 g3 g4 g5 => ?_⟩
      by_cases e : j = c
      · subst e; omega
      · rw [(hoff j e).1, q2]
        exact a6 j g1 (by omega) g3 g4 g5

/-- The update, c being the next place. -/
structure Up (n k : Nat) (row ord : List Nat) (delta : Int) (u v dist : List Int) (c : Nat) (u' v' dist' : List Int) : Prop where
  lu : u'.length = n + 1
  lv : v'.length = k + 1
  ld : dist'.length = k + 1
  uN : ∀ r, (∀ j, j < c → j ∈ ord → gn row j ≠ r) → ge u' r = ge u r
  uY : ∀ j, j < c → j ∈ ord → ge u' (gn row j) = ge u (gn row j) + delta
  vN : ∀ j, (c ≤ j ∨ j ∉ ord) → ge v' j = ge v j
  vY : ∀ j, j < c → j ∈ ord → ge v' j = ge v j - delta
  dN : ∀ j, (c ≤ j ∨ j ∈ ord) → ge dist' j = ge dist j
  dY : ∀ j, j < c → j ∉ ord → ge dist' j = ge dist j - delta
theorem Up.begin (row ord : List Nat) (delta : Int) (h1 : u.length = n + 1) (h2 : v.length = k + 1) (h3 : dist.length = k + 1) : Up n k row ord delta u v dist 0 u v dist :=
  ⟨h1, h2, h3, fun _ _ => rfl, fun j h => by omega, fun _ _ => rfl, fun j h => by omega, fun _ _ => rfl, fun j h => by omega⟩
variable {u' v' : List Int}
theorem Up.used (h : Up n k row ord delta u v dist c u' v' dist') (hc : c ≤ k) (ho : c ∈ ord) (hr : gn row c ≤ n) (hinj : ∀ j, j < c → j ∈ ord → gn row j ≠ gn row c) :
    Up n k row ord delta u v dist (c + 1) (u'.set (gn row c) (ge u' (gn row c) + delta)) (v'.set c (ge v' c - delta)) dist' := by
  have eu := fun j => ge_set u' (i := gn row c) (by rw [h.lu]; omega) (ge u' (gn row c) + delta) j
  have ev := fun j => ge_set v' (i := c) (by rw [h.lv]; omega) (ge v' c - delta) j
  have hu0 : ge u' (gn row c) = ge u (gn row c) := h.uN _ hinj
  have hv0 : ge v' c = ge v c := h.vN c (Or.inl (Nat.le_refl _))
  refine ⟨by rw [List.length_set]; exact h.lu, by rw [List.length_set]; exact h.lv, h.ld, fun r hr => ?_, fun j h1 h2 => ?_, fun j hj => ?_, fun j h1 h2 => ?_, fun j hj => ?_, fun j h1 h2 => ?_⟩
  · rw [eu, if_neg (fun e => hr c (by omega) ho e.symm)]
    exact h.uN r (fun j hj => hr j (by omega))
  · by_cases e : j = c
    · subst e
      rw [eu, if_pos rfl, hu0]
    · rw [eu, if_neg (hinj j (by omega) h2)]
      exact h.uY j (by omega) h2
  · have : j ≠ c := fun e => by subst e; rcases hj with hj | hj; omega; exact hj ho
    rw [ev, if_neg this]
    exact h.vN j (by rcases hj with hj | hj; exact Or.inl (by omega); exact Or.inr hj)
  · by_cases e : j = c
    · subst e
      rw [ev, if_pos rfl, hv0]
    · rw [ev, if_neg e]
      exact h.vY j (by omega) h2
  · exact h.dN j (by rcases hj with hj | hj; exact Or.inl (by omega); exact Or.inr hj)
  · by_cases e : j = c
    · subst e; exact absurd ho h2
    · exact h.dY j (by omega) h2
theorem Up.other (h : Up n k row ord delta u v dist c u' v' dist') (hc : c ≤ k) (ho : c ∉ ord) : Up n k row ord delta u v dist (c + 1) u' v' (dist'.set c (ge dist' c - delta)) := by
  have ed := fun j => ge_set dist' (i := c) (by rw [h.ld]; omega) (ge dist' c - delta) j
  have hd0 : ge dist' c = ge dist c := h.dN c (Or.inl (Nat.le_refl _))
  refine ⟨h.lu, h.lv, by rw [List.length_set]; exact h.ld, fun r hr => h.uN r (fun j hj => hr j (by omega)), fun j h1 h2 => ?_, fun j hj => h.vN j (by rcases hj with hj | hj; exact Or.inl (by omega); exact Or.inr hj), fun j h1 h2 => ?_, fun j hj => ?_, fun j h1 h2 => ?_⟩
  · exact h.uY j (by have : j ≠ c := fun e => ho (e ▸ h2); omega) h2
  · exact h.vY j (by have : j ≠ c := fun e => ho (e ▸ h2); omega) h2
  · have : j ≠ c := fun e => by subst e; rcases hj with hj | hj; omega; exact ho hj
    rw [ed, if_neg this]
    exact h.dN j (by rcases hj with hj | hj; exact Or.inl (by omega); exact Or.inr hj)
  · by_cases e : j = c
    · subst e
      rw [ed, if_pos rfl, hd0]
    · rw [ed, if_neg e]
      exact h.dY j (by omega) h2
end Go.Proofs.Ytdenjldadlgniaa
