/- Plain mathematics of tidy drawings of forests: the drawing as the chapter defines it. No program in sight. -/
import Derived.Test.YtgodoeefgmfpfaaSl
set_option linter.unusedSimpArgs false
set_option linter.unusedVariables false
namespace Go.Proofs.Ytgodoeefgmfpfaa

/-! ### Forests -/
def vFor (P : List Int) : Prop := P.length ≤ 64 ∧ ∀ v, v < P.length → -1 ≤ ge P v ∧ ge P v < (v : Int)
instance (P : List Int) : Decidable (vFor P) := by unfold vFor; exact inferInstance
def vForB (P : List Int) : Bool := decide (vFor P)
theorem vForB_iff {P : List Int} : vForB P = true ↔ vFor P := by unfold vForB; simp
theorem vForB_not {P : List Int} (h : ¬ vFor P) : vForB P = false := by rw [← Bool.not_eq_true, vForB_iff]; exact h

/-- The children of a vertex, the roots for -1. -/
def kids (P : List Int) (v : Int) : List Nat := (List.range P.length).filter fun u => ge P u == v
theorem mem_kids {P : List Int} {v : Int} {u : Nat} : u ∈ kids P v ↔ u < P.length ∧ ge P u = v := by
  unfold kids
  rw [List.mem_filter, List.mem_range, beq_iff_eq]
theorem kids_sorted (P : List Int) (v : Int) : (kids P v).Pairwise (· < ·) := List.Pairwise.filter _ List.pairwise_lt_range
theorem kids_nodup (P : List Int) (v : Int) : (kids P v).Nodup := (kids_sorted P v).imp (fun h => Nat.ne_of_lt h)
theorem kid_gt {P : List Int} (h : vFor P) {v u : Nat} (hu : u ∈ kids P v) : v < u := by
  obtain ⟨h1, h2⟩ := mem_kids.1 hu
  have := (h.2 u h1).2
  omega

def depF (P : List Int) : Nat → Nat → Nat
  | 0, _ => 0
  | k + 1, u => if ge P u < 0 then 0 else depF P k (ge P u).toNat + 1
/-- The depth of a vertex. -/
def dep (P : List Int) (u : Nat) : Nat := depF P (u + 1) u
theorem depF_eq {P : List Int} (h : vFor P) : ∀ (k u : Nat), u < P.length → u < k → depF P k u = dep P u := by
  intro k
  induction k with
  | zero => intro u _ hk; omega
  | succ k ih =>
    intro u hu hk
    unfold dep
    simp only [depF]
    have hb := h.2 u hu
    by_cases h0 : ge P u < 0
    · rw [if_pos h0, if_pos h0]
    · rw [if_neg h0, if_neg h0]
      congr 1
      have e1 := ih (ge P u).toNat (by omega) (by omega)
      rw [e1]
      clear e1
      -- the same with fuel u
      have key : ∀ (j u : Nat), u < P.length → u < j → ∀ i, u < i → depF P j u = depF P i u := by
        intro j
        induction j with
        | zero => intro u _ h; omega
        | succ j ihj =>
          intro u hu hj i hi
          cases i with
          | zero => omega
          | succ i =>
            simp only [depF]
            have hb := h.2 u hu
            by_cases h0 : ge P u < 0
            · rw [if_pos h0, if_pos h0]
            · rw [if_neg h0, if_neg h0, ihj (ge P u).toNat (by omega) (by omega) i (by omega)]
      exact key _ _ (by omega) (by omega) _ (by omega)
theorem dep_root {P : List Int} {u : Nat} (h : ge P u < 0) : dep P u = 0 := by
  unfold dep
  simp only [depF]
  rw [if_pos h]
theorem dep_kid {P : List Int} (h : vFor P) {u p : Nat} (hu : u < P.length) (hp : ge P u = (p : Int)) : dep P u = dep P p + 1 := by
  have hb := h.2 u hu
  have : dep P u = depF P u p + 1 := by
    unfold dep
    simp only [depF]
    rw [if_neg (by omega), hp]
    simp
  rw [this, depF_eq h u p (by omega) (by omega)]
theorem dep_le {P : List Int} (h : vFor P) (u : Nat) (hu : u < P.length) : dep P u ≤ u := by
  induction u using Nat.strongRecOn with
  | _ u ih =>
    have hb := h.2 u hu
    by_cases h0 : ge P u < 0
    · rw [dep_root h0]; omega
    · obtain ⟨p, hp⟩ := Int.eq_ofNat_of_zero_le (by omega : 0 ≤ ge P u)
      rw [dep_kid h hu hp]
      have := ih p (by omega) (by omega)
      omega

/-- u lies in the subtree of r. -/
inductive Bel (P : List Int) (r : Nat) : Nat → Prop
  | self : Bel P r r
  | up (u p : Nat) : u < P.length → ge P u = (p : Int) → Bel P r p → Bel P r u

theorem bel_ge {P : List Int} (h : vFor P) {r u : Nat} (hb : Bel P r u) : r ≤ u := by
  induction hb with
  | self => exact Nat.le_refl _
  | up u p hu hp _ ih =>
    have := (h.2 u hu).2
    omega
theorem Bel.lt {P : List Int} {r u : Nat} (hr : r < P.length) (hb : Bel P r u) : u < P.length := by
  cases hb with
  | self => exact hr
  | up u p hu => exact hu
/-- Behind the root, the subtree is that of one of its children. -/
theorem Bel.split {P : List Int} {r u : Nat} (hb : Bel P r u) : u = r ∨ ∃ c ∈ kids P r, Bel P c u := by
  induction hb with
  | self => exact Or.inl rfl
  | up u p hu hp _ ih =>
    rcases ih with rfl | ⟨c, hc, hb⟩
    · exact Or.inr ⟨u, mem_kids.2 ⟨hu, hp⟩, Bel.self⟩
    · exact Or.inr ⟨c, hc, Bel.up u p hu hp hb⟩
theorem Bel.trans {P : List Int} {a b c : Nat} (h1 : Bel P a b) (h2 : Bel P b c) : Bel P a c := by
  induction h2 with
  | self => exact h1
  | up u p hu hp _ ih => exact Bel.up u p hu hp ih
theorem Bel.kid {P : List Int} {r c u : Nat} (hc : c ∈ kids P r) (h : Bel P c u) : Bel P r u := by
  obtain ⟨h1, h2⟩ := mem_kids.1 hc
  exact (Bel.up c r h1 h2 Bel.self).trans h
theorem bel_dep {P : List Int} (h : vFor P) {r u : Nat} (hb : Bel P r u) : dep P r ≤ dep P u := by
  induction hb with
  | self => exact Nat.le_refl _
  | up u p hu hp _ ih =>
    rw [dep_kid h hu hp]
    omega
/-- Two ancestors of one vertex at one depth are one. -/
theorem Bel.unique {P : List Int} (h : vFor P) {a b u : Nat} (ha : Bel P a u) (hb : Bel P b u) (hab : dep P a = dep P b) : a = b := by
  induction ha with
  | self =>
    cases hb with
    | self => rfl
    | up _ p hu hp hb =>
      have h1 := bel_dep h hb
      have h2 := dep_kid h hu hp
      omega
  | up u p hu hp ha ih =>
    cases hb with
    | self =>
      have h1 := bel_dep h ha
      have h2 := dep_kid h hu hp
      omega
    | up _ p' hu' hp' hb =>
      rw [hp] at hp'
      have : p = p' := by omega
      subst this
      exact ih hb

/-! ### Drawings -/
abbrev Dr := List (Nat × Int)
def lfE (W : List Int) (q : Nat × Int) : Int := q.2 - ge W q.1 / 2
def rtE (W : List Int) (q : Nat × Int) : Int := lfE W q + ge W q.1
/-- How far q must be moved to stand right of p. -/
def need (W : List Int) (sep : Int) (p q : Nat × Int) : Int := rtE W p + sep - lfE W q
/-- The greatest number of a list, none if it is empty: as a loop finds it. -/
def mxStep (s : Option Int) (x : Int) : Option Int := match s with | none => some x | some y => if y < x then some x else some y
def mxO (l : List Int) : Option Int := l.foldl mxStep none
theorem mxO_snoc (l : List Int) (x : Int) : mxO (l ++ [x]) = mxStep (mxO l) x := by simp [mxO]
theorem mxO_spec : ∀ (l : List Int), (l = [] ∧ mxO l = none) ∨ ∃ m, mxO l = some m ∧ m ∈ l ∧ ∀ x ∈ l, x ≤ m := by
  intro l
  suffices h : ∀ (l acc : List Int) (s : Option Int), ((acc = [] ∧ s = none) ∨ ∃ m, s = some m ∧ m ∈ acc ∧ ∀ x ∈ acc, x ≤ m) →
      ((acc ++ l = [] ∧ l.foldl mxStep s = none) ∨ ∃ m, l.foldl mxStep s = some m ∧ m ∈ acc ++ l ∧ ∀ x ∈ acc ++ l, x ≤ m) by
    have := h l [] none (Or.inl ⟨rfl, rfl⟩)
    simpa [mxO] using this
  intro l
  induction l with
  | nil => intro acc s h; simpa using h
  | cons x l ih =>
    intro acc s h
    have := ih (acc ++ [x]) (mxStep s x) (by
      right
      rcases h with ⟨rfl, rfl⟩ | ⟨m, rfl, h1, h2⟩
      · exact ⟨x, rfl, by simp, by simp⟩
      · simp only [mxStep]
        by_cases hx : m < x
        · rw [if_pos hx]
          refine ⟨x, rfl, by simp, fun y hy => ?_⟩
          rcases List.mem_append.1 hy with hy | hy
          · have := h2 y hy; omega
          · simp at hy; omega
        · rw [if_neg hx]
          refine ⟨m, rfl, by simp [h1], fun y hy => ?_⟩
          rcases List.mem_append.1 hy with hy | hy
          · exact h2 y hy
          · simp at hy; omega)
    simpa using this

def needs1 (P W : List Int) (sep : Int) (p : Nat × Int) (b : Dr) : List Int := b.filterMap fun q => if dep P p.1 = dep P q.1 then some (need W sep p q) else none
def needs (P W : List Int) (sep : Int) (a b : Dr) : List Int := a.flatMap fun p => needs1 P W sep p b
def shD (P W : List Int) (sep : Int) (a b : Dr) : Int := (mxO (needs P W sep a b)).getD 0
theorem mem_needs {P W : List Int} {sep : Int} {a b : Dr} {x : Int} : x ∈ needs P W sep a b ↔ ∃ p ∈ a, ∃ q ∈ b, dep P p.1 = dep P q.1 ∧ x = need W sep p q := by
  unfold needs needs1
  simp only [List.mem_flatMap, List.mem_filterMap]
  constructor
  · rintro ⟨p, hp, q, hq, h⟩
    split at h
    · simp at h
      exact ⟨p, hp, q, hq, by assumption, h.symm⟩
    · cases h
  · rintro ⟨p, hp, q, hq, h1, h2⟩
    exact ⟨p, hp, q, hq, by rw [if_pos h1, h2]⟩
/-- The shift is the greatest need, and it is needed. -/
theorem shD_spec {P W : List Int} {sep : Int} {a b : Dr} {p q : Nat × Int} (hp : p ∈ a) (hq : q ∈ b) (hd : dep P p.1 = dep P q.1) :
    (∃ p ∈ a, ∃ q ∈ b, dep P p.1 = dep P q.1 ∧ shD P W sep a b = need W sep p q) ∧ ∀ p ∈ a, ∀ q ∈ b, dep P p.1 = dep P q.1 → need W sep p q ≤ shD P W sep a b := by
  unfold shD
  rcases mxO_spec (needs P W sep a b) with ⟨h, _⟩ | ⟨m, h1, h2, h3⟩
  · have : need W sep p q ∈ needs P W sep a b := mem_needs.2 ⟨p, hp, q, hq, hd, rfl⟩
    rw [h] at this
    cases this
  · rw [h1]
    refine ⟨?_, fun p hp q hq hd => h3 _ (mem_needs.2 ⟨p, hp, q, hq, hd, rfl⟩)⟩
    obtain ⟨p, hp, q, hq, hd, he⟩ := mem_needs.1 h2
    exact ⟨p, hp, q, hq, hd, he⟩

def mvD (s : Dr) (b : Int) : Dr := s.map fun q => (q.1, q.2 + b)
theorem mem_mvD {s : Dr} {b : Int} {q : Nat × Int} : q ∈ mvD s b ↔ (q.1, q.2 - b) ∈ s := by
  unfold mvD
  rw [List.mem_map]
  constructor
  · rintro ⟨r, hr, rfl⟩
    simpa using hr
  · intro h
    exact ⟨_, h, by simp⟩
theorem mvD_zero (s : Dr) : mvD s 0 = s := by
  unfold mvD
  conv => rhs; rw [← List.map_id s]
  exact List.map_congr_left (fun q _ => by simp)
theorem mvD_mvD (s : Dr) (a b : Int) : mvD (mvD s a) b = mvD s (a + b) := by
  unfold mvD
  rw [List.map_map]
  exact List.map_congr_left (fun q _ => by simp [Int.add_assoc])
theorem mvD_append (s t : Dr) (b : Int) : mvD (s ++ t) b = mvD s b ++ mvD t b := by simp [mvD]
theorem mvD_length (s : Dr) (b : Int) : (mvD s b).length = s.length := by simp [mvD]
/-- The position of a vertex in a part. -/
def atD (s : Dr) (v : Nat) : Int := match s.find? (fun q => q.1 == v) with | some q => q.2 | none => 0
def rowD (P W : List Int) (sep : Int) (sub : Nat → Dr) (l : List Nat) : Dr := l.foldl (fun out v => out ++ mvD (sub v) (shD P W sep out (sub v))) []
theorem rowD_snoc (P W : List Int) (sep : Int) (sub : Nat → Dr) (l : List Nat) (v : Nat) :
    rowD P W sep sub (l ++ [v]) = rowD P W sep sub l ++ mvD (sub v) (shD P W sep (rowD P W sep sub l) (sub v)) := by simp [rowD]
/-- The subtree of a vertex, whose position is 0. -/
def subD (P W : List Int) (sep : Int) : Nat → Nat → Dr
  | 0, v => [(v, 0)]
  | k + 1, v => match kids P v with
    | [] => [(v, 0)]
    | c :: cs => mvD (rowD P W sep (subD P W sep k) (c :: cs)) (-((atD (rowD P W sep (subD P W sep k) (c :: cs)) c + atD (rowD P W sep (subD P W sep k) (c :: cs)) ((c :: cs).getLast (by simp))) / 2)) ++ [(v, 0)]

/-! ### What holds of a part -/
def verts (s : Dr) : List Nat := s.map (·.1)
theorem verts_mvD (s : Dr) (b : Int) : verts (mvD s b) = verts s := by
  unfold verts mvD
  rw [List.map_map]
  rfl
theorem verts_append (s t : Dr) : verts (s ++ t) = verts s ++ verts t := by simp [verts]
theorem mem_verts {s : Dr} {u : Nat} : u ∈ verts s ↔ ∃ x, (u, x) ∈ s := by
  unfold verts
  rw [List.mem_map]
  constructor
  · rintro ⟨q, hq, rfl⟩; exact ⟨q.2, hq⟩
  · rintro ⟨x, hx⟩; exact ⟨_, hx, rfl⟩
theorem fn_of_nodup {s : Dr} (h : (verts s).Nodup) {u : Nat} {x y : Int} (hx : (u, x) ∈ s) (hy : (u, y) ∈ s) : x = y := by
  induction s with
  | nil => cases hx
  | cons q s ih =>
    have h' : (q.1 :: verts s).Nodup := h
    rw [List.nodup_cons] at h'
    rcases List.mem_cons.1 hx with h1 | h1 <;> rcases List.mem_cons.1 hy with h2 | h2
    · rw [← h1] at h2; cases h2; rfl
    · rw [← h1] at h'; exact absurd (mem_verts (s := s).2 ⟨y, h2⟩) h'.1
    · rw [← h2] at h'; exact absurd (mem_verts (s := s).2 ⟨x, h1⟩) h'.1
    · exact ih h'.2 h1 h2
theorem atD_of {s : Dr} (h : (verts s).Nodup) {u : Nat} {x : Int} (hx : (u, x) ∈ s) : atD s u = x := by
  unfold atD
  cases hf : s.find? (fun q => q.1 == u) with
  | none =>
    rw [List.find?_eq_none] at hf
    exact absurd (show ((u, x).1 == u) = true by simp) (hf _ hx)
  | some q =>
    have h1 := List.find?_some hf
    have h2 := List.mem_of_find?_eq_some hf
    simp at h1
    obtain ⟨a, b⟩ := q
    simp at h1
    subst h1
    exact fn_of_nodup h h2 hx

/-- A box of the subtree of c begins exactly sep right of one of the subtree of an earlier sibling. -/
def Tight (P W : List Int) (sep : Int) (s : Dr) (c : Nat) : Prop :=
  ∃ b, b < c ∧ ge P b = ge P c ∧ b < P.length ∧ ∃ p ∈ s, ∃ q ∈ s, Bel P b p.1 ∧ Bel P c q.1 ∧ dep P p.1 = dep P q.1 ∧ rtE W p + sep = lfE W q
/-- A vertex stands above the middle of its first and last child. -/
def Mid (P : List Int) (s : Dr) (u : Nat) (x : Int) : Prop := ∀ c cs, kids P u = c :: cs → ∃ a b, (c, a) ∈ s ∧ ((c :: cs).getLast (by simp), b) ∈ s ∧ (2 * x = a + b ∨ 2 * x = a + b - 1)
/-- What holds of a part in itself. -/
structure Part (P W : List Int) (sep : Int) (s : Dr) : Prop where
  nodup : (verts s).Nodup
  sepa : ∀ p ∈ s, ∀ q ∈ s, p.1 ≠ q.1 → dep P p.1 = dep P q.1 → rtE W p + sep ≤ lfE W q ∨ rtE W q + sep ≤ lfE W p
  mid : ∀ u x, (u, x) ∈ s → Mid P s u x
  tight : ∀ u ∈ verts s, ∀ c ∈ (kids P u).tail, Tight P W sep s c

theorem lfE_mv (W : List Int) (u : Nat) (x b : Int) : lfE W (u, x + b) = lfE W (u, x) + b := by unfold lfE; dsimp only; omega
theorem rtE_mv (W : List Int) (u : Nat) (x b : Int) : rtE W (u, x + b) = rtE W (u, x) + b := by unfold rtE; rw [lfE_mv]; dsimp only; omega
theorem lfE_mem {s : Dr} {W : List Int} {b : Int} {q : Nat × Int} (h : q ∈ mvD s b) : ∃ r ∈ s, r.1 = q.1 ∧ lfE W q = lfE W r + b ∧ rtE W q = rtE W r + b ∧ q.2 = r.2 + b := by
  unfold mvD at h
  obtain ⟨r, hr, rfl⟩ := List.mem_map.1 h
  exact ⟨r, hr, rfl, lfE_mv W r.1 r.2 b, rtE_mv W r.1 r.2 b, rfl⟩

theorem Tight.mv {P W : List Int} {sep : Int} {s : Dr} {c : Nat} (h : Tight P W sep s c) (b : Int) : Tight P W sep (mvD s b) c := by
  obtain ⟨e, h1, h2, h3, p, hp, q, hq, h4, h5, h6, h7⟩ := h
  refine ⟨e, h1, h2, h3, (p.1, p.2 + b), List.mem_map.2 ⟨p, hp, rfl⟩, (q.1, q.2 + b), List.mem_map.2 ⟨q, hq, rfl⟩, h4, h5, h6, ?_⟩
  rw [rtE_mv, lfE_mv]
  show rtE W p + b + sep = lfE W q + b
  omega
theorem Tight.mono {P W : List Int} {sep : Int} {s t : Dr} {c : Nat} (h : Tight P W sep s c) (hs : ∀ q ∈ s, q ∈ t) : Tight P W sep t c := by
  obtain ⟨e, h1, h2, h3, p, hp, q, hq, r⟩ := h
  exact ⟨e, h1, h2, h3, p, hs p hp, q, hs q hq, r⟩
theorem Mid.mono {P : List Int} {s t : Dr} {u : Nat} {x : Int} (h : Mid P s u x) (hs : ∀ q ∈ s, q ∈ t) : Mid P t u x := by
  intro c cs hc
  obtain ⟨a, b, h1, h2, h3⟩ := h c cs hc
  exact ⟨a, b, hs _ h1, hs _ h2, h3⟩
theorem Part.mv {P W : List Int} {sep : Int} {s : Dr} (h : Part P W sep s) (b : Int) : Part P W sep (mvD s b) := by
  refine ⟨by rw [verts_mvD]; exact h.nodup, fun p hp q hq hne hd => ?_, fun u x hux => ?_, fun u hu c hc => ?_⟩
  · obtain ⟨p', hp', e1, e2, e3, _⟩ := lfE_mem (W := W) hp
    obtain ⟨q', hq', f1, f2, f3, _⟩ := lfE_mem (W := W) hq
    have := h.sepa p' hp' q' hq' (by rw [e1, f1]; exact hne) (by rw [e1, f1]; exact hd)
    omega
  · rw [mem_mvD] at hux
    intro c cs hc
    obtain ⟨a, d, h1, h2, h3⟩ := h.mid u (x - b) hux c cs hc
    refine ⟨a + b, d + b, ?_, ?_, by omega⟩
    · rw [mem_mvD]; simpa using h1
    · rw [mem_mvD]; simpa using h2
  · rw [verts_mvD] at hu
    exact (h.tight u hu c hc).mv b

end Go.Proofs.Ytgodoeefgmfpfaa
