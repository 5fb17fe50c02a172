/- Plain laws of paths: what Simplify keeps. -/
import Derived.Test.YtmljfjcebfonaaaPolQ
set_option linter.unusedSimpArgs false
set_option linter.unusedVariables false
namespace Go.Proofs.Ytmljfjcebfonaaa

abbrev Pt := Int × Int
theorem nonneg_of {A B : Int} (h : 0 ≤ A * B) (k : 0 ≤ A + B) : 0 ≤ A := by
  rcases Int.lt_or_le A 0 with n | n
  · exfalso
    have : A * B < 0 := Int.mul_neg_of_neg_of_pos n (by omega)
    omega
  · exact n
theorem sq_pos' {u v : Int} (h : u ≠ 0 ∨ v ≠ 0) : 0 < u * u + v * v := by
  have h1 : 0 ≤ u * u := by rcases Int.le_total 0 u with k | k; exact Int.mul_nonneg k k; exact Int.mul_nonneg_of_nonpos_of_nonpos k k
  have h2 : 0 ≤ v * v := by rcases Int.le_total 0 v with k | k; exact Int.mul_nonneg k k; exact Int.mul_nonneg_of_nonpos_of_nonpos k k
  rcases h with h | h
  · have : u * u ≠ 0 := fun e => by rcases Int.mul_eq_zero.1 e with e | e <;> exact h e
    omega
  · have : v * v ≠ 0 := fun e => by rcases Int.mul_eq_zero.1 e with e | e <;> exact h e
    omega
theorem same_sign {u v : Int} (h : 0 ≤ u * v) : (0 ≤ u ∧ 0 ≤ v) ∨ (u ≤ 0 ∧ v ≤ 0) := by
  rcases Int.lt_trichotomy u 0 with h1 | h1 | h1
  · rcases Int.lt_or_le 0 v with h2 | h2
    · have := Int.mul_neg_of_neg_of_pos h1 h2; omega
    · exact Or.inr ⟨by omega, h2⟩
  · subst h1
    rcases Int.le_total 0 v with h2 | h2
    · exact Or.inl ⟨by omega, h2⟩
    · exact Or.inr ⟨by omega, h2⟩
  · rcases Int.lt_or_le v 0 with h2 | h2
    · have := Int.mul_neg_of_neg_of_pos h2 h1; rw [Int.mul_comm] at this; omega
    · exact Or.inl ⟨by omega, h2⟩

/-- Straight on, as vectors. -/
theorem straight {ux uy vx vy : Int} (hc : ux * vy = uy * vx) (hd : 0 ≤ ux * vx + uy * vy) : 0 ≤ ux * vx ∧ 0 ≤ uy * vy := by
  have hp : (ux * vx) * (uy * vy) = (ux * vy) * (ux * vy) := by grind
  have h0 : 0 ≤ (ux * vx) * (uy * vy) := by
    rw [hp]
    rcases Int.le_total 0 (ux * vy) with k | k
    · exact Int.mul_nonneg k k
    · exact Int.mul_nonneg_of_nonpos_of_nonpos k k
  exact ⟨nonneg_of h0 hd, nonneg_of (by rw [Int.mul_comm]; exact h0) (by omega)⟩
/-- Vectors of one direction turn alike. -/
theorem turn_alike {ux uy vx vy wx wy : Int} (hv : vx ≠ 0 ∨ vy ≠ 0) (hc : ux * vy = uy * vx) (hd : 0 ≤ ux * vx + uy * vy) :
    (vx * wy - vy * wx = 0 ↔ (ux + vx) * wy - (uy + vy) * wx = 0) ∧ (vx * wx + vy * wy < 0 ↔ (ux + vx) * wx + (uy + vy) * wy < 0) := by
  have hD := sq_pos' hv
  obtain ⟨D, hDe⟩ : ∃ D, vx * vx + vy * vy = D := ⟨_, rfl⟩
  obtain ⟨N, hNe⟩ : ∃ N, ux * vx + uy * vy + D = N := ⟨_, rfl⟩
  rw [hDe] at hD
  have hN : 0 < N := by omega
  have e1 : D * ((ux + vx) * wy - (uy + vy) * wx) = N * (vx * wy - vy * wx) := by grind
  have e2 : D * ((ux + vx) * wx + (uy + vy) * wy) = N * (vx * wx + vy * wy) := by grind
  obtain ⟨a, ha⟩ : ∃ a, (ux + vx) * wy - (uy + vy) * wx = a := ⟨_, rfl⟩
  obtain ⟨b, hb⟩ : ∃ b, vx * wy - vy * wx = b := ⟨_, rfl⟩
  obtain ⟨c, hcc⟩ : ∃ c, (ux + vx) * wx + (uy + vy) * wy = c := ⟨_, rfl⟩
  obtain ⟨d, hdd⟩ : ∃ d, vx * wx + vy * wy = d := ⟨_, rfl⟩
  rw [ha, hb] at e1
  rw [hcc, hdd] at e2
  rw [ha, hb, hcc, hdd]
  clear ha hb hcc hdd hDe hNe hc hd hv
  refine ⟨⟨fun h => ?_, fun h => ?_⟩, ⟨fun h => ?_, fun h => ?_⟩⟩
  · subst h
    rw [Int.mul_zero] at e1
    rcases Int.mul_eq_zero.1 e1 with k | k
    · omega
    · exact k
  · subst h
    rw [Int.mul_zero] at e1
    rcases Int.mul_eq_zero.1 e1.symm with k | k
    · omega
    · exact k
  · have : N * d < 0 := Int.mul_neg_of_pos_of_neg hN h
    rcases Int.lt_or_le c 0 with k | k
    · exact k
    · have := Int.mul_nonneg (Int.le_of_lt hD) k
      omega
  · have : D * c < 0 := Int.mul_neg_of_pos_of_neg hD h
    rcases Int.lt_or_le d 0 with k | k
    · exact k
    · have := Int.mul_nonneg (Int.le_of_lt hN) k
      omega

theorem bend3_no {p q r : Pt} : bend3 p q r = false ↔ (q.1 - p.1) * (r.2 - q.2) = (q.2 - p.2) * (r.1 - q.1) ∧ 0 ≤ (q.1 - p.1) * (r.1 - q.1) + (q.2 - p.2) * (r.2 - q.2) := by
  unfold bend3
  have e : crs p.1 p.2 q.1 q.2 r.1 r.2 = (q.1 - p.1) * (r.2 - q.2) - (q.2 - p.2) * (r.1 - q.1) := by unfold crs; grind
  rw [e, Bool.or_eq_false_iff, decide_eq_false_iff_not, decide_eq_false_iff_not]
  omega
theorem bend3_iff {p q r p' q' r' : Pt} (h1 : (q.1 - p.1) * (r.2 - q.2) - (q.2 - p.2) * (r.1 - q.1) = 0 ↔ (q'.1 - p'.1) * (r'.2 - q'.2) - (q'.2 - p'.2) * (r'.1 - q'.1) = 0)
    (h2 : (q.1 - p.1) * (r.1 - q.1) + (q.2 - p.2) * (r.2 - q.2) < 0 ↔ (q'.1 - p'.1) * (r'.1 - q'.1) + (q'.2 - p'.2) * (r'.2 - q'.2) < 0) : bend3 p q r = bend3 p' q' r' := by
  rw [Bool.eq_iff_iff, ← Bool.not_eq_false, ← Bool.not_eq_false, bend3_no, bend3_no]
  omega
theorem bend3_rev (p q r : Pt) : bend3 r q p = bend3 p q r := by
  refine bend3_iff ?_ ?_
  · have : (q.1 - r.1) * (p.2 - q.2) - (q.2 - r.2) * (p.1 - q.1) = -((q.1 - p.1) * (r.2 - q.2) - (q.2 - p.2) * (r.1 - q.1)) := by grind
    omega
  · have : (q.1 - r.1) * (p.1 - q.1) + (q.2 - r.2) * (p.2 - q.2) = (q.1 - p.1) * (r.1 - q.1) + (q.2 - p.2) * (r.2 - q.2) := by grind
    omega

/-- q lies straight between p and r. -/
structure Mid (p q r : Pt) : Prop where
  x : (p.1 ≤ q.1 ∧ q.1 ≤ r.1) ∨ (r.1 ≤ q.1 ∧ q.1 ≤ p.1)
  y : (p.2 ≤ q.2 ∧ q.2 ≤ r.2) ∨ (r.2 ≤ q.2 ∧ q.2 ≤ p.2)
  ne : p ≠ r
  fwd : ∀ s, bend3 q r s = bend3 p r s
  bwd : ∀ s, bend3 s p q = bend3 s p r
theorem mid_of {p q r : Pt} (h : bend3 p q r = false) (hpq : p ≠ q) (hqr : q ≠ r) : Mid p q r := by
  obtain ⟨hc, hd⟩ := bend3_no.1 h
  obtain ⟨hx, hy⟩ := straight hc hd
  have hX := same_sign hx
  have hY := same_sign hy
  have hu : q.1 - p.1 ≠ 0 ∨ q.2 - p.2 ≠ 0 := by
    by_cases e : q.1 - p.1 = 0
    · refine Or.inr fun e2 => hpq (Prod.ext (by omega) (by omega))
    · exact Or.inl e
  have hv : r.1 - q.1 ≠ 0 ∨ r.2 - q.2 ≠ 0 := by
    by_cases e : r.1 - q.1 = 0
    · refine Or.inr fun e2 => hqr (Prod.ext (by omega) (by omega))
    · exact Or.inl e
  refine ⟨by omega, by omega, fun e => ?_, fun s => ?_, fun s => ?_⟩
  · have e1 : p.1 = r.1 := by rw [e]
    have e2 : p.2 = r.2 := by rw [e]
    omega
  · obtain ⟨k1, k2⟩ := turn_alike (wx := s.1 - r.1) (wy := s.2 - r.2) hv hc hd
    rw [show q.1 - p.1 + (r.1 - q.1) = r.1 - p.1 by omega, show q.2 - p.2 + (r.2 - q.2) = r.2 - p.2 by omega] at k1 k2
    exact bend3_iff k1 k2
  · obtain ⟨k1, k2⟩ := turn_alike (ux := r.1 - q.1) (uy := r.2 - q.2) (wx := p.1 - s.1) (wy := p.2 - s.2) hu (by grind) (by grind)
    rw [show r.1 - q.1 + (q.1 - p.1) = r.1 - p.1 by omega, show r.2 - q.2 + (q.2 - p.2) = r.2 - p.2 by omega] at k1 k2
    refine bend3_iff ?_ ?_
    · have e1 : (p.1 - s.1) * (q.2 - p.2) - (p.2 - s.2) * (q.1 - p.1) = -((q.1 - p.1) * (p.2 - s.2) - (q.2 - p.2) * (p.1 - s.1)) := by grind
      have e2 : (p.1 - s.1) * (r.2 - p.2) - (p.2 - s.2) * (r.1 - p.1) = -((r.1 - p.1) * (p.2 - s.2) - (r.2 - p.2) * (p.1 - s.1)) := by grind
      omega
    · have e1 : (p.1 - s.1) * (q.1 - p.1) + (p.2 - s.2) * (q.2 - p.2) = (q.1 - p.1) * (p.1 - s.1) + (q.2 - p.2) * (p.2 - s.2) := by grind
      have e2 : (p.1 - s.1) * (r.1 - p.1) + (p.2 - s.2) * (r.2 - p.2) = (r.1 - p.1) * (p.1 - s.1) + (r.2 - p.2) * (p.2 - s.2) := by grind
      omega

/-! ### The functions along lists -/
def lenL : List Pt → Int
  | p :: q :: t => dist p q + lenL (q :: t)
  | _ => 0
def benL : List Pt → Int
  | p :: q :: r :: t => (if bend3 p q r then 1 else 0) + benL (q :: r :: t)
  | _ => 0
def bxL : List Pt → Bx
  | [] => ⟨0, 0, 0, 0⟩
  | [p] => bxP p
  | p :: q :: t => bxAdd (bxL (q :: t)) p
/-- What is kept behind p, the neighbour in front. -/
def simP (p : Pt) : List Pt → List Pt
  | [] => []
  | [q] => [q]
  | q :: r :: t => if bend3 p q r then q :: simP q (r :: t) else simP q (r :: t)
/-- The same, a being the last that was kept. -/
def simA (a : Pt) : List Pt → List Pt
  | [] => []
  | [q] => [q]
  | q :: r :: t => if bend3 a q r then q :: simA q (r :: t) else simA a (r :: t)
/-- A path. -/
def Ok : List Pt → Prop
  | [] => True
  | [p] => vld p.1 p.2 = true
  | p :: q :: t => vld p.1 p.2 = true ∧ p ≠ q ∧ Ok (q :: t)
def Bent : List Pt → Prop
  | p :: q :: r :: t => bend3 p q r = true ∧ Bent (q :: r :: t)
  | _ => True
theorem Ok.vld : ∀ {L : List Pt}, Ok L → ∀ p ∈ L, vld p.1 p.2 = true
  | [], _, p, hp => by simp at hp
  | [q], h, p, hp => by simp at hp; subst hp; exact h
  | q :: r :: t, h, p, hp => by
    rcases List.mem_cons.1 hp with e | hp
    · subst e; exact h.1
    · exact Ok.vld h.2.2 p hp

theorem simP_eq : ∀ (t : List Pt) (a p q : Pt), (∀ r, bend3 p q r = bend3 a q r) → a ≠ q → Ok (p :: q :: t) → simP p (q :: t) = simA a (q :: t)
  | [], a, p, q, _, _, _ => rfl
  | r :: t, a, p, q, h, ha, hk => by
    rw [simP, simA, h r]
    cases hb : bend3 a q r
    · have hM := mid_of hb ha hk.2.2.2.1
      simp only [Bool.false_eq_true, if_false]
      exact simP_eq t a q r hM.fwd hM.ne hk.2.2
    · simp only [if_true]
      rw [simP_eq t q q r (fun _ => rfl) hk.2.2.2.1 hk.2.2]
theorem simA_ne (t : List Pt) : ∀ (a q : Pt), simA a (q :: t) ≠ [] := by
  induction t with
  | nil => intro a q; simp [simA]
  | cons r t ih =>
    intro a q
    rw [simA]
    split
    · simp
    · exact ih a r
/-- The next kept point lies in the same direction as the next point. -/
theorem simA_head : ∀ (t : List Pt) (a q : Pt), Ok (a :: q :: t) → ∃ r u, simA a (q :: t) = r :: u ∧ a ≠ r ∧ (∀ s, bend3 s a q = bend3 s a r)
  | [], a, q, hk => ⟨q, [], rfl, hk.2.1, fun _ => rfl⟩
  | r :: t, a, q, hk => by
    rw [simA]
    cases hb : bend3 a q r
    · have hM := mid_of hb hk.2.1 hk.2.2.2.1
      simp only [Bool.false_eq_true, if_false]
      obtain ⟨r', u, e, hne, hs⟩ := simA_head t a r ⟨hk.1, hM.ne, hk.2.2.2.2⟩
      exact ⟨r', u, e, hne, fun s => (hM.bwd s).trans (hs s)⟩
    · simp only [if_true]
      exact ⟨q, _, rfl, hk.2.1, fun _ => rfl⟩

theorem dist_mid {p q r : Pt} (h : Mid p q r) (hp : vld p.1 p.2 = true) (hq : vld q.1 q.2 = true) (hr : vld r.1 r.2 = true) : dist p r = dist p q + dist q r := by
  unfold dist
  rw [dst_yes hp hq, dst_yes hq hr, dst_yes hp hr]
  have := h.x
  have := h.y
  omega
theorem bxL_le : ∀ (t : List Pt) (p : Pt), (bxL (p :: t)).x0 ≤ p.1 ∧ (bxL (p :: t)).y0 ≤ p.2 ∧ p.1 ≤ (bxL (p :: t)).x1 ∧ p.2 ≤ (bxL (p :: t)).y1
  | [], p => by simp [bxL, bxP]
  | q :: t, p => by
    simp only [bxL, bxAdd]
    omega
theorem bx_mid {p q r : Pt} (t : List Pt) (h : Mid p q r) : bxL (p :: q :: r :: t) = bxL (p :: r :: t) := by
  have h1 := bxL_le t r
  have := h.x
  have := h.y
  rw [bxL, bxL, bxL]
  generalize bxL (r :: t) = B at *
  simp only [bxAdd, Bx.mk.injEq]
  omega

/-- What the simplified path keeps of a path. -/
structure Kept (p : Pt) (t S : List Pt) : Prop where
  ok : Ok (p :: S)
  len : lenL (p :: S) = lenL (p :: t)
  box : bxL (p :: S) = bxL (p :: t)
  ben : benL (p :: S) = benL (p :: t)
  bent : Bent (p :: S)
  last : (p :: S).getLast? = (p :: t).getLast?
  short : S.length ≤ t.length
theorem kept : ∀ (t : List Pt) (p q : Pt), Ok (p :: q :: t) → Kept p (q :: t) (simA p (q :: t))
  | [], p, q, h => ⟨h, rfl, rfl, rfl, trivial, rfl, Nat.le_refl _⟩
  | r :: t, p, q, h => by
    rw [simA]
    cases hb : bend3 p q r
    · have hM := mid_of hb h.2.1 h.2.2.2.1
      have hr : vld r.1 r.2 = true := Ok.vld h r (by simp)
      simp only [Bool.false_eq_true, if_false]
      have k := kept t p r ⟨h.1, hM.ne, h.2.2.2.2⟩
      refine ⟨k.ok, ?_, ?_, ?_, k.bent, ?_, ?_⟩
      · rw [k.len, lenL, lenL, lenL, dist_mid hM h.1 h.2.2.1 hr]
        omega
      · rw [k.box, bx_mid t hM]
      · rw [k.ben]
        show _ = (if bend3 p q r then 1 else 0) + benL (q :: r :: t)
        rw [hb]
        cases t with
        | nil => rfl
        | cons s t =>
          rw [benL, benL, hM.fwd s]
          simp
      · rw [k.last]
        simp [List.getLast?_cons_cons]
      · have := k.short
        simp only [List.length_cons] at this ⊢
        omega
    · simp only [if_true]
      have k := kept t q r h.2.2
      obtain ⟨r', u, e, hne, hs⟩ := simA_head t q r h.2.2
      rw [e] at k ⊢
      have hb' : bend3 p q r' = true := (hs p).symm.trans hb
      refine ⟨⟨h.1, h.2.1, k.ok⟩, ?_, ?_, ?_, ⟨hb', k.bent⟩, ?_, ?_⟩
      · show dist p q + lenL (q :: r' :: u) = dist p q + lenL (q :: r :: t)
        rw [k.len]
      · show bxAdd (bxL (q :: r' :: u)) p = bxAdd (bxL (q :: r :: t)) p
        rw [k.box]
      · show (if bend3 p q r' then 1 else 0) + benL (q :: r' :: u) = (if bend3 p q r then 1 else 0) + benL (q :: r :: t)
        rw [hb, hb', k.ben]
      · have := k.last
        rw [List.getLast?_cons_cons, List.getLast?_cons_cons, List.getLast?_cons_cons] at *
        exact this
      · have := k.short
        simp only [List.length_cons] at this ⊢
        omega
/-- A path that bends at every inner point is kept whole. -/
theorem simP_bent : ∀ (t : List Pt) (p : Pt), Bent (p :: t) → simP p t = t
  | [], _, _ => rfl
  | [_], _, _ => rfl
  | q :: r :: t, p, h => by
    rw [simP, h.1, if_pos rfl, simP_bent (r :: t) q h.2]
theorem benL_bent : ∀ (t : List Pt) (p q : Pt), Bent (p :: q :: t) → benL (p :: q :: t) = t.length
  | [], _, _, _ => rfl
  | r :: t, p, q, h => by
    rw [benL, h.1, if_pos rfl, benL_bent t q r h.2, List.length_cons]
    push_cast
    omega

end Go.Proofs.Ytmljfjcebfonaaa
