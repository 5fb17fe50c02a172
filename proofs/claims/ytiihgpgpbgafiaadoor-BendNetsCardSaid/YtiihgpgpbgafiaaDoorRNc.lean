/- Joined by a program from the texts FlA FlB FlC FlD FlF FlG OwnI FlH FlI FlJ FlK FlL FlM FlN FlO FlP FlQ FlR FlS. -/
import Derived.Test.YtiihgpgpbgafiaaDoorRNb
import Derived.Deep.DeepCutAuto
import Derived.Deep.LoopGhost
import Derived.Deep.DrawnRows
import Derived.Laws.MakeOwn
import Derived.Laws.EntriesVeiled
set_option linter.unusedSimpArgs false
set_option linter.unusedVariables false
/- Networks and flows, plain: excess, residual steps, potentials. -/
set_option linter.unusedSimpArgs false
set_option linter.unusedVariables false
namespace Go.Proofs.YtiihgpgpbgafiaaDoor.Fl

structure Ark where
  fr : Int
  ed : Int
  cap : Int
  cost : Int
def aK (A : List Ark) (i : Nat) : Ark := A.getD i ⟨0, 0, 0, 0⟩
def vF (A : List Ark) (i : Nat) : Nat := (aK A i).fr.toNat
def vT (A : List Ark) (i : Nat) : Nat := (aK A i).ed.toNat
def cap (A : List Ark) (i : Nat) : Int := (aK A i).cap
def cst (A : List Ark) (i : Nat) : Int := (aK A i).cost
/-- A valid network. -/
structure vN (s : List Int) (A : List Ark) : Prop where
  n : s.length ≤ 256
  m : A.length ≤ 2048
  sb : ∀ v, v < s.length → -1048576 ≤ ge s v ∧ ge s v ≤ 1048576
  a : ∀ i, i < A.length → (0 ≤ (aK A i).fr ∧ (aK A i).fr < s.length) ∧ (0 ≤ (aK A i).ed ∧ (aK A i).ed < s.length) ∧ (0 ≤ cap A i ∧ cap A i ≤ 1048576) ∧ (-1000 ≤ cst A i ∧ cst A i ≤ 1000)
  z : sumN (fun v => ge s v) s.length = 0
theorem vN.vF {s : List Int} {A : List Ark} (h : vN s A) {i : Nat} (hi : i < A.length) : vF A i < s.length := by
  have := (h.a i hi).1
  unfold Proofs.YtiihgpgpbgafiaaDoor.Fl.vF
  omega
theorem vN.vT {s : List Int} {A : List Ark} (h : vN s A) {i : Nat} (hi : i < A.length) : vT A i < s.length := by
  have := (h.a i hi).2.1
  unfold Proofs.YtiihgpgpbgafiaaDoor.Fl.vT
  omega
theorem vN.fr {s : List Int} {A : List Ark} (h : vN s A) {i : Nat} (hi : i < A.length) : (aK A i).fr = (Proofs.YtiihgpgpbgafiaaDoor.Fl.vF A i : Nat) := by
  have := (h.a i hi).1
  unfold Proofs.YtiihgpgpbgafiaaDoor.Fl.vF
  omega
theorem vN.ed {s : List Int} {A : List Ark} (h : vN s A) {i : Nat} (hi : i < A.length) : (aK A i).ed = (Proofs.YtiihgpgpbgafiaaDoor.Fl.vT A i : Nat) := by
  have := (h.a i hi).2.1
  unfold Proofs.YtiihgpgpbgafiaaDoor.Fl.vT
  omega

/-- Numbers on the arcs that fit. -/
structure Fit (A : List Ark) (f : List Int) : Prop where
  l : f.length = A.length
  b : ∀ i, i < A.length → 0 ≤ ge f i ∧ ge f i ≤ cap A i

/-- What the first k arcs bring to v. -/
def inF (A : List Ark) (f : List Int) (v k : Nat) : Int := sumN (fun i => (if vT A i = v then ge f i else 0) - (if vF A i = v then ge f i else 0)) k
/-- The excess of v. -/
def exc (s : List Int) (A : List Ark) (f : List Int) (v : Nat) : Int := ge s v + inF A f v A.length
/-- The list of excesses after k arcs, as the programs reckon it. -/
def exL (s : List Int) (A : List Ark) (f : List Int) : Nat → List Int
  | 0 => s
  | k + 1 => ((exL s A f k).set (vF A k) (ge (exL s A f k) (vF A k) - ge f k)).set (vT A k) (ge ((exL s A f k).set (vF A k) (ge (exL s A f k) (vF A k) - ge f k)) (vT A k) + ge f k)
theorem exL_length (s : List Int) (A : List Ark) (f : List Int) : ∀ k, (exL s A f k).length = s.length
  | 0 => rfl
  | k + 1 => by simp only [exL, List.length_set]; exact exL_length s A f k
theorem ge_exL {s : List Int} {A : List Ark} (hV : vN s A) (f : List Int) : ∀ k, k ≤ A.length → ∀ v, ge (exL s A f k) v = ge s v + inF A f v k
  | 0, _, v => by show ge s v = _; simp [inF, sumN]
  | k + 1, hk, v => by
    have ih := ge_exL hV f k (by omega)
    have h1 := hV.vF (i := k) (by omega)
    have h2 := hV.vT (i := k) (by omega)
    have hl := exL_length s A f k
    simp only [exL]
    rw [ge_set _ (by rw [List.length_set, hl]; exact h2), ge_set _ (by rw [hl]; exact h1), ge_set _ (by rw [hl]; exact h1)]
    have e : inF A f v (k + 1) = inF A f v k + ((if vT A k = v then ge f k else 0) - (if vF A k = v then ge f k else 0)) := rfl
    rw [e]
    by_cases e1 : v = vT A k
    · subst e1
      rw [if_pos rfl, if_pos rfl]
      by_cases e2 : vT A k = vF A k
      · rw [if_pos e2, if_pos e2.symm, ← e2, ih]; omega
      · rw [if_neg e2, if_neg (Ne.symm e2), ih]; omega
    · rw [if_neg e1, if_neg (Ne.symm e1)]
      by_cases e2 : v = vF A k
      · rw [if_pos e2, if_pos e2.symm, e2, ih]; omega
      · rw [if_neg e2, if_neg (Ne.symm e2), ih]; omega
def isFlow (s : List Int) (A : List Ark) (f : List Int) : Prop := Fit A f ∧ ∀ v, v < s.length → exc s A f v = 0
/-- The cost. -/
def costF (A : List Ark) (f : List Int) : Int := sumN (fun i => ge f i * cst A i) A.length

/-! ### Residual steps -/
def sF (A : List Ark) (i : Nat) (b : Bool) : Nat := if b then vT A i else vF A i
def sT (A : List Ark) (i : Nat) (b : Bool) : Nat := if b then vF A i else vT A i
def sC (A : List Ark) (i : Nat) (b : Bool) : Int := if b then -cst A i else cst A i
def sR (A : List Ark) (f : List Int) (i : Nat) (b : Bool) : Int := if b then ge f i else cap A i - ge f i
def Rs (A : List Ark) (f : List Int) (i : Nat) (b : Bool) : Prop := i < A.length ∧ 0 < sR A f i b
def Pot (A : List Ark) (f : List Int) (π : Nat → Int) : Prop := ∀ i b, Rs A f i b → 0 ≤ sC A i b + π (sF A i b) - π (sT A i b)
def resL (A : List Ark) (f : List Int) : Nat → List (Nat × Bool)
  | 0 => []
  | k + 1 => resL A f k ++ ((if ge f k < cap A k then [(k, false)] else []) ++ (if 0 < ge f k then [(k, true)] else []))
theorem mem_resL {A : List Ark} {f : List Int} {i : Nat} {b : Bool} : ∀ {k : Nat}, (i, b) ∈ resL A f k ↔ i < k ∧ 0 < sR A f i b
  | 0 => by simp [resL]
  | k + 1 => by
    simp only [resL, List.mem_append, mem_resL (k := k)]
    by_cases e : i = k
    · subst e
      unfold sR
      cases b
      · by_cases h : ge f i < cap A i
        · by_cases h2 : 0 < ge f i <;> simp [h, h2] <;> omega
        · by_cases h2 : 0 < ge f i <;> simp [h, h2] <;> omega
      · by_cases h : ge f i < cap A i
        · by_cases h2 : 0 < ge f i <;> simp [h, h2]
        · by_cases h2 : 0 < ge f i <;> simp [h, h2]
    · have n1 : (i, b) ∉ (if ge f k < cap A k then [(k, false)] else []) := by split <;> simp [e]
      have n2 : (i, b) ∉ (if 0 < ge f k then [(k, true)] else []) := by split <;> simp [e]
      constructor
      · rintro (h | h | h)
        · exact ⟨by omega, h.2⟩
        · exact absurd h n1
        · exact absurd h n2
      · intro h; exact Or.inl ⟨by omega, h.2⟩
theorem resL_len (A : List Ark) (f : List Int) : ∀ k, (resL A f k).length ≤ 2 * k
  | 0 => by simp [resL]
  | k + 1 => by
    have := resL_len A f k
    simp only [resL, List.length_append]
    split <;> split <;> simp <;> omega

/-! ### A potential means least cost -/
/-- Sum over the arcs of a difference of potentials. -/
theorem pot_sum {s : List Int} {A : List Ark} (hV : vN s A) (π : Nat → Int) (x : Nat → Int) :
    sumN (fun i => (π (vT A i) - π (vF A i)) * x i) A.length = sumN (fun v => π v * sumN (fun i => (if vT A i = v then x i else 0) - (if vF A i = v then x i else 0)) A.length) s.length := by
  have e1 : sumN (fun v => π v * sumN (fun i => (if vT A i = v then x i else 0) - (if vF A i = v then x i else 0)) A.length) s.length =
      sumN (fun v => sumN (fun i => π v * ((if vT A i = v then x i else 0) - (if vF A i = v then x i else 0))) A.length) s.length := sumN_congr fun v _ => by
    generalize A.length = k
    induction k with
    | zero => simp [sumN]
    | succ k ih => simp only [sumN, Int.mul_add, ih]
  rw [e1, sumN_swap]
  refine sumN_congr fun i hi => ?_
  have h1 := hV.vF hi
  have h2 := hV.vT hi
  have e2 : sumN (fun v => π v * ((if vT A i = v then x i else 0) - (if vF A i = v then x i else 0))) s.length =
      sumN (fun v => (if v = vT A i then π (vT A i) * x i else 0) + (if v = vF A i then -(π (vF A i) * x i) else 0)) s.length := sumN_congr fun v _ => by
    by_cases g1 : vT A i = v
    · by_cases g2 : vF A i = v
      · rw [if_pos g1, if_pos g2, if_pos g1.symm, if_pos g2.symm, g1, g2]; grind
      · rw [if_pos g1, if_neg g2, if_pos g1.symm, if_neg (Ne.symm g2), g1]; grind
    · by_cases g2 : vF A i = v
      · rw [if_neg g1, if_pos g2, if_neg (Ne.symm g1), if_pos g2.symm, g2]; grind
      · rw [if_neg g1, if_neg g2, if_neg (Ne.symm g1), if_neg (Ne.symm g2)]; grind
  rw [e2, sumN_add, sumN_one h2 (fun j _ hne => if_neg hne), if_pos rfl, sumN_one h1 (fun j _ hne => if_neg hne), if_pos rfl]
  grind
def rcst (A : List Ark) (π : Nat → Int) (i : Nat) : Int := cst A i + π (vF A i) - π (vT A i)
theorem flow_diff {s : List Int} {A : List Ark} (hV : vN s A) {f g : List Int} (hf : isFlow s A f) (hg : isFlow s A g) (π : Nat → Int) :
    costF A g - costF A f = sumN (fun i => rcst A π i * (ge g i - ge f i)) A.length := by
  have h1 : sumN (fun i => (π (vT A i) - π (vF A i)) * (ge g i - ge f i)) A.length = 0 := by
    rw [pot_sum hV π]
    refine sumN_zero fun v hv => ?_
    have e : sumN (fun i => (if vT A i = v then ge g i - ge f i else 0) - (if vF A i = v then ge g i - ge f i else 0)) A.length = inF A g v A.length - inF A f v A.length := by
      unfold inF
      have : sumN (fun i => ((if vT A i = v then ge g i - ge f i else 0) - (if vF A i = v then ge g i - ge f i else 0)) + ((if vT A i = v then ge f i else 0) - (if vF A i = v then ge f i else 0))) A.length = sumN (fun i => (if vT A i = v then ge g i else 0) - (if vF A i = v then ge g i else 0)) A.length := sumN_congr fun i _ => by
        split <;> split <;> omega
      rw [sumN_add] at this
      omega
    have a1 := hf.2 v hv
    have a2 := hg.2 v hv
    unfold exc at a1 a2
    rw [e, show inF A g v A.length - inF A f v A.length = 0 by omega, Int.mul_zero]
  have h2 : costF A g - costF A f = sumN (fun i => (ge g i - ge f i) * cst A i) A.length := by
    unfold costF
    have : sumN (fun i => (ge g i - ge f i) * cst A i + ge f i * cst A i) A.length = sumN (fun i => ge g i * cst A i) A.length := sumN_congr fun i _ => by grind
    rw [sumN_add] at this
    omega
  rw [h2]
  have h3 : sumN (fun i => rcst A π i * (ge g i - ge f i) + (π (vT A i) - π (vF A i)) * (ge g i - ge f i)) A.length = sumN (fun i => (ge g i - ge f i) * cst A i) A.length := sumN_congr fun i _ => by unfold rcst; grind
  rw [sumN_add, h1, Int.add_zero] at h3
  exact h3.symm
theorem pot_arc {A : List Ark} {f : List Int} {π : Nat → Int} (hP : Pot A f π) {i : Nat} (hi : i < A.length) : (ge f i < cap A i → 0 ≤ rcst A π i) ∧ (0 < ge f i → rcst A π i ≤ 0) := by
  constructor
  · intro h
    have := hP i false ⟨hi, by unfold sR; simp; omega⟩
    simpa [sC, sF, sT, rcst] using this
  · intro h
    have := hP i true ⟨hi, by unfold sR; simp; omega⟩
    simp [sC, sF, sT] at this
    unfold rcst
    omega
theorem pot_term {A : List Ark} {f g : List Int} {π : Nat → Int} (hP : Pot A f π) (hf : Fit A f) (hg : Fit A g) {i : Nat} (hi : i < A.length) : 0 ≤ rcst A π i * (ge g i - ge f i) := by
  obtain ⟨h1, h2⟩ := pot_arc hP hi
  have a1 := hf.b i hi
  have a2 := hg.b i hi
  rcases Int.lt_trichotomy (rcst A π i) 0 with h | h | h
  · have : ¬ ge f i < cap A i := fun e => by have := h1 e; omega
    exact Int.mul_nonneg_of_nonpos_of_nonpos (by omega) (by omega)
  · rw [h, Int.zero_mul]; exact Int.le_refl _
  · have : ¬ 0 < ge f i := fun e => by have := h2 e; omega
    exact Int.mul_nonneg (by omega) (by omega)
theorem pot_least {s : List Int} {A : List Ark} (hV : vN s A) {f g : List Int} {π : Nat → Int} (hP : Pot A f π) (hf : isFlow s A f) (hg : isFlow s A g) : costF A f ≤ costF A g := by
  have h1 := flow_diff hV hf hg π
  have h2 := sumN_nonneg (f := fun i => rcst A π i * (ge g i - ge f i)) (n := A.length) (fun i hi => pot_term hP hf.1 hg.1 hi)
  omega
end Go.Proofs.YtiihgpgpbgafiaaDoor.Fl

/- Shortest ways by labels, plain: labels with chains of vertices. -/
set_option linter.unusedSimpArgs false
set_option linter.unusedVariables false
namespace Go.Proofs.YtiihgpgpbgafiaaDoor.Fl

/-- Labels: far means that there is none. ch v: the vertices of the walk that gave v its label. -/
structure BF (V : Nat) (far : Int) (π : Nat → Int) (d : List Int) (ch : Nat → List Nat) : Prop where
  len : d.length = V
  nd : ∀ v, v < V → (ch v).Nodup
  lt : ∀ v, v < V → ∀ x ∈ ch v, x < V
  lab : ∀ v, v < V → ge d v ≠ far → 1 ≤ (ch v).length ∧ -(1000 * (((ch v).length : Int) - 1)) ≤ ge d v ∧ ge d v ≤ 1000 * (((ch v).length : Int) - 1)
  red : ∀ v, v < V → ge d v ≠ far → ∀ x ∈ ch v, ge d x ≠ far ∧ ge d x - π x ≤ ge d v - π v
def upd1 {α : Type} (ch : Nat → α) (v : Nat) (x : α) : Nat → α := fun w => if w = v then x else ch w
theorem BF.chain {V : Nat} {far : Int} {π : Nat → Int} {d : List Int} {ch : Nat → List Nat} (h : BF V far π d ch) {v : Nat} (hv : v < V) : (ch v).length ≤ V := nodup_len V (h.nd v hv) (h.lt v hv)
theorem BF.bound {V : Nat} {far : Int} {π : Nat → Int} {d : List Int} {ch : Nat → List Nat} (h : BF V far π d ch) {v : Nat} (hv : v < V) (hf : ge d v ≠ far) : -(1000 * (V : Int)) ≤ ge d v ∧ ge d v ≤ 1000 * (V : Int) := by
  have h1 := h.lab v hv hf
  have h2 := h.chain hv
  omega
/-- A label is made smaller. -/
theorem BF.relax {V : Nat} {far : Int} {π : Nat → Int} {d : List Int} {ch : Nat → List Nat} (h : BF V far π d ch) {u v : Nat} {c : Int} (hu : u < V) (hv : v < V) (hc : -1000 ≤ c ∧ c ≤ 1000) (hr : 0 ≤ c + π u - π v)
    (hf : ge d u ≠ far) (hlt : ge d v = far ∨ ge d u + c < ge d v) (hfar : ge d u + c ≠ far) : BF V far π (d.set v (ge d u + c)) (upd1 ch v (v :: ch u)) ∧ v ∉ ch u := by
  have hn : v ∉ ch u := fun hm => by
    obtain ⟨g1, g2⟩ := h.red u hu hf v hm
    rcases hlt with e | e
    · exact g1 e
    · omega
  have hge : ∀ w, ge (d.set v (ge d u + c)) w = if w = v then ge d u + c else ge d w := fun w => ge_set d (by rw [h.len]; exact hv) _ w
  refine ⟨⟨by rw [List.length_set]; exact h.len, fun w hw => ?_, fun w hw x hx => ?_, fun w hw hwf => ?_, fun w hw hwf x hx => ?_⟩, hn⟩
  · unfold upd1
    split
    · exact List.nodup_cons.2 ⟨hn, h.nd u hu⟩
    · exact h.nd w hw
  · unfold upd1 at hx
    split at hx
    · rcases List.mem_cons.1 hx with e | e
      · rw [e]; exact hv
      · exact h.lt u hu x e
    · exact h.lt w hw x hx
  · rw [hge] at hwf ⊢
    unfold upd1
    by_cases e : w = v
    · rw [if_pos e, if_pos e]
      obtain ⟨l1, l2, l3⟩ := h.lab u hu hf
      rw [List.length_cons]
      omega
    · rw [if_neg e] at hwf
      rw [if_neg e, if_neg e]
      exact h.lab w hw hwf
  · rw [hge] at hwf ⊢
    rw [hge]
    unfold upd1 at hx
    by_cases e : w = v
    · rw [if_pos e] at hx hwf
      rw [if_pos e]
      by_cases ex : x = v
      · rw [if_pos ex, ex, e]; exact ⟨hfar, Int.le_refl _⟩
      · rw [if_neg ex]
        rcases List.mem_cons.1 hx with e2 | e2
        · exact absurd e2 ex
        · obtain ⟨g1, g2⟩ := h.red u hu hf x e2
          rw [e]
          exact ⟨g1, by omega⟩
    · rw [if_neg e] at hx hwf
      rw [if_neg e]
      obtain ⟨g1, g2⟩ := h.red w hw hwf x hx
      by_cases ex : x = v
      · subst ex
        rw [if_pos rfl]
        refine ⟨hfar, ?_⟩
        rcases hlt with e3 | e3
        · exact absurd e3 g1
        · omega
      · rw [if_neg ex]; exact ⟨g1, g2⟩

/-- The measure of the search. -/
def mea (V : Nat) (d : List Int) : Nat := (sumN (fun v => ge d v + 1000000) V).toNat
theorem mea_lt {V : Nat} {d : List Int} (hl : d.length = V) (hlo : ∀ v, v < V → -1000000 ≤ ge d v) {v : Nat} (hv : v < V) {x : Int} (hx : x < ge d v) (hx2 : -1000000 ≤ x) : mea V (d.set v x) < mea V d := by
  unfold mea
  have e : sumN (fun w => ge (d.set v x) w + 1000000) V = sumN (fun w => ge d w + 1000000) V + (x - ge d v) := by
    have : sumN (fun w => ge (d.set v x) w + 1000000) V = sumN (fun w => (ge d w + 1000000) + (if w = v then x - ge d v else 0)) V := sumN_congr fun w _ => by
      rw [ge_set d (by omega)]
      by_cases e : w = v
      · rw [if_pos e, if_pos e, e]; omega
      · rw [if_neg e, if_neg e]; omega
    rw [this, sumN_add, sumN_one hv (fun j _ hne => if_neg hne), if_pos rfl]
  have h1 : 0 ≤ sumN (fun w => ge (d.set v x) w + 1000000) V := sumN_nonneg fun w hw => by
    rw [ge_set d (by omega)]
    have := hlo w hw
    split <;> omega
  omega

/-! ### Rounds from labels 0: a label of round k has a chain longer than k -/
/-- Step (u, v, c) is settled, or u has been changed in the last round. -/
def ok1 (d : List Int) (ch : Nat → List Nat) (k : Nat) (u v : Nat) (c : Int) : Prop := ge d v ≤ ge d u + c ∨ k ≤ (ch u).length
/-- In round k (from 1 on), the first j steps having been looked at. -/
structure Rd (A : List Ark) (L : List (Nat × Bool)) (d : List Int) (ch : Nat → List Nat) (k j : Nat) : Prop where
  done : ∀ t, t < j → ∀ i b, L[t]? = some (i, b) → ok1 d ch (k + 1) (sF A i b) (sT A i b) (sC A i b)
  todo : ∀ t, j ≤ t → ∀ i b, L[t]? = some (i, b) → ok1 d ch k (sF A i b) (sT A i b) (sC A i b)
theorem Rd.same {A : List Ark} {L : List (Nat × Bool)} {d : List Int} {ch : Nat → List Nat} {k j : Nat} (h : Rd A L d ch k j) {i : Nat} {b : Bool} (hj : L[j]? = some (i, b)) (hle : ge d (sT A i b) ≤ ge d (sF A i b) + sC A i b) : Rd A L d ch k (j + 1) := by
  refine ⟨fun t ht i' b' he => ?_, fun t ht => h.todo t (by omega)⟩
  by_cases e : t = j
  · subst e
    rw [hj] at he
    cases he
    exact Or.inl hle
  · exact h.done t (by omega) i' b' he
theorem Rd.relax {A : List Ark} {L : List (Nat × Bool)} {d : List Int} {ch : Nat → List Nat} {k j : Nat} (h : Rd A L d ch k j) {i : Nat} {b : Bool} (hj : L[j]? = some (i, b)) (hlt : ge d (sF A i b) + sC A i b < ge d (sT A i b))
    (hlen : sT A i b < d.length) (hne : sF A i b ≠ sT A i b) : Rd A L (d.set (sT A i b) (ge d (sF A i b) + sC A i b)) (upd1 ch (sT A i b) (sT A i b :: ch (sF A i b))) k (j + 1) ∧ k + 1 ≤ (sT A i b :: ch (sF A i b)).length := by
  have hlk : k ≤ (ch (sF A i b)).length := (h.todo j (Nat.le_refl _) i b hj).resolve_left (by omega)
  have key : ∀ (K : Nat) (u v : Nat) (c : Int), K ≤ k + 1 → ok1 d ch K u v c → ok1 (d.set (sT A i b) (ge d (sF A i b) + sC A i b)) (upd1 ch (sT A i b) (sT A i b :: ch (sF A i b))) K u v c := fun K u v c hK ho => by
    unfold ok1 upd1
    rw [ge_set d hlen, ge_set d hlen]
    by_cases e : u = sT A i b
    · right
      rw [if_pos e, List.length_cons]
      omega
    · rw [if_neg e, if_neg e]
      rcases ho with ho | ho
      · left
        by_cases e2 : v = sT A i b
        · rw [if_pos e2]; rw [e2] at ho; omega
        · rw [if_neg e2]; exact ho
      · exact Or.inr ho
  refine ⟨⟨fun t ht i' b' he => ?_, fun t ht i' b' he => key k _ _ _ (by omega) (h.todo t (by omega) i' b' he)⟩, by rw [List.length_cons]; omega⟩
  by_cases e : t = j
  · subst e
    rw [hj] at he
    cases he
    left
    rw [ge_set d hlen, ge_set d hlen, if_pos rfl, if_neg hne]
    exact Int.le_refl _
  · exact key (k + 1) _ _ _ (Nat.le_refl _) (h.done t (by omega) i' b' he)
theorem Rd.next {A : List Ark} {L : List (Nat × Bool)} {d : List Int} {ch : Nat → List Nat} {k : Nat} (h : Rd A L d ch k L.length) : Rd A L d ch (k + 1) 0 := by
  refine ⟨fun t ht => by omega, fun t _ i b he => ?_⟩
  have : t < L.length := (List.getElem?_eq_some_iff.1 he).1
  exact h.done t this i b he
theorem Rd.begin {A : List Ark} {L : List (Nat × Bool)} {d : List Int} {ch : Nat → List Nat} (h : ∀ (t i : Nat) (b : Bool), L[t]? = some (i, b) → 1 ≤ (ch (sF A i b)).length) : Rd A L d ch 1 0 :=
  ⟨fun t ht => by omega, fun t _ i b he => Or.inr (h t i b he)⟩
theorem BF.zero (V : Nat) (far : Int) (π : Nat → Int) (hf : far ≠ 0) : BF V far π (List.replicate V 0) (fun v => [v]) := by
  have h0 : ∀ v, ge (List.replicate V 0) v = 0 := fun v => by
    unfold ge
    rw [List.getD_eq_getElem?_getD, List.getElem?_replicate]
    split <;> rfl
  refine ⟨by simp, fun v hv => by simp, fun v hv x hx => by simp at hx; omega, fun v hv _ => ?_, fun v hv _ x hx => ?_⟩
  · rw [h0]; simp
  · simp at hx; subst hx; exact ⟨by rw [h0]; exact Ne.symm hf, Int.le_refl _⟩
end Go.Proofs.YtiihgpgpbgafiaaDoor.Fl

/- The search for a cheapest way, plain; the cut. -/
set_option linter.unusedSimpArgs false
set_option linter.unusedVariables false
namespace Go.Proofs.YtiihgpgpbgafiaaDoor.Fl

/-- The state of the search. -/
structure Se (V : Nat) (far : Int) (src : Nat → Prop) (A : List Ark) (L : List (Nat × Bool)) (π : Nat → Int) (d : List Int) (pr : List Int) (ch : Nat → List Nat) : Prop where
  bf : BF V far π d ch
  pl : pr.length = V
  root : ∀ v, v < V → ge d v ≠ far → ge pr v = -1 → src v
  srcf : ∀ v, v < V → src v → ge d v ≠ far
  pred : ∀ v, v < V → ge pr v = -1 ∨ ∃ (j i : Nat) (b : Bool), ge pr v = (j : Int) ∧ L[j]? = some (i, b) ∧ sT A i b = v ∧ ge d v ≠ far ∧ ge d (sF A i b) ≠ far ∧ ge d (sF A i b) + sC A i b ≤ ge d v ∧
    (ge d v = ge d (sF A i b) + sC A i b → (ch v).length = (ch (sF A i b)).length + 1)
theorem Se.begin {V : Nat} {far : Int} {src : Nat → Prop} {A : List Ark} {L : List (Nat × Bool)} {π : Nat → Int} {d pr : List Int} (hf : far ≠ 0) (hd : d.length = V) (hp : pr.length = V)
    (h1 : ∀ v, v < V → (src v → ge d v = 0) ∧ (¬ src v → ge d v = far)) (h2 : ∀ v, v < V → ge pr v = -1) : Se V far src A L π d pr (fun v => [v]) := by
  have hs : ∀ v, v < V → ge d v ≠ far → src v ∧ ge d v = 0 := fun v hv h => by
    by_cases e : src v
    · exact ⟨e, (h1 v hv).1 e⟩
    · exact absurd ((h1 v hv).2 e) h
  refine ⟨⟨hd, fun v _ => by simp, fun v hv x hx => by simp at hx; omega, fun v hv h => ?_, fun v hv h x hx => ?_⟩, hp, fun v hv h _ => (hs v hv h).1, fun v hv h => ?_, fun v hv => Or.inl (h2 v hv)⟩
  · rw [(hs v hv h).2]; simp
  · simp at hx; subst hx; exact ⟨h, Int.le_refl _⟩
  · rw [(h1 v hv).1 h]; exact Ne.symm hf
theorem Se.relax {V : Nat} {far : Int} {src : Nat → Prop} {A : List Ark} {L : List (Nat × Bool)} {π : Nat → Int} {d pr : List Int} {ch : Nat → List Nat} (h : Se V far src A L π d pr ch) {j i : Nat} {b : Bool} (hj : L[j]? = some (i, b))
    (hu : sF A i b < V) (hv : sT A i b < V) (hc : -1000 ≤ sC A i b ∧ sC A i b ≤ 1000) (hr : 0 ≤ sC A i b + π (sF A i b) - π (sT A i b)) (hf : ge d (sF A i b) ≠ far) (hlt : ge d (sT A i b) = far ∨ ge d (sF A i b) + sC A i b < ge d (sT A i b))
    (hfar : ge d (sF A i b) + sC A i b ≠ far) :
    Se V far src A L π (d.set (sT A i b) (ge d (sF A i b) + sC A i b)) (pr.set (sT A i b) (j : Int)) (upd1 ch (sT A i b) (sT A i b :: ch (sF A i b))) := by
  obtain ⟨hb, hn⟩ := h.bf.relax hu hv hc hr hf hlt hfar
  have hge : ∀ w, ge (d.set (sT A i b) (ge d (sF A i b) + sC A i b)) w = if w = sT A i b then ge d (sF A i b) + sC A i b else ge d w := fun w => ge_set d (by rw [h.bf.len]; exact hv) _ w
  have hgp : ∀ w, ge (pr.set (sT A i b) (j : Int)) w = if w = sT A i b then (j : Int) else ge pr w := fun w => ge_set pr (by rw [h.pl]; exact hv) _ w
  have hne : sF A i b ≠ sT A i b := fun e => by
    rcases hlt with g | g
    · rw [← e] at g; exact hf g
    · rw [e] at g hr; omega
  refine ⟨hb, by rw [List.length_set]; exact h.pl, fun v hv' g1 g2 => ?_, fun v hv' hs => ?_, fun v hv' => ?_⟩
  · rw [hgp] at g2
    rw [hge] at g1
    by_cases e : v = sT A i b
    · rw [if_pos e] at g2; omega
    · rw [if_neg e] at g1 g2
      exact h.root v hv' g1 g2
  · rw [hge]
    split
    · exact hfar
    · exact h.srcf v hv' hs
  · rw [hgp, hge]
    by_cases e : v = sT A i b
    · rw [if_pos e, if_pos e]
      refine Or.inr ⟨j, i, b, rfl, hj, e.symm, hfar, ?_, ?_, fun _ => ?_⟩
      · rw [hge, if_neg hne]; exact hf
      · rw [hge, if_neg hne]; exact Int.le_refl _
      · unfold upd1
        rw [if_pos e, if_neg hne, List.length_cons]
    · rw [if_neg e, if_neg e]
      rcases h.pred v hv' with g | ⟨j', i', b', p1, p2, p3, p4, p5, p6, p7⟩
      · exact Or.inl g
      · refine Or.inr ⟨j', i', b', p1, p2, p3, p4, ?_, ?_, ?_⟩
        · rw [hge]; split
          · exact hfar
          · exact p5
        · rw [hge]
          split
          · rename_i e2
            rw [e2] at p5 p6
            rcases hlt with g | g
            · exact absurd g p5
            · omega
          · exact p6
        · rw [hge]
          unfold upd1
          rw [if_neg e]
          by_cases e2 : sF A i' b' = sT A i b
          · rw [if_pos e2, if_pos e2]
            intro e3
            rw [e2] at p5 p6
            rcases hlt with g | g
            · exact absurd g p5
            · omega
          · rw [if_neg e2, if_neg e2]
            exact p7
/-- No step makes a label smaller. -/
def Settled (far : Int) (A : List Ark) (L : List (Nat × Bool)) (d : List Int) : Prop := ∀ (t i : Nat) (b : Bool), L[t]? = some (i, b) → ge d (sF A i b) = far ∨ (ge d (sT A i b) ≠ far ∧ ge d (sT A i b) ≤ ge d (sF A i b) + sC A i b)

/-! ### Ways -/
def Way (A : List Ark) : List (Nat × Bool) → Nat → Nat → Prop
  | [], s, t => s = t
  | x :: P, s, t => sF A x.1 x.2 = s ∧ Way A P (sT A x.1 x.2) t
/-- A way of tight steps; hop: the length of the chains. -/
structure Wy (V : Nat) (A : List Ark) (L : List (Nat × Bool)) (far : Int) (d : List Int) (ch : Nat → List Nat) (P : List (Nat × Bool)) (s t : Nat) : Prop where
  way : Way A P s t
  stp : ∀ x ∈ P, x ∈ L ∧ ge d (sT A x.1 x.2) = ge d (sF A x.1 x.2) + sC A x.1 x.2 ∧ (ch (sT A x.1 x.2)).length = (ch (sF A x.1 x.2)).length + 1 ∧ ge d (sF A x.1 x.2) ≠ far ∧ ge d (sT A x.1 x.2) ≠ far
  up : ∀ x ∈ P, (ch s).length < (ch (sT A x.1 x.2)).length
  pw : P.Pairwise fun x y => (ch (sT A x.1 x.2)).length < (ch (sT A y.1 y.2)).length
  vs : s < V
  vP : ∀ x ∈ P, sT A x.1 x.2 < V
theorem Wy.nil {V : Nat} {A : List Ark} {L : List (Nat × Bool)} {far : Int} {d : List Int} {ch : Nat → List Nat} {t : Nat} (ht : t < V) : Wy V A L far d ch [] t t :=
  ⟨rfl, fun x hx => by simp at hx, fun x hx => by simp at hx, List.Pairwise.nil, ht, fun x hx => by simp at hx⟩
theorem Wy.cons {V : Nat} {A : List Ark} {L : List (Nat × Bool)} {far : Int} {d : List Int} {ch : Nat → List Nat} {P : List (Nat × Bool)} {s t : Nat} (h : Wy V A L far d ch P s t) {i : Nat} {b : Bool} (hm : (i, b) ∈ L) (hs : sT A i b = s)
    (ht : ge d (sT A i b) = ge d (sF A i b) + sC A i b) (hl : (ch (sT A i b)).length = (ch (sF A i b)).length + 1) (hf : ge d (sF A i b) ≠ far) (hf2 : ge d (sT A i b) ≠ far) (hv : sF A i b < V) : Wy V A L far d ch ((i, b) :: P) (sF A i b) t := by
  refine ⟨⟨rfl, by rw [hs]; exact h.way⟩, fun x hx => ?_, fun x hx => ?_, List.pairwise_cons.2 ⟨fun y hy => ?_, h.pw⟩, hv, fun x hx => ?_⟩
  · rcases List.mem_cons.1 hx with e | e
    · subst e; exact ⟨hm, ht, hl, hf, hf2⟩
    · exact h.stp x e
  · rcases List.mem_cons.1 hx with e | e
    · subst e; simp only; omega
    · have := h.up x e
      rw [hs] at hl
      omega
  · have := h.up y hy
    simp only [hs]
    exact this
  · rcases List.mem_cons.1 hx with e | e
    · subst e; simp only [hs]; exact h.vs
    · exact h.vP x e
/-- One step back. -/
theorem Se.back {V : Nat} {far : Int} {src : Nat → Prop} {A : List Ark} {L : List (Nat × Bool)} {π : Nat → Int} {d pr : List Int} {ch : Nat → List Nat} (h : Se V far src A L π d pr ch) (hs : Settled far A L d) {P : List (Nat × Bool)} {v t : Nat}
    (hw : Wy V A L far d ch P v t) (hp : ge pr v ≠ -1) (hF : ∀ i b, (i, b) ∈ L → sF A i b < V) :
    ∃ (j i : Nat) (b : Bool), ge pr v = (j : Int) ∧ L[j]? = some (i, b) ∧ Wy V A L far d ch ((i, b) :: P) (sF A i b) t ∧ (ch (sF A i b)).length < (ch v).length ∧ ge d (sF A i b) ≠ far := by
  rcases h.pred v hw.vs with g | ⟨j, i, b, p1, p2, p3, p4, p5, p6, p7⟩
  · exact absurd g hp
  · have hm : (i, b) ∈ L := List.mem_of_getElem? p2
    have hst := (hs j i b p2).resolve_left p5
    rw [p3] at hst
    have e : ge d v = ge d (sF A i b) + sC A i b := by omega
    have hl := p7 e
    refine ⟨j, i, b, p1, p2, hw.cons hm p3 (by rw [p3]; exact e) (by rw [p3]; exact hl) p5 (by rw [p3]; exact p4) (hF i b hm), by omega, p5⟩
theorem Wy.len {V : Nat} {A : List Ark} {L : List (Nat × Bool)} {far : Int} {d : List Int} {ch : Nat → List Nat} {P : List (Nat × Bool)} {s t : Nat} (h : Wy V A L far d ch P s t) : P.length ≤ V := by
  have h1 : (P.map fun x => sT A x.1 x.2).Nodup := by
    unfold List.Nodup
    rw [List.pairwise_map]
    exact h.pw.imp fun hlt e => by rw [e] at hlt; omega
  have := nodup_len V h1 (fun u hu => by
    obtain ⟨x, hx, rfl⟩ := List.mem_map.1 hu
    exact h.vP x hx)
  rwa [List.length_map] at this
/-- Each arc is used once. -/
theorem Wy.arcs {V : Nat} {A : List Ark} {L : List (Nat × Bool)} {far : Int} {d : List Int} {ch : Nat → List Nat} {P : List (Nat × Bool)} {s t : Nat} (h : Wy V A L far d ch P s t) : P.Pairwise fun x y => x.1 ≠ y.1 := by
  refine h.pw.imp_of_mem fun {x y} hx hy hlt e => ?_
  obtain ⟨_, _, l1, _⟩ := h.stp x hx
  obtain ⟨_, _, l2, _⟩ := h.stp y hy
  obtain ⟨i, b⟩ := x
  obtain ⟨i', b'⟩ := y
  simp only at e
  subst e
  simp only at l1 l2 hlt
  cases b <;> cases b' <;> simp [sT, sF] at l1 l2 hlt <;> omega

/-! ### More on the arcs of a way -/
def addP (f : List Int) (k : Int) : List (Nat × Bool) → List Int
  | [] => f
  | x :: P => addP (f.set x.1 (if x.2 then ge f x.1 - k else ge f x.1 + k)) k P
theorem addP_length (k : Int) : ∀ (P : List (Nat × Bool)) (f : List Int), (addP f k P).length = f.length
  | [], _ => rfl
  | x :: P, f => by rw [addP, addP_length k P, List.length_set]
theorem ge_addP (k : Int) : ∀ (P : List (Nat × Bool)) (f : List Int), (P.Pairwise fun x y => x.1 ≠ y.1) → (∀ x ∈ P, x.1 < f.length) → ∀ i, ge (addP f k P) i = if (i, false) ∈ P then ge f i + k else if (i, true) ∈ P then ge f i - k else ge f i
  | [], f, _, _, i => by simp [addP]
  | x :: P, f, hp, hl, i => by
    rw [List.pairwise_cons] at hp
    have hx := hl x List.mem_cons_self
    rw [addP, ge_addP k P _ hp.2 (fun y hy => by rw [List.length_set]; exact hl y (List.mem_cons_of_mem _ hy)) i, ge_set f hx]
    obtain ⟨j, b⟩ := x
    by_cases e : i = j
    · subst e
      have n1 : (i, false) ∉ P := fun h => hp.1 _ h rfl
      have n2 : (i, true) ∉ P := fun h => hp.1 _ h rfl
      cases b <;> simp [n1, n2]
    · simp [e]
/-- What an arc's number does to the excesses. -/
theorem inF_set {A : List Ark} {f : List Int} {i : Nat} (hi : i < f.length) (x : Int) (v : Nat) : ∀ k, inF A (f.set i x) v k = inF A f v k + (if i < k then (if vT A i = v then x - ge f i else 0) - (if vF A i = v then x - ge f i else 0) else 0)
  | 0 => by simp [inF, sumN]
  | k + 1 => by
    have ih := inF_set (A := A) hi x v k
    unfold inF at ih ⊢
    rw [sumN, sumN, ih, ge_set f hi]
    by_cases e : k = i
    · subst e
      simp only [if_true, Nat.lt_irrefl, if_false, show k < k + 1 by omega]
      split <;> split <;> omega
    · rw [if_neg e]
      by_cases g : i < k
      · rw [if_pos g, if_pos (show i < k + 1 by omega)]; exact Int.add_right_comm _ _ _
      · rw [if_neg g, if_neg (show ¬ i < k + 1 by omega), Int.add_zero, Int.add_zero]
theorem exc_step (s : List Int) {A : List Ark} {f : List Int} (hl : f.length = A.length) {i : Nat} (hi : i < A.length) (b : Bool) (k : Int) (v : Nat) :
    exc s A (f.set i (if b then ge f i - k else ge f i + k)) v = exc s A f v - (if sF A i b = v then k else 0) + (if sT A i b = v then k else 0) := by
  unfold exc
  rw [inF_set (by omega), if_pos hi]
  unfold sF sT
  cases b <;> simp <;> split <;> split <;> omega
theorem exc_addP (s : List Int) {A : List Ark} (k : Int) : ∀ (P : List (Nat × Bool)) (f : List Int) (a t : Nat), f.length = A.length → (∀ x ∈ P, x.1 < A.length) → Way A P a t → ∀ v, exc s A (addP f k P) v = exc s A f v - (if a = v then k else 0) + (if t = v then k else 0)
  | [], f, a, t, _, _, hw, v => by
    have : a = t := hw
    rw [this, addP]; omega
  | x :: P, f, a, t, hl, hm, hw, v => by
    obtain ⟨h1, h2⟩ := hw
    rw [addP, exc_addP s k P _ _ t (by rw [List.length_set]; exact hl) (fun y hy => hm y (List.mem_cons_of_mem _ hy)) h2 v, exc_step s hl (hm x List.mem_cons_self), h1]
    omega
end Go.Proofs.YtiihgpgpbgafiaaDoor.Fl

/- Augmentation and the cut, plain. -/
set_option linter.unusedSimpArgs false
set_option linter.unusedVariables false
namespace Go.Proofs.YtiihgpgpbgafiaaDoor.Fl

theorem bound_list (g : Nat → Int) : ∀ n, ∃ C : Int, 0 ≤ C ∧ ∀ i, i < n → g i ≤ C
  | 0 => ⟨0, Int.le_refl _, fun i hi => by omega⟩
  | n + 1 => by
    obtain ⟨C, h0, h⟩ := bound_list g n
    by_cases e : g n ≤ C
    · exact ⟨C, h0, fun i hi => by
        by_cases e2 : i = n
        · rw [e2]; exact e
        · exact h i (by omega)⟩
    · exact ⟨g n, by omega, fun i hi => by
        by_cases e2 : i = n
        · rw [e2]; exact Int.le_refl _
        · have := h i (by omega); omega⟩
theorem sC_bd {s : List Int} {A : List Ark} (hV : vN s A) {i : Nat} (hi : i < A.length) (b : Bool) : -1000 ≤ sC A i b ∧ sC A i b ≤ 1000 := by
  have := (hV.a i hi).2.2.2
  unfold sC
  cases b <;> simp <;> omega
theorem sF_lt {s : List Int} {A : List Ark} (hV : vN s A) {i : Nat} (hi : i < A.length) (b : Bool) : sF A i b < s.length := by
  unfold sF
  cases b
  · exact hV.vF hi
  · exact hV.vT hi
theorem sT_lt {s : List Int} {A : List Ark} (hV : vN s A) {i : Nat} (hi : i < A.length) (b : Bool) : sT A i b < s.length := by
  unfold sT
  cases b
  · exact hV.vT hi
  · exact hV.vF hi
theorem fit_add {A : List Ark} {f : List Int} (hf : Fit A f) {P : List (Nat × Bool)} (hp : P.Pairwise fun x y => x.1 ≠ y.1) (hP : ∀ x ∈ P, x ∈ resL A f A.length) {k : Int} (h0 : 0 ≤ k) (hk : ∀ x ∈ P, k ≤ sR A f x.1 x.2) : Fit A (addP f k P) := by
  have hm : ∀ x ∈ P, x.1 < f.length := fun x hx => by
    have := (mem_resL (i := x.1) (b := x.2)).1 (hP x hx)
    rw [hf.l]; exact this.1
  refine ⟨by rw [addP_length]; exact hf.l, fun i hi => ?_⟩
  rw [ge_addP k P f hp hm]
  have hb := hf.b i hi
  by_cases e1 : (i, false) ∈ P
  · rw [if_pos e1]
    have := hk _ e1
    simp [sR] at this
    omega
  · rw [if_neg e1]
    by_cases e2 : (i, true) ∈ P
    · rw [if_pos e2]
      have := hk _ e2
      simp [sR] at this
      omega
    · rw [if_neg e2]; exact hb
/-- The labels give a potential of the new residual network. -/
theorem pot_add {s : List Int} {A : List Ark} (hV : vN s A) {f : List Int} (hf : Fit A f) {π : Nat → Int} (hpot : Pot A f π) {far : Int} {d : List Int} {ch : Nat → List Nat} {P : List (Nat × Bool)} {a t : Nat}
    (hs : Settled far A (resL A f A.length) d) (hw : Wy s.length A (resL A f A.length) far d ch P a t) (k : Int) : ∃ π', Pot A (addP f k P) π' := by
  obtain ⟨C, hC0, hC⟩ := bound_list (fun j => (if ge d (vF A j) = far then ge d (vT A j) - cst A j - π (vF A j) else 0) + (if ge d (vT A j) = far then ge d (vF A j) + cst A j - π (vT A j) else 0)) A.length
  obtain ⟨C1, hC01, hC1⟩ := bound_list (fun j => ge d (vT A j) - cst A j - π (vF A j)) A.length
  obtain ⟨C2, hC02, hC2⟩ := bound_list (fun j => ge d (vF A j) + cst A j - π (vT A j)) A.length
  refine ⟨fun v => if ge d v = far then π v + (C1 + C2) else ge d v, fun i b hR => ?_⟩
  obtain ⟨hi, hr⟩ := hR
  have hm : ∀ x ∈ P, x.1 < f.length := fun x hx => by
    have := (mem_resL (i := x.1) (b := x.2)).1 (hw.stp x hx).1
    rw [hf.l]; exact this.1
  have hge := ge_addP k P f hw.arcs hm i
  -- the arc's ends bound C1, C2
  have c1 := hC1 i hi
  have c2 := hC2 i hi
  try simp only at c1 c2
  -- is it an old step, or the reverse of a tight one
  by_cases hold : Rs A f i b
  · obtain ⟨t', ht'⟩ := List.getElem?_of_mem ((mem_resL (A := A) (f := f) (i := i) (b := b) (k := A.length)).2 ⟨hi, hold.2⟩)
    have hp := hpot i b hold
    rcases hs t' i b ht' with g | ⟨g1, g2⟩
    · by_cases g3 : ge d (sT A i b) = far
      · simp only [g, g3, if_true]; omega
      · simp only [g, g3, if_true, if_false]
        cases b <;> simp [sF, sT, sC] at * <;> omega
    · by_cases g : ge d (sF A i b) = far
      · simp only [g, g1, if_true, if_false]
        cases b <;> simp [sF, sT, sC] at * <;> omega
      · simp only [g, g1, if_false]; omega
  · have hrev : (i, !b) ∈ P := by
      by_cases e1 : (i, false) ∈ P
      · rw [if_pos e1] at hge
        cases b
        · exact absurd ⟨hi, by simp [sR] at hr ⊢; have := (mem_resL.1 (hw.stp _ e1).1).2; simp [sR] at this; omega⟩ hold
        · exact e1
      · rw [if_neg e1] at hge
        by_cases e2 : (i, true) ∈ P
        · cases b
          · exact e2
          · exact absurd ⟨hi, by have := (mem_resL.1 (hw.stp _ e2).1).2; exact this⟩ hold
        · rw [if_neg e2] at hge
          refine absurd ⟨hi, ?_⟩ hold
          unfold sR at hr ⊢
          rw [hge] at hr
          exact hr
    obtain ⟨_, ht, _, f1, f2⟩ := hw.stp _ hrev
    simp only at ht f1 f2
    have a1 : sF A i b = sT A i !b := by cases b <;> rfl
    have a2 : sT A i b = sF A i !b := by cases b <;> rfl
    have a3 : sC A i b = -sC A i !b := by cases b <;> simp [sC]
    rw [a1, a2, a3]
    simp only [f1, f2, if_false]
    omega

end Go.Proofs.YtiihgpgpbgafiaaDoor.Fl

/- Networks in memory; Valid of the program and of the reference. -/
set_option linter.unusedSimpArgs false
set_option linter.unusedVariables false
namespace Go.Proofs.YtiihgpgpbgafiaaDoor.Fl
open Go.RowKit
attribute [local go_sem ↓] Go.wp_at_zero Go.wp_at_succ

def w64 (x : Int) : Prop := -9223372036854775808 ≤ x ∧ x ≤ 9223372036854775807
/-- A slice of arcs. -/
def Arks (w : World) (q : Option Addr) (A : List Ark) : Prop :=
  A.length ≤ 9223372036854775807 ∧ (∀ i, i < A.length → w64 (aK A i).fr ∧ w64 (aK A i).ed ∧ w64 (aK A i).cap ∧ w64 (aK A i).cost) ∧
  ∃ b o, (0 < A.length → q = some ⟨b, o, none⟩ ∧ b < w.heap.size) ∧ ∀ i, i < A.length → w.cell? ⟨b, o + i * 4, none⟩ = some (.int .i64 (aK A i).fr) ∧ w.cell? ⟨b, o + i * 4 + 1, none⟩ = some (.int .i64 (aK A i).ed) ∧
    w.cell? ⟨b, o + i * 4 + 2, none⟩ = some (.int .i64 (aK A i).cap) ∧ w.cell? ⟨b, o + i * 4 + 3, none⟩ = some (.int .i64 (aK A i).cost)
theorem Arks.grew {w w' : World} {q : Option Addr} {A : List Ark} (h : Arks w q A) (hg : Grew w w') : Arks w' q A := by
  obtain ⟨h1, h2, b, o, h3, h4⟩ := h
  exact ⟨h1, h2, b, o, fun hp => ⟨(h3 hp).1, Nat.lt_of_lt_of_le (h3 hp).2 hg.below.size⟩, fun i hi => ⟨hg.cellEq (h4 i hi).1, hg.cellEq (h4 i hi).2.1, hg.cellEq (h4 i hi).2.2.1, hg.cellEq (h4 i hi).2.2.2⟩⟩
theorem Arks.open {w : World} {q : Option Addr} {A : List Ark} (h : Arks w q A) {i : Nat} (hi : i < A.length) : ∃ b o, q = some ⟨b, o, none⟩ ∧ b < w.heap.size ∧ w.cell? ⟨b, o + i * 4, none⟩ = some (.int .i64 (aK A i).fr) ∧ w.cell? ⟨b, o + i * 4 + 1, none⟩ = some (.int .i64 (aK A i).ed) ∧
    w.cell? ⟨b, o + i * 4 + 2, none⟩ = some (.int .i64 (aK A i).cap) ∧ w.cell? ⟨b, o + i * 4 + 3, none⟩ = some (.int .i64 (aK A i).cost) := by
  obtain ⟨_, _, b, o, h3, h4⟩ := h
  exact ⟨b, o, (h3 (by omega)).1, (h3 (by omega)).2, h4 i hi⟩
theorem Arks.rng {w : World} {q : Option Addr} {A : List Ark} (h : Arks w q A) {i : Nat} (hi : i < A.length) : w64 (aK A i).fr ∧ w64 (aK A i).ed ∧ w64 (aK A i).cap ∧ w64 (aK A i).cost := h.2.1 i hi

def arkOK (n : Nat) (a : Ark) : Prop := (0 ≤ a.fr ∧ a.fr < n) ∧ (0 ≤ a.ed ∧ a.ed < n) ∧ (0 ≤ a.cap ∧ a.cap ≤ 1048576) ∧ (-1000 ≤ a.cost ∧ a.cost ≤ 1000)
instance (n : Nat) (a : Ark) : Decidable (arkOK n a) := by unfold arkOK; exact inferInstance
theorem vN_iff {s : List Int} {A : List Ark} : vN s A ↔ s.length ≤ 256 ∧ A.length ≤ 2048 ∧ (∀ v, v < s.length → -1048576 ≤ ge s v ∧ ge s v ≤ 1048576) ∧ (∀ i, i < A.length → arkOK s.length (aK A i)) ∧ sumN (fun v => ge s v) s.length = 0 :=
  ⟨fun h => ⟨h.n, h.m, h.sb, h.a, h.z⟩, fun h => ⟨h.1, h.2.1, h.2.2.1, h.2.2.2.1, h.2.2.2.2⟩⟩
instance (s : List Int) (A : List Ark) : Decidable (vN s A) := decidable_of_iff' _ vN_iff
def nB (s : List Int) (A : List Ark) : Bool := decide (vN s A)
theorem nB_iff {s : List Int} {A : List Ark} : nB s A = true ↔ vN s A := by unfold nB; simp
theorem nB_not {s : List Int} {A : List Ark} (h : ¬ vN s A) : nB s A = false := by rw [← Bool.not_eq_true, nB_iff]; exact h
theorem sum_bd {s : List Int} : ∀ k, (∀ v, v < k → -1048576 ≤ ge s v ∧ ge s v ≤ 1048576) → -((k : Int) * 1048576) ≤ sumN (fun v => ge s v) k ∧ sumN (fun v => ge s v) k ≤ (k : Int) * 1048576
  | 0, _ => ⟨Int.le_refl _, Int.le_refl _⟩
  | k + 1, h => by
    have ih := sum_bd k (fun v hv => h v (by omega))
    have := h k (by omega)
    rw [sumN]
    omega

set_option maxHeartbeats 1000000 in
theorem within_p (x a b : Int) (w : World) : Calls Tryd.prog 73 #[.int .i64 x, .int .i64 a, .int .i64 b] w fun e w' => e = .returned (.bool (decide (a ≤ x ∧ x ≤ b))) ∧ w = w' := by
  go_enter Tryd.func73, Tryd.ntmps73
  go_wp2
  all_goals
    go_ret
    refine ⟨ret_bool ?_, rfl⟩
    rw [Bool.eq_iff_iff]
    simp
    try omega
theorem within_e {x a b : Int} {w : World} {c : Bool} (h : decide (a ≤ x ∧ x ≤ b) = c) : Calls Tryd.prog 73 #[.int .i64 x, .int .i64 a, .int .i64 b] w fun e w' => e = .returned (.bool c) ∧ w = w' := h ▸ within_p x a b w

set_option maxHeartbeats 8000000 in
theorem valid_p (p q : Option Addr) (n cp m cq : Nat) (s : List Int) (A : List Ark) (w : World) (hS : Ints w p s) (hA : Arks w q A) (hn : s.length = n) (hm : A.length = m) :
    Calls Tryd.prog 72 #[.agg #[.slice p n cp, .slice q m cq]] w fun e w' => e = .returned (.bool (nB s A)) ∧ Grew w w' := by
  subst hn hm
  have hsm := hS.1
  have ham := hA.1
  by_cases h256 : 256 < s.length
  · have Hf := Lib.hid (nB_not (s := s) (A := A) (fun h => by have := h.n; omega))
    go_enter Tryd.func72, Tryd.ntmps72
    go_wp2
    go_ret
    exact ⟨ret_bool Hf.out.symm, by (repeat (first | exact gR _ | refine gO ?_ _ | refine gA ?_ _ | refine gD ?_ | refine gN ?_ _))⟩
  by_cases h2048 : 2048 < A.length
  · have Hf := Lib.hid (nB_not (s := s) (A := A) (fun h => by have := h.m; omega))
    go_enter Tryd.func72, Tryd.ntmps72
    go_wp2
    go_ret
    exact ⟨ret_bool Hf.out.symm, by (repeat (first | exact gR _ | refine gO ?_ _ | refine gA ?_ _ | refine gD ?_ | refine gN ?_ _))⟩
  obtain ⟨b, o, h3, h4⟩ := hS.open
  have H4 := Lib.hid h4
  clear h4
  go_enter Tryd.func72, Tryd.ntmps72
  go_wp2
  go_loop [3, 5, 21] (fun v3 _ v21 => ∃ k : Nat, k ≤ s.length ∧ v21 = .int .i64 k ∧ v3 = .int .i64 (sumN (fun v => ge s v) k) ∧ ∀ v, v < k → -1048576 ≤ ge s v ∧ ge s v ≤ 1048576) (fun _ _ v21 => s.length - (intOf v21).toNat)
  case atStart => exact ⟨0, Nat.zero_le _, rfl, rfl, fun v hv => by omega⟩
  case round =>
    obtain ⟨k, hk, rfl, rfl, hall⟩ := hrel
    obtain ⟨sb1, sb2⟩ := sum_bd k hall
    have Hall := Lib.hid hall
    clear hall
    obtain ⟨S, hS0⟩ : ∃ S, sumN (fun v => ge s v) k = S := ⟨_, rfl⟩
    rw [hS0] at sb1 sb2 ⊢
    have HS0 := Lib.hid hS0
    clear hS0
    by_cases hlt : k < s.length
    · obtain ⟨rfl, hb⟩ := h3 (by omega)
      have d := H4.out k hlt
      have hsn : sumN (fun v => ge s v) (k + 1) = S + ge s k := by rw [sumN, HS0.out]
      have Hsn := Lib.hid hsn
      clear hsn
      obtain ⟨x, hx⟩ : ∃ x, ge s k = x := ⟨_, rfl⟩
      rw [hx] at d
      have Hx := Lib.hid hx
      clear hx
      by_cases hin : -1048576 ≤ x ∧ x ≤ 1048576
      · have Hin := Lib.hid (decide_eq_true hin)
        obtain ⟨i1, i2⟩ := hin
        go_wp2_with (go_at_call 73; apply Calls.mono; (with_reducible exact within_e Hin.out); rintro e w' ⟨rfl, rfl⟩)
        go_round
        case rel =>
          refine ⟨k + 1, by omega, by go_num, by rw [Hsn.out, Hx.out], fun v hv => ?_⟩
          by_cases e : v = k
          · rw [e, Hx.out]; exact ⟨i1, i2⟩
          · exact Hall.out v (by omega)
        case measure => simp [intOf]; omega
      · have Hin := Lib.hid (decide_eq_false hin)
        have Hf := Lib.hid (nB_not (s := s) (A := A) (fun h => hin (by rw [← Hx.out]; exact h.sb k hlt)))
        clear hin
        go_wp2_with (go_at_call 73; apply Calls.mono; (with_reducible exact within_e Hin.out); rintro e w' ⟨rfl, rfl⟩)
        go_ret
        exact ⟨ret_bool Hf.out.symm, by (repeat (first | exact gR _ | refine gO ?_ _ | refine gA ?_ _ | refine gD ?_ | refine gN ?_ _))⟩
    · have hke : k = s.length := by omega
      subst hke
      go_wp2
      have HA := Lib.hid hA
      have hnn : (s.length : Int) ≤ 256 := by omega
      clear hA
      go_loopw [35] (fun v35 wr => ∃ k : Nat, k ≤ A.length ∧ v35 = .int .i64 k ∧ (∀ i, i < k → arkOK s.length (aK A i)) ∧ Grew w wr ∧ w.heap.size < wr.heap.size ∧ wr.cell? ⟨w.heap.size, 0, none⟩ = some (.slice p s.length cp) ∧ wr.cell? ⟨w.heap.size, 1, none⟩ = some (.slice q A.length cq)) (fun v35 _ => A.length - (intOf v35).toNat)
      case atStart => exact ⟨0, Nat.zero_le _, rfl, fun i hi => by omega, by (repeat (first | exact gR _ | refine gO ?_ _ | refine gA ?_ _ | refine gD ?_ | refine gN ?_ _)), by simp, by simp [go_sem], by simp [go_sem]⟩
      case round =>
        obtain ⟨k, hk, rfl, hall2, hg, hsb, x0, x1⟩ := hrel
        have Hall2 := Lib.hid hall2
        have Hg := Lib.hid hg
        clear hall2 hg
        have hsz := Hg.out.below.size
        by_cases hlt2 : k < A.length
        · obtain ⟨b2, o2, rfl, hb2, c0, c1, c2, c3⟩ := (HA.out.grew Hg.out).open hlt2
          obtain ⟨⟨r1, r2⟩, ⟨r3, r4⟩, ⟨r5, r6⟩, r7, r8⟩ := HA.out.rng hlt2
          obtain ⟨fr, hfr⟩ : ∃ x, (aK A k).fr = x := ⟨_, rfl⟩
          obtain ⟨te, hto⟩ : ∃ x, (aK A k).ed = x := ⟨_, rfl⟩
          obtain ⟨cp', hcp⟩ : ∃ x, (aK A k).cap = x := ⟨_, rfl⟩
          obtain ⟨co, hco⟩ : ∃ x, (aK A k).cost = x := ⟨_, rfl⟩
          rw [hfr] at c0 r1 r2
          rw [hto] at c1 r3 r4
          rw [hcp] at c2 r5 r6
          rw [hco] at c3 r7 r8
          have Hok : Hid (arkOK s.length (aK A k) ↔ (0 ≤ fr ∧ fr ≤ (s.length : Int) - 1) ∧ (0 ≤ te ∧ te ≤ (s.length : Int) - 1) ∧ (0 ≤ cp' ∧ cp' ≤ 1048576) ∧ (-1000 ≤ co ∧ co ≤ 1000)) := Lib.hid (by
            unfold arkOK
            rw [hfr, hto, hcp, hco]
            constructor
            · rintro ⟨⟨a1, a2⟩, ⟨a3, a4⟩, a5, a6⟩; exact ⟨⟨a1, by omega⟩, ⟨a3, by omega⟩, a5, a6⟩
            · rintro ⟨⟨a1, a2⟩, ⟨a3, a4⟩, a5, a6⟩; exact ⟨⟨a1, by omega⟩, ⟨a3, by omega⟩, a5, a6⟩)
          have Hno : Hid (¬ arkOK s.length (aK A k) → nB s A = false) := Lib.hid (fun h => nB_not (fun hv => h (hv.a k hlt2)))
          clear hfr hto hcp hco
          by_cases e1 : 0 ≤ fr ∧ fr ≤ (s.length : Int) - 1
          case neg =>
            have E1 := Lib.hid (decide_eq_false e1)
            have Hf := Lib.hid (Hno.out (fun h => e1 (Hok.out.1 h).1))
            clear e1
            go_wp2_with (go_at_call 73; apply Calls.mono; (with_reducible exact within_e E1.out); rintro e w' ⟨rfl, rfl⟩)
            go_ret
            exact ⟨ret_bool Hf.out.symm, Hg.out.trans (by (repeat (first | exact gR _ | refine gO ?_ _ | refine gA ?_ _ | refine gD ?_ | refine gN ?_ _)))⟩
          by_cases e2 : 0 ≤ te ∧ te ≤ (s.length : Int) - 1
          case neg =>
            have E1 := Lib.hid (decide_eq_true e1)
            have E2 := Lib.hid (decide_eq_false e2)
            have Hf := Lib.hid (Hno.out (fun h => e2 (Hok.out.1 h).2.1))
            clear e1 e2
            go_wp2_with (first | (go_at_call 73; apply Calls.mono; (with_reducible exact within_e E1.out); rintro e w' ⟨rfl, rfl⟩) | (go_at_call 73; apply Calls.mono; (with_reducible exact within_e E2.out); rintro e w' ⟨rfl, rfl⟩))
            go_ret
            exact ⟨ret_bool Hf.out.symm, Hg.out.trans (by (repeat (first | exact gR _ | refine gO ?_ _ | refine gA ?_ _ | refine gD ?_ | refine gN ?_ _)))⟩
          by_cases e3 : 0 ≤ cp' ∧ cp' ≤ 1048576
          case neg =>
            have E1 := Lib.hid (decide_eq_true e1)
            have E2 := Lib.hid (decide_eq_true e2)
            have E3 := Lib.hid (decide_eq_false e3)
            have Hf := Lib.hid (Hno.out (fun h => e3 (Hok.out.1 h).2.2.1))
            clear e1 e2 e3
            go_wp2_with (first | (go_at_call 73; apply Calls.mono; (with_reducible exact within_e E1.out); rintro e w' ⟨rfl, rfl⟩) | (go_at_call 73; apply Calls.mono; (with_reducible exact within_e E2.out); rintro e w' ⟨rfl, rfl⟩) | (go_at_call 73; apply Calls.mono; (with_reducible exact within_e E3.out); rintro e w' ⟨rfl, rfl⟩))
            go_ret
            exact ⟨ret_bool Hf.out.symm, Hg.out.trans (by (repeat (first | exact gR _ | refine gO ?_ _ | refine gA ?_ _ | refine gD ?_ | refine gN ?_ _)))⟩
          by_cases e4 : -1000 ≤ co ∧ co ≤ 1000
          case neg =>
            have E1 := Lib.hid (decide_eq_true e1)
            have E2 := Lib.hid (decide_eq_true e2)
            have E3 := Lib.hid (decide_eq_true e3)
            have E4 := Lib.hid (decide_eq_false e4)
            have Hf := Lib.hid (Hno.out (fun h => e4 (Hok.out.1 h).2.2.2))
            clear e1 e2 e3 e4
            go_wp2_with (first | (go_at_call 73; apply Calls.mono; (with_reducible exact within_e E1.out); rintro e w' ⟨rfl, rfl⟩) | (go_at_call 73; apply Calls.mono; (with_reducible exact within_e E2.out); rintro e w' ⟨rfl, rfl⟩) | (go_at_call 73; apply Calls.mono; (with_reducible exact within_e E3.out); rintro e w' ⟨rfl, rfl⟩) | (go_at_call 73; apply Calls.mono; (with_reducible exact within_e E4.out); rintro e w' ⟨rfl, rfl⟩))
            go_ret
            exact ⟨ret_bool Hf.out.symm, Hg.out.trans (by (repeat (first | exact gR _ | refine gO ?_ _ | refine gA ?_ _ | refine gD ?_ | refine gN ?_ _)))⟩
          have E1 := Lib.hid (decide_eq_true e1)
          have E2 := Lib.hid (decide_eq_true e2)
          have E3 := Lib.hid (decide_eq_true e3)
          have E4 := Lib.hid (decide_eq_true e4)
          have Hk := Lib.hid (Hok.out.2 ⟨e1, e2, e3, e4⟩)
          clear e1 e2 e3 e4
          go_wp2_with (first | (go_at_call 73; apply Calls.mono; (with_reducible exact within_e E1.out); rintro e w' ⟨rfl, rfl⟩) | (go_at_call 73; apply Calls.mono; (with_reducible exact within_e E2.out); rintro e w' ⟨rfl, rfl⟩) | (go_at_call 73; apply Calls.mono; (with_reducible exact within_e E3.out); rintro e w' ⟨rfl, rfl⟩) | (go_at_call 73; apply Calls.mono; (with_reducible exact within_e E4.out); rintro e w' ⟨rfl, rfl⟩))
          go_roundw
          case rel =>
            refine ⟨k + 1, by omega, by go_num, fun i hi => ?_, Hg.out.trans (by (repeat (first | exact gR _ | refine gO ?_ _ | refine gA ?_ _ | refine gD ?_ | refine gN ?_ _))), by simp; omega, Grew.cellEq (by (repeat (first | exact gR _ | refine gO ?_ _ | refine gA ?_ _ | refine gD ?_ | refine gN ?_ _))) x0, Grew.cellEq (by (repeat (first | exact gR _ | refine gO ?_ _ | refine gA ?_ _ | refine gD ?_ | refine gN ?_ _))) x1⟩
            by_cases e : i = k
            · rw [e]; exact Hk.out
            · exact Hall2.out i (by omega)
          case measure => simp [intOf]; omega
        · have hke : k = A.length := by omega
          have Hrest : Hid (nB s A = decide (S = 0)) := Lib.hid (by
            unfold nB
            refine decide_eq_decide.2 ⟨fun h => by rw [← HS0.out]; exact h.z, fun h => vN_iff.2 ⟨by omega, by omega, Hall.out, fun i hi => Hall2.out i (by omega), by rw [HS0.out]; exact h⟩⟩)
          clear hke
          go_wp2
          go_ret
          refine ⟨ret_bool ?_, Hg.out⟩
          rw [Hrest.out, Bool.eq_iff_iff]
          simp
end Go.Proofs.YtiihgpgpbgafiaaDoor.Fl

/- Valid of the reference; fits of the program. -/
set_option linter.unusedSimpArgs false
set_option linter.unusedVariables false
namespace Go.Proofs.YtiihgpgpbgafiaaDoor.Fl
open Go.RowKit
attribute [local go_sem ↓] Go.wp_at_zero Go.wp_at_succ

set_option maxHeartbeats 2000000 in
theorem arc_r (fr te ca co : Int) (n : Nat) (w : World) (hn : n ≤ 9223372036854775807) :
    Calls Tryd.prog 79 #[.agg #[.int .i64 fr, .int .i64 te, .int .i64 ca, .int .i64 co], .int .i64 n] w fun e w' => e = .returned (.bool (decide (arkOK n ⟨fr, te, ca, co⟩))) ∧ Grew w w' := by
  have Hok : Hid (arkOK n ⟨fr, te, ca, co⟩ ↔ 0 ≤ fr ∧ fr < n ∧ 0 ≤ te ∧ te < n ∧ 0 ≤ ca ∧ ca ≤ 1048576 ∧ -1000 ≤ co ∧ co ≤ 1000) := Lib.hid (by
    unfold arkOK
    constructor
    · rintro ⟨⟨a1, a2⟩, ⟨a3, a4⟩, ⟨a5, a6⟩, a7, a8⟩; exact ⟨a1, a2, a3, a4, a5, a6, a7, a8⟩
    · rintro ⟨a1, a2, a3, a4, a5, a6, a7, a8⟩; exact ⟨⟨a1, a2⟩, ⟨a3, a4⟩, ⟨a5, a6⟩, a7, a8⟩)
  go_enter Tryd.func79, Tryd.ntmps79
  by_cases e1 : 0 ≤ fr
  case neg => go_wp2; go_ret; exact ⟨ret_bool (decide_eq_false (fun h => by have := Hok.out.1 h; omega)).symm, by (repeat (first | exact gR _ | refine gO ?_ _ | refine gA ?_ _ | refine gD ?_ | refine gN ?_ _))⟩
  by_cases e2 : fr < (n : Int)
  case neg => go_wp2; go_ret; exact ⟨ret_bool (decide_eq_false (fun h => by have := Hok.out.1 h; omega)).symm, by (repeat (first | exact gR _ | refine gO ?_ _ | refine gA ?_ _ | refine gD ?_ | refine gN ?_ _))⟩
  by_cases e3 : 0 ≤ te
  case neg => go_wp2; go_ret; exact ⟨ret_bool (decide_eq_false (fun h => by have := Hok.out.1 h; omega)).symm, by (repeat (first | exact gR _ | refine gO ?_ _ | refine gA ?_ _ | refine gD ?_ | refine gN ?_ _))⟩
  by_cases e4 : te < (n : Int)
  case neg => go_wp2; go_ret; exact ⟨ret_bool (decide_eq_false (fun h => by have := Hok.out.1 h; omega)).symm, by (repeat (first | exact gR _ | refine gO ?_ _ | refine gA ?_ _ | refine gD ?_ | refine gN ?_ _))⟩
  by_cases e5 : 0 ≤ ca
  case neg => go_wp2; go_ret; exact ⟨ret_bool (decide_eq_false (fun h => by have := Hok.out.1 h; omega)).symm, by (repeat (first | exact gR _ | refine gO ?_ _ | refine gA ?_ _ | refine gD ?_ | refine gN ?_ _))⟩
  by_cases e6 : ca ≤ 1048576
  case neg => go_wp2; go_ret; exact ⟨ret_bool (decide_eq_false (fun h => by have := Hok.out.1 h; omega)).symm, by (repeat (first | exact gR _ | refine gO ?_ _ | refine gA ?_ _ | refine gD ?_ | refine gN ?_ _))⟩
  by_cases e7 : -1000 ≤ co
  case neg => go_wp2; go_ret; exact ⟨ret_bool (decide_eq_false (fun h => by have := Hok.out.1 h; omega)).symm, by (repeat (first | exact gR _ | refine gO ?_ _ | refine gA ?_ _ | refine gD ?_ | refine gN ?_ _))⟩
  by_cases e8 : co ≤ 1000
  case neg => go_wp2; go_ret; exact ⟨ret_bool (decide_eq_false (fun h => by have := Hok.out.1 h; omega)).symm, by (repeat (first | exact gR _ | refine gO ?_ _ | refine gA ?_ _ | refine gD ?_ | refine gN ?_ _))⟩
  go_wp2
  go_ret
  exact ⟨ret_bool (decide_eq_true (Hok.out.2 ⟨e1, e2, e3, e4, e5, e6, e7, e8⟩)).symm, by (repeat (first | exact gR _ | refine gO ?_ _ | refine gA ?_ _ | refine gD ?_ | refine gN ?_ _))⟩
theorem arc_e {fr te ca co : Int} {n : Nat} {w : World} {c : Bool} (h : decide (arkOK n ⟨fr, te, ca, co⟩) = c) (hn : n ≤ 9223372036854775807) :
    Calls Tryd.prog 79 #[.agg #[.int .i64 fr, .int .i64 te, .int .i64 ca, .int .i64 co], .int .i64 n] w fun e w' => e = .returned (.bool c) ∧ Grew w w' := h ▸ arc_r fr te ca co n w hn

set_option maxHeartbeats 8000000 in
theorem valid_r (p q : Option Addr) (n cp m cq : Nat) (s : List Int) (A : List Ark) (w : World) (hS : Ints w p s) (hA : Arks w q A) (hn : s.length = n) (hm : A.length = m) :
    Calls Tryd.prog 64 #[.agg #[.slice p n cp, .slice q m cq]] w fun e w' => e = .returned (.bool (nB s A)) ∧ Grew w w' := by
  subst hn hm
  have hsm := hS.1
  have ham := hA.1
  by_cases h256 : 256 < s.length
  · have Hf := Lib.hid (nB_not (s := s) (A := A) (fun h => by have := h.n; omega))
    go_enter Tryd.func64, Tryd.ntmps64
    go_wp2
    go_ret
    exact ⟨ret_bool Hf.out.symm, by (repeat (first | exact gR _ | refine gO ?_ _ | refine gA ?_ _ | refine gD ?_ | refine gN ?_ _))⟩
  by_cases h2048 : 2048 < A.length
  · have Hf := Lib.hid (nB_not (s := s) (A := A) (fun h => by have := h.m; omega))
    go_enter Tryd.func64, Tryd.ntmps64
    go_wp2
    go_ret
    exact ⟨ret_bool Hf.out.symm, by (repeat (first | exact gR _ | refine gO ?_ _ | refine gA ?_ _ | refine gD ?_ | refine gN ?_ _))⟩
  obtain ⟨b, o, h3, h4⟩ := hS.open
  have H4 := Lib.hid h4
  clear h4
  go_enter Tryd.func64, Tryd.ntmps64
  go_wp2
  go_loop [3, 4] (fun v3 v4 => ∃ k : Nat, k ≤ s.length ∧ v4 = .int .i64 k ∧ v3 = .int .i64 (sumN (fun v => ge s v) k) ∧ ∀ v, v < k → -1048576 ≤ ge s v ∧ ge s v ≤ 1048576) (fun _ v4 => s.length - (intOf v4).toNat)
  case atStart => exact ⟨0, Nat.zero_le _, rfl, rfl, fun v hv => by omega⟩
  case round =>
    obtain ⟨k, hk, rfl, rfl, hall⟩ := hrel
    obtain ⟨sb1, sb2⟩ := sum_bd k hall
    have Hall := Lib.hid hall
    clear hall
    obtain ⟨S, hS0⟩ : ∃ S, sumN (fun v => ge s v) k = S := ⟨_, rfl⟩
    rw [hS0] at sb1 sb2 ⊢
    have HS0 := Lib.hid hS0
    clear hS0
    by_cases hlt : k < s.length
    · obtain ⟨rfl, hb⟩ := h3 (by omega)
      have d := Grew.cellEq (W := w.alloc (.cells #[.slice (some ⟨b, o, none⟩) s.length cp, .slice q A.length cq] 31)) (by (repeat (first | exact gR _ | refine gO ?_ _ | refine gA ?_ _ | refine gD ?_ | refine gN ?_ _))) (H4.out k hlt)
      have d' := H4.out k hlt
      have hsn : sumN (fun v => ge s v) (k + 1) = S + ge s k := by rw [sumN, HS0.out]
      have Hsn := Lib.hid hsn
      clear hsn d
      obtain ⟨x, hx⟩ : ∃ x, ge s k = x := ⟨_, rfl⟩
      rw [hx] at d'
      have Hx := Lib.hid hx
      clear hx
      by_cases hlo : x < -1048576
      · have Hf := Lib.hid (nB_not (s := s) (A := A) (fun h => by have := h.sb k hlt; rw [Hx.out] at this; omega))
        go_wp2
        go_ret
        exact ⟨ret_bool Hf.out.symm, by (repeat (first | exact gR _ | refine gO ?_ _ | refine gA ?_ _ | refine gD ?_ | refine gN ?_ _))⟩
      · by_cases hhi : 1048576 < x
        · have Hf := Lib.hid (nB_not (s := s) (A := A) (fun h => by have := h.sb k hlt; rw [Hx.out] at this; omega))
          go_wp2
          go_ret
          exact ⟨ret_bool Hf.out.symm, by (repeat (first | exact gR _ | refine gO ?_ _ | refine gA ?_ _ | refine gD ?_ | refine gN ?_ _))⟩
        · go_wp2
          go_round
          case rel =>
            refine ⟨k + 1, by omega, by go_num, by rw [Hsn.out, Hx.out], fun v hv => ?_⟩
            by_cases e : v = k
            · rw [e, Hx.out]; omega
            · exact Hall.out v (by omega)
          case measure => simp [intOf]; omega
    · have hke : k = s.length := by omega
      subst hke
      have HA := Lib.hid hA
      have hnn : (s.length : Int) ≤ 256 := by omega
      clear hA
      go_wp2
      go_loopw [5] (fun v5 wr => ∃ k : Nat, k ≤ A.length ∧ v5 = .int .i64 k ∧ (∀ i, i < k → arkOK s.length (aK A i)) ∧ Grew w wr ∧ w.heap.size < wr.heap.size ∧ wr.cell? ⟨w.heap.size, 0, none⟩ = some (.slice p s.length cp) ∧ wr.cell? ⟨w.heap.size, 1, none⟩ = some (.slice q A.length cq)) (fun v5 _ => A.length - (intOf v5).toNat)
      case atStart => exact ⟨0, Nat.zero_le _, rfl, fun i hi => by omega, by (repeat (first | exact gR _ | refine gO ?_ _ | refine gA ?_ _ | refine gD ?_ | refine gN ?_ _)), by simp, by simp [go_sem], by simp [go_sem]⟩
      case round =>
        obtain ⟨k, hk, rfl, hall2, hg, hsb, x0, x1⟩ := hrel
        have Hall2 := Lib.hid hall2
        have Hg := Lib.hid hg
        clear hall2 hg
        have hsz := Hg.out.below.size
        by_cases hlt2 : k < A.length
        · obtain ⟨b2, o2, rfl, hb2, c0, c1, c2, c3⟩ := (HA.out.grew Hg.out).open hlt2
          obtain ⟨⟨fr, te, ca, co⟩, hak⟩ : ∃ x, aK A k = x := ⟨_, rfl⟩
          rw [hak] at c0 c1 c2 c3
          simp only at c0 c1 c2 c3
          have Hak := Lib.hid hak
          clear hak
          by_cases hok : arkOK s.length ⟨fr, te, ca, co⟩
          · have Hok := Lib.hid (decide_eq_true hok)
            have Hk := Lib.hid hok
            clear hok
            go_wp2
            refine wp_region_over (by kernel_rfl) (by kernel_rfl) ?_; (repeat (go_big_quiet_step ((go_at_call 79; apply over_call; with_reducible exact arc_e Hok.out hsm)))); refine wpQuiet_nil ?_; rintro _ ⟨x, rfl⟩
            go_wp2
            go_roundw
            case rel =>
              refine ⟨k + 1, by omega, by go_num, fun i hi => ?_, Hg.out.trans (by (repeat (first | exact gR _ | refine gO ?_ _ | refine gA ?_ _ | refine gD ?_ | refine gN ?_ _))), Nat.lt_of_lt_of_le hsb (Grew.below (by (repeat (first | exact gR _ | refine gO ?_ _ | refine gA ?_ _ | refine gD ?_ | refine gN ?_ _)))).size, Grew.cellEq (by (repeat (first | exact gR _ | refine gO ?_ _ | refine gA ?_ _ | refine gD ?_ | refine gN ?_ _))) x0, Grew.cellEq (by (repeat (first | exact gR _ | refine gO ?_ _ | refine gA ?_ _ | refine gD ?_ | refine gN ?_ _))) x1⟩
              by_cases e : i = k
              · rw [e, Hak.out]; exact Hk.out
              · exact Hall2.out i (by omega)
            case measure => simp [intOf]; omega
          · have Hok := Lib.hid (decide_eq_false hok)
            have Hf := Lib.hid (nB_not (s := s) (A := A) (fun hv => hok (by have := hv.a k hlt2; rw [← Hak.out]; exact this)))
            clear hok
            go_wp2
            refine wp_region_over (by kernel_rfl) (by kernel_rfl) ?_; (repeat (go_big_quiet_step ((go_at_call 79; apply over_call; with_reducible exact arc_e Hok.out hsm)))); refine wpQuiet_nil ?_; rintro _ ⟨x, rfl⟩
            go_wp2
            go_ret
            exact ⟨ret_bool Hf.out.symm, Hg.out.trans (by (repeat (first | exact gR _ | refine gO ?_ _ | refine gA ?_ _ | refine gD ?_ | refine gN ?_ _)))⟩
        · have hke : k = A.length := by omega
          have Hrest : Hid (nB s A = decide (S = 0)) := Lib.hid (by
            unfold nB
            refine decide_eq_decide.2 ⟨fun h => by rw [← HS0.out]; exact h.z, fun h => vN_iff.2 ⟨by omega, by omega, Hall.out, fun i hi => Hall2.out i (by omega), by rw [HS0.out]; exact h⟩⟩)
          clear hke
          go_wp2
          go_ret
          refine ⟨ret_bool ?_, Hg.out⟩
          rw [Hrest.out, Bool.eq_iff_iff]
          simp
instance (A : List Ark) (f : List Int) : Decidable (Fit A f) := decidable_of_iff (f.length = A.length ∧ ∀ i, i < A.length → 0 ≤ ge f i ∧ ge f i ≤ cap A i) ⟨fun h => ⟨h.1, h.2⟩, fun h => ⟨h.l, h.b⟩⟩
def fitsS (s : List Int) (A : List Ark) (f : List Int) : Int := if nB s A = false then 1 else if Fit A f then 0 else 3
theorem fitsS_bad {s : List Int} {A : List Ark} {f : List Int} (h : nB s A = false) : fitsS s A f = 1 := if_pos h
theorem fitsS_ok {s : List Int} {A : List Ark} {f : List Int} (h : nB s A = true) (hf : Fit A f) : fitsS s A f = 0 := by unfold fitsS; rw [if_neg (by simp [h]), if_pos hf]
theorem fitsS_no {s : List Int} {A : List Ark} {f : List Int} (h : nB s A = true) (hf : ¬ Fit A f) : fitsS s A f = 3 := by unfold fitsS; rw [if_neg (by simp [h]), if_neg hf]
theorem validp_e {p q : Option Addr} {n cp m cq : Nat} {s : List Int} {A : List Ark} {w : World} {b : Bool} (h : nB s A = b) (hS : Ints w p s) (hA : Arks w q A) (hn : s.length = n) (hm : A.length = m) :
    Calls Tryd.prog 72 #[.agg #[.slice p n cp, .slice q m cq]] w fun e w' => e = .returned (.bool b) ∧ Grew w w' := h ▸ valid_p p q n cp m cq s A w hS hA hn hm
set_option maxHeartbeats 4000000 in
theorem fits_p (p q r : Option Addr) (n cp m cq k cr : Nat) (s : List Int) (A : List Ark) (f : List Int) (w : World) (hS : Ints w p s) (hA : Arks w q A) (hF : Ints w r f) (hn : s.length = n) (hm : A.length = m) (hk : f.length = k) :
    Calls Tryd.prog 56 #[.agg #[.slice p n cp, .slice q m cq], .slice r k cr] w fun e w' => e = .returned (.int .i64 (fitsS s A f)) ∧ Grew w w' := by
  subst hn hm hk
  have hsm := hS.1
  have ham := hA.1
  have hfm := hF.1
  cases hv : nB s A
  case false =>
    have Hv := Lib.hid hv
    have Hf := Lib.hid (fitsS_bad (f := f) hv)
    clear hv
    go_enter Tryd.func56, Tryd.ntmps56
    go_wp2_with (go_at_call 72; apply Calls.mono; (with_reducible exact validp_e Hv.out (hS.grew (by (repeat (first | exact gR _ | refine gO ?_ _ | refine gA ?_ _ | refine gD ?_ | refine gN ?_ _)))) (hA.grew (by (repeat (first | exact gR _ | refine gO ?_ _ | refine gA ?_ _ | refine gD ?_ | refine gN ?_ _)))) rfl rfl); rintro e w' ⟨rfl, x, rfl⟩)
    go_ret
    exact ⟨ret_int Hf.out.symm, by (repeat (first | exact gR _ | refine gO ?_ _ | refine gA ?_ _ | refine gD ?_ | refine gN ?_ _))⟩
  case true =>
  have Hv := Lib.hid hv
  clear hv
  by_cases hl : f.length = A.length
  case neg =>
    have hl' : ((f.length : Int) != (A.length : Int)) = true := by rw [bne_iff_ne]; omega
    have Hf := Lib.hid (fitsS_no (f := f) Hv.out (fun h => hl h.l))
    clear hl
    go_enter Tryd.func56, Tryd.ntmps56
    go_wp2_with (go_at_call 72; apply Calls.mono; (with_reducible exact validp_e Hv.out (hS.grew (by (repeat (first | exact gR _ | refine gO ?_ _ | refine gA ?_ _ | refine gD ?_ | refine gN ?_ _)))) (hA.grew (by (repeat (first | exact gR _ | refine gO ?_ _ | refine gA ?_ _ | refine gD ?_ | refine gN ?_ _)))) rfl rfl); rintro e w' ⟨rfl, x, rfl⟩)
    go_ret
    exact ⟨ret_int Hf.out.symm, by (repeat (first | exact gR _ | refine gO ?_ _ | refine gA ?_ _ | refine gD ?_ | refine gN ?_ _))⟩
  have hl' : ((f.length : Int) != (A.length : Int)) = false := by rw [hl]; simp
  have Hl := Lib.hid hl
  obtain ⟨b, o, h3, h4⟩ := hF.open
  have H4 := Lib.hid h4
  have HA := Lib.hid hA
  clear h4 hl
  go_enter Tryd.func56, Tryd.ntmps56
  go_wp2_with (go_at_call 72; apply Calls.mono; (with_reducible exact validp_e Hv.out (hS.grew (by (repeat (first | exact gR _ | refine gO ?_ _ | refine gA ?_ _ | refine gD ?_ | refine gN ?_ _)))) (HA.out.grew (by (repeat (first | exact gR _ | refine gO ?_ _ | refine gA ?_ _ | refine gD ?_ | refine gN ?_ _)))) rfl rfl); rintro e w' ⟨rfl, x, rfl⟩)
  clear hl'
  go_loopw [18] (fun v18 wr => ∃ j : Nat, j ≤ f.length ∧ v18 = .int .i64 j ∧ (∀ i, i < j → 0 ≤ ge f i ∧ ge f i ≤ cap A i) ∧ Grew w wr ∧ wr.cell? ⟨w.heap.size, 0, none⟩ = some (.slice p s.length cp) ∧ wr.cell? ⟨w.heap.size, 1, none⟩ = some (.slice q A.length cq)) (fun v18 _ => f.length - (intOf v18).toNat)
  case atStart => exact ⟨0, Nat.zero_le _, rfl, fun i hi => by omega, by (repeat (first | exact gR _ | refine gO ?_ _ | refine gA ?_ _ | refine gD ?_ | refine gN ?_ _)), by simp [go_sem], by simp [go_sem]⟩
  case round =>
    obtain ⟨j, hj, rfl, hall, hg, x0, x1⟩ := hrel
    have Hall := Lib.hid hall
    have Hg := Lib.hid hg
    clear hall hg
    have hsz := Hg.out.below.size
    by_cases hlt : j < f.length
    · obtain ⟨rfl, hb⟩ := h3 (by omega)
      have d := Hg.out.cellEq (H4.out j hlt)
      have hja : j < A.length := by have := Hl.out; omega
      obtain ⟨b2, o2, rfl, hb2, _, _, c2, _⟩ := (HA.out.grew Hg.out).open hja
      obtain ⟨y, hy⟩ : ∃ y, (aK A j).cap = y := ⟨_, rfl⟩
      obtain ⟨x, hx⟩ : ∃ x, ge f j = x := ⟨_, rfl⟩
      rw [hy] at c2
      rw [hx] at d
      have Hc : Hid (cap A j = y) := Lib.hid hy
      have Hx := Lib.hid hx
      clear hy hx
      by_cases hin : 0 ≤ x ∧ x ≤ y
      · have Hin := Lib.hid (decide_eq_true hin)
        have Hin2 := Lib.hid hin
        clear hin
        go_wp2_with (go_at_call 73; apply Calls.mono; (with_reducible exact within_e Hin.out); rintro e w' ⟨rfl, rfl⟩)
        go_roundw
        case rel =>
          refine ⟨j + 1, by omega, by go_num, fun i hi => ?_, Hg.out, x0, x1⟩
          by_cases e : i = j
          · rw [e, Hx.out, Hc.out]; exact Hin2.out
          · exact Hall.out i (by omega)
        case measure => simp [intOf]; omega
      · have Hin := Lib.hid (decide_eq_false hin)
        have Hf := Lib.hid (fitsS_no (f := f) Hv.out (fun h => hin (by have := h.b j hja; rw [Hx.out, Hc.out] at this; exact this)))
        clear hin
        go_wp2_with (go_at_call 73; apply Calls.mono; (with_reducible exact within_e Hin.out); rintro e w' ⟨rfl, rfl⟩)
        go_ret
        exact ⟨ret_int Hf.out.symm, Hg.out⟩
    · have Hf := Lib.hid (fitsS_ok Hv.out (f := f) ⟨Hl.out, fun i hi => Hall.out i (by have := Hl.out; omega)⟩)
      go_wp2
      go_ret
      exact ⟨ret_int Hf.out.symm, Hg.out⟩
end Go.Proofs.YtiihgpgpbgafiaaDoor.Fl

/- Rows of ints in memory of the call's own. -/
set_option linter.unusedSimpArgs false
set_option linter.unusedVariables false
namespace Go.Proofs.YtiihgpgpbgafiaaDoor.Fl
open Go.RowKit

theorem Tryd.infoInt : (Tryd.prog.info? 3).map (fun i => (i.zero, i.size, i.bytes)) = some (some (.int .i64 0), 1, 8) := by kernel_rfl
def intVs (xs : List Int) : List Value := xs.map (Value.int .i64)
def natVs (xs : List Nat) : List Value := xs.map fun x : Nat => Value.int .i64 (x : Int)
theorem intVs_length (xs : List Int) : (intVs xs).length = xs.length := by simp [intVs]
theorem intVs_get (xs : List Int) {i : Nat} (h : i < xs.length) : (intVs xs)[i]? = some (.int .i64 (ge xs i)) := by
  unfold intVs
  rw [List.getElem?_map, List.getElem?_eq_getElem h, ge_eq xs h]
  rfl
theorem natVs_get (xs : List Nat) {i : Nat} (h : i < xs.length) : (natVs xs)[i]? = some (.int .i64 (gn xs i : Int)) := by
  unfold natVs
  rw [List.getElem?_map, List.getElem?_eq_getElem h, gn_eq xs h]
  rfl
abbrev rI (g n : Nat) (xs : List Int) : Row := ⟨.slice (some ⟨g, 0, none⟩) n n, 3, 1, n, intVs xs⟩
abbrev rN (g n : Nat) (xs : List Nat) : Row := ⟨.slice (some ⟨g, 0, none⟩) n n, 3, 1, n, natVs xs⟩
theorem own_blk {w : World} {B : Nat} {rs : List Row} (h : Owns w B rs) {j g n c : Nat} {e : TypeId} {vs : List Value} (hk : rs[j]? = some ⟨.slice (some ⟨g, 0, none⟩) n c, e, 1, n, vs⟩) :
    vs.length = n ∧ B ≤ g ∧ g < w.heap.size ∧ (∀ i, w.frozen? ⟨g, i, none⟩ = false) ∧ ∀ i u, vs[i]? = some u → w.cell? ⟨g, i, none⟩ = some u := by
  obtain ⟨h1, h2⟩ := h.get hk
  rcases h2 with ⟨h2, _⟩ | ⟨g', cap, hv, h3, h4, _, _, h5, h6⟩
  · cases h2
  · have hg : g' = g := by
      simp only [Value.slice.injEq, Option.some.injEq, Addr.mk.injEq] at hv
      exact hv.1.1.symm
    subst hg
    exact ⟨by rw [h1]; simp, h3, h4, h5, h6⟩
theorem own_lt {w : World} {B : Nat} {rs : List Row} (h : Owns w B rs) {j g n c : Nat} {e : TypeId} {vs : List Value} (hk : rs[j]? = some ⟨.slice (some ⟨g, 0, none⟩) n c, e, 1, n, vs⟩) : g < w.heap.size := (own_blk h hk).2.2.1
theorem own_fr {w : World} {B : Nat} {rs : List Row} (h : Owns w B rs) {j g n c : Nat} {e : TypeId} {vs : List Value} (hk : rs[j]? = some ⟨.slice (some ⟨g, 0, none⟩) n c, e, 1, n, vs⟩) (i : Nat) : w.frozen? ⟨g, i, none⟩ = false := (own_blk h hk).2.2.2.1 i
theorem own_atI {w : World} {B : Nat} {rs : List Row} (h : Owns w B rs) {j g n : Nat} {xs : List Int} (hk : rs[j]? = some (rI g n xs)) {i : Nat} (hi : i < n) : w.cell? ⟨g, i, none⟩ = some (.int .i64 (ge xs i)) := by
  obtain ⟨h1, _, _, _, h2⟩ := own_blk h hk
  rw [intVs_length] at h1
  exact h2 i _ (intVs_get xs (by omega))
theorem own_atN {w : World} {B : Nat} {rs : List Row} (h : Owns w B rs) {j g n : Nat} {xs : List Nat} (hk : rs[j]? = some (rN g n xs)) {i : Nat} (hi : i < n) : w.cell? ⟨g, i, none⟩ = some (.int .i64 (gn xs i : Int)) := by
  obtain ⟨h1, _, _, _, h2⟩ := own_blk h hk
  have : (natVs xs).length = xs.length := by simp [natVs]
  exact h2 i _ (natVs_get xs (by omega))
theorem own_setI {w : World} {B : Nat} {rs : List Row} (h : Owns w B rs) {j g n : Nat} {xs : List Int} (hk : rs[j]? = some (rI g n xs)) (i : Nat) (x : Int) : Owns (w.setCell ⟨g, i, none⟩ (.int .i64 x)) B (rs.set j (rI g n (xs.set i x))) := by
  have := h.set hk i (.int .i64 x)
  have e : (intVs xs).set i (.int .i64 x) = intVs (xs.set i x) := by unfold intVs; rw [List.map_set]
  rwa [e] at this
theorem own_setN {w : World} {B : Nat} {rs : List Row} (h : Owns w B rs) {j g n : Nat} {xs : List Nat} (hk : rs[j]? = some (rN g n xs)) (i : Nat) (x : Nat) : Owns (w.setCell ⟨g, i, none⟩ (.int .i64 (x : Int))) B (rs.set j (rN g n (xs.set i x))) := by
  have := h.set hk i (.int .i64 (x : Int))
  have e : (natVs xs).set i (.int .i64 (x : Int)) = natVs (xs.set i x) := by unfold natVs; rw [List.map_set]
  rwa [e] at this
theorem ones_rep (z : Value) (n : Nat) : madeCells #[z] n = Array.replicate n z := by
  rw [← Array.toArray_toList (xs := madeCells #[z] n), toList_madeCells_one]
  simp
theorem make_ints (n : Nat) (hn : n ≤ 100000) (W : World) : (Instr.makeSlice 28 (.int .i64 n) (.int .i64 n)).run Tryd.prog W = .ok (.slice (some ⟨W.heap.size, 0, none⟩) n n) (W.alloc (.cells (Array.replicate n (.int .i64 0)) 3)) := by
  obtain ⟨i0, hi, hz0, hz1, hz2⟩ := info_parts Tryd.infoInt
  have h := run_make (P := Tryd.prog) W 28 3 i0 (.int .i64 0) Tryd.underlying28 hi hz0 .i64 .i64 (n : Int) (n : Int) (by omega) (by omega) (by rw [hz2]; omega) (by omega)
  rw [hz1, show (Value.int .i64 0).cells = #[.int .i64 0] from rfl, Int.toNat_natCast, Nat.mul_one, ones_rep] at h
  exact h
theorem own_newI {w : World} {B : Nat} {rs : List Row} (h : Owns w B rs) (hB : B ≤ w.heap.size) (n g : Nat) (hn : n ≤ 100000) (hg : g = w.heap.size) :
    Owns (w.alloc (.cells (Array.replicate n (.int .i64 0)) 3)) B (rI g n (List.replicate n 0) :: rs) := by
  have h1 := h.made hB (Array.replicate n (.int .i64 0)) 3 1 n g (by simp) (by simp only [maxLen]; omega) hg
  rw [Array.toList_replicate] at h1
  have e : intVs (List.replicate n 0) = List.replicate n (.int .i64 0) := by simp [intVs]
  unfold rI
  rw [e]
  exact h1
theorem nat_zeros (n : Nat) : natVs (List.replicate n 0) = intVs (List.replicate n 0) := by simp [natVs, intVs]
theorem rN_zeros (g n m : Nat) : rI g n (List.replicate m 0) = rN g n (List.replicate m 0) := by
  unfold rI rN
  rw [nat_zeros]
theorem intVs_one (xs : List Int) : ∀ u ∈ intVs xs, u.oneCell' = true := by
  intro u hu
  obtain ⟨y, _, rfl⟩ := List.mem_map.1 hu
  rfl
theorem Ints.news {w : World} {ad : Addr} {xs : List Int} (h : Ints w (some ad) xs) : ∀ b, some ad = some b → ∀ j u, (intVs xs)[j]? = some u → w.cell? (b.add j) = some u := by
  intro b hb j u hj
  cases hb
  obtain ⟨_, _, b, o', h3, h4⟩ := h
  have hjl : j < xs.length := by
    have := (List.getElem?_eq_some_iff.1 hj).1
    rwa [intVs_length] at this
  rw [intVs_get xs hjl] at hj
  cases hj
  have hp := (h3 (by omega)).1
  cases hp
  rw [Addr.add_lit, h4 j hjl]
theorem own_ints {w : World} {B : Nat} {rs : List Row} {k q n c : Nat} {xs : List Int} (h : Owns w B rs) (hk : rs[k]? = some ⟨.slice (some ⟨q, 0, none⟩) n c, 3, 1, n, intVs xs⟩) (hl : xs.length = n)
    (hm : n ≤ 100000) (hw : ∀ x ∈ xs, -9223372036854775808 ≤ x ∧ x ≤ 9223372036854775807) : Ints w (some ⟨q, 0, none⟩) xs := by
  refine ⟨by omega, hw, q, 0, fun _ => ⟨rfl, own_lt h hk⟩, fun i hi => ?_⟩
  rw [Nat.zero_add]
  exact (own_blk h hk).2.2.2.2 i _ (intVs_get xs hi)

theorem own_join {w w' : World} {B : Nat} {r : Row} {rs : List Row} (h : Owns w B rs) (hg : Grew w w') (hr : Owns w' w.heap.size [r]) (hB : B ≤ w.heap.size) : Owns w' B (r :: rs) := by
  refine (h.grew hg).cons (ownsRow_base hr.head hB) (fun k x hk g h1 h2 => ?_)
  have e1 := (hr.head.lt g h1).1
  have e2 := ((h.1 k x hk).lt g h2).2
  omega

theorem Ints.newsO {w : World} {q : Option Addr} {xs : List Int} (h : Ints w q xs) : ∀ b, q = some b → ∀ j u, (intVs xs)[j]? = some u → w.cell? (b.add j) = some u := by
  cases q with
  | none => intro b h; cases h
  | some ad => exact h.news
abbrev rC (g n c : Nat) (xs : List Int) : Row := ⟨.slice (some ⟨g, 0, none⟩) n c, 3, 1, n, intVs xs⟩
theorem own_atC {w : World} {B : Nat} {rs : List Row} (h : Owns w B rs) {j g n c : Nat} {xs : List Int} (hk : rs[j]? = some (rC g n c xs)) {i : Nat} (hi : i < xs.length) : w.cell? ⟨g, i, none⟩ = some (.int .i64 (ge xs i)) :=
  (own_blk h hk).2.2.2.2 i _ (intVs_get xs hi)
theorem own_setC {w : World} {B : Nat} {rs : List Row} (h : Owns w B rs) {j g n c : Nat} {xs : List Int} (hk : rs[j]? = some (rC g n c xs)) (i : Nat) (x : Int) : Owns (w.setCell ⟨g, i, none⟩ (.int .i64 x)) B (rs.set j (rC g n c (xs.set i x))) := by
  have := h.set hk i (.int .i64 x)
  have e : (intVs xs).set i (.int .i64 x) = intVs (xs.set i x) := by unfold intVs; rw [List.map_set]
  rwa [e] at this
/-- A row that came in as a value: nil, or in a block of its own. -/
theorem own_shape {w : World} {B : Nat} {v : Value} {n : Nat} {xs : List Int} (h : Owns w B [⟨v, 3, 1, n, intVs xs⟩]) : (v = .slice none 0 0 ∧ n = 0) ∨ ∃ g c, v = .slice (some ⟨g, 0, none⟩) n c ∧ B ≤ g ∧ g < w.heap.size ∧ n ≤ c := by
  rcases (h.get (k := 0) rfl).2 with ⟨g1, g2⟩ | ⟨g, cap, g1, g2, g3, g4, _⟩
  · exact Or.inl ⟨g1, g2⟩
  · exact Or.inr ⟨g, cap, g1, g2, g3, g4⟩

set_option maxHeartbeats 2000000 in
theorem clone_g (p : Option Addr) (K cap : Nat) (xs : List Int) (w : World) (hI : Ints w p xs) (hn : xs.length = K) (hK : K ≤ 4096) (hnil : p = none → K = 0 ∧ cap = 0) :
    Calls Tryd.prog 57 #[.slice p K cap] w fun e w' => Grew w w' ∧ ∃ v, e = .returned v ∧ Owns w' w.heap.size [⟨v, 3, 1, K, intVs xs⟩] := by
  cases p with
  | none =>
    obtain ⟨rfl, rfl⟩ := hnil rfl
    have e : xs = [] := List.eq_nil_of_length_eq_zero hn
    subst e
    have heq := fun W => Lib.run_eql_slice_nil (P := Tryd.prog) W 28 3 none 0 0 0 0 Tryd.underlying28
    go_enter Tryd.func57, Tryd.ntmps57
    go_wp2
    go_ret
    exact ⟨by (repeat (first | exact gR _ | refine gO ?_ _ | refine gA ?_ _ | refine gD ?_ | refine gN ?_ _)), _, rfl, (Owns.nil _ _).none _ _⟩
  | some ad =>
    obtain ⟨b, o, t⟩ := ad
    have ht : 0 < K → t = none ∧ True := fun h0 => by
      obtain ⟨_, _, b', o', h3, _⟩ := hI
      have := (h3 (by omega)).1
      cases this
      exact ⟨rfl, trivial⟩
    have heq := fun W => Lib.run_eql_slice_nil (P := Tryd.prog) W 28 3 (some ⟨b, o, t⟩) K cap 0 0 Tryd.underlying28
    have HI := Lib.hid hI
    have Hn := Lib.hid hn
    clear hI hn hnil ht
    go_enter Tryd.func57, Tryd.ntmps57
    go_wp2_with (at_builtin; refine wp_append_owns rfl _ _ 28 rfl 3 1 8 (.int .i64 0) Tryd.underlying28 Tryd.infoInt rfl (by decide) w.heap.size _ 0 _ _ _ ((Owns.nil w w.heap.size).made (Nat.le_refl _) #[] 3 1 0 w.heap.size rfl (by decide) rfl) rfl rfl _ _ _ rfl (intVs xs) (by rw [intVs_length, Hn.out, Nat.mul_one]) (fun h => by cases h) ((HI.out.grew (by (repeat (first | exact gR _ | refine gO ?_ _ | refine gA ?_ _ | refine gD ?_ | refine gN ?_ _)))).news) (intVs_one _) (by simp only [maxLen]; omega) (by omega) (by first | rfl | omega | (simp <;> omega)) ?_; intro v1 w1 hO1 hg1 hb1 _; have Hg1 := Lib.hid (Grew.grownBy (w0 := w) (by (repeat (first | exact gR _ | refine gO ?_ _ | refine gA ?_ _ | refine gD ?_ | refine gN ?_ _))) hg1 hb1); have HO1 := Lib.hid hO1; clear hO1 hg1 hb1)
    go_ret
    have h := HO1.out
    simp only [List.set_cons_zero, Nat.zero_add, List.nil_append] at h
    exact ⟨Hg1.out, _, rfl, h⟩
end Go.Proofs.YtiihgpgpbgafiaaDoor.Fl

/- Check of the program. -/
set_option linter.unusedSimpArgs false
set_option linter.unusedVariables false
namespace Go.Proofs.YtiihgpgpbgafiaaDoor.Fl
open Go.RowKit
attribute [local go_sem ↓] Go.wp_at_zero Go.wp_at_succ

def chkS (s : List Int) (A : List Ark) (f : List Int) : Int := if fitsS s A f = 0 then (if ∀ v, v < s.length → exc s A f v = 0 then 0 else 15) else fitsS s A f
theorem chkS_err {s : List Int} {A : List Ark} {f : List Int} (h : fitsS s A f ≠ 0) : chkS s A f = fitsS s A f := if_neg h
theorem fitsS_zero {s : List Int} {A : List Ark} {f : List Int} (h : fitsS s A f = 0) : vN s A ∧ Fit A f := by
  cases hv : nB s A
  · rw [fitsS_bad hv] at h; omega
  · by_cases hf : Fit A f
    · exact ⟨nB_iff.1 hv, hf⟩
    · rw [fitsS_no hv hf] at h; omega
theorem inF_bd {A : List Ark} {f : List Int} (hf : Fit A f) (hc : ∀ i, i < A.length → cap A i ≤ 1048576) (v : Nat) : ∀ k, k ≤ A.length → -((k : Int) * 1048576) ≤ inF A f v k ∧ inF A f v k ≤ (k : Int) * 1048576
  | 0, _ => ⟨Int.le_refl _, Int.le_refl _⟩
  | k + 1, hk => by
    have ih := inF_bd hf hc v k (by omega)
    have hb := hf.b k (by omega)
    have hc' := hc k (by omega)
    have e : inF A f v (k + 1) = inF A f v k + ((if vT A k = v then ge f k else 0) - (if vF A k = v then ge f k else 0)) := rfl
    rw [e]
    split <;> split <;> omega
theorem exL_bd {s : List Int} {A : List Ark} {f : List Int} (hV : vN s A) (hf : Fit A f) {k : Nat} (hk : k ≤ A.length) {v : Nat} (hv : v < s.length) : -2148532224 ≤ ge (exL s A f k) v ∧ ge (exL s A f k) v ≤ 2148532224 := by
  rw [ge_exL hV f k hk]
  have h1 := inF_bd hf (fun i hi => (hV.a i hi).2.2.1.2) v k hk
  have h2 := hV.sb v hv
  have h3 := hV.m
  omega

set_option maxHeartbeats 8000000 in
theorem check_p (p q r : Option Addr) (n cp m cq k cr : Nat) (s : List Int) (A : List Ark) (f : List Int) (w : World) (hS : Ints w p s) (hA : Arks w q A) (hF : Ints w r f) (hn : s.length = n) (hm : A.length = m) (hk : f.length = k) (hnil : p = none → n = 0 ∧ cp = 0) :
    Calls Tryd.prog 34 #[.agg #[.slice p n cp, .slice q m cq], .slice r k cr] w fun e w' => e = .returned (.int .i64 (chkS s A f)) ∧ Grew w w' := by
  subst hn hm hk
  have hsm := hS.1
  have ham := hA.1
  have hfm := hF.1
  have Hnil := Lib.hid hnil
  have HS := Lib.hid hS
  have HA := Lib.hid hA
  have HF := Lib.hid hF
  obtain ⟨z, hz⟩ : ∃ z, fitsS s A f = z := ⟨_, rfl⟩
  have Hz := Lib.hid hz
  have Hfits : Hid (∀ (w1 : World), Grew w w1 → Calls Tryd.prog 56 #[.agg #[.slice p s.length cp, .slice q A.length cq], .slice r f.length cr] w1 fun e w' => e = .returned (.int .i64 z) ∧ Grew w1 w') := Lib.hid (fun w1 hg => by
    have := fits_p p q r s.length cp A.length cq f.length cr s A f w1 (HS.out.grew hg) (HA.out.grew hg) (HF.out.grew hg) rfl rfl rfl
    rw [Hz.out] at this
    exact this)
  clear hnil hS hA hF
  by_cases hz0 : z = 0
  case neg =>
    have Hf := Lib.hid (chkS_err (s := s) (A := A) (f := f) (by rw [hz]; exact hz0))
    rw [hz] at Hf
    have hz1 : (z != 0) = true := by rw [bne_iff_ne]; exact hz0
    clear hz hz0
    go_enter Tryd.func34, Tryd.ntmps34
    go_wp2_with (go_at_call 56; apply Calls.mono; (with_reducible exact Hfits.out _ (by (repeat (first | exact gR _ | refine gO ?_ _ | refine gA ?_ _ | refine gD ?_ | refine gN ?_ _)))); rintro e w' ⟨rfl, x, rfl⟩)
    go_ret
    exact ⟨ret_int Hf.out.symm, by (repeat (first | exact gR _ | refine gO ?_ _ | refine gA ?_ _ | refine gD ?_ | refine gN ?_ _))⟩
  subst hz0
  have hfit := fitsS_zero hz
  have HV := Lib.hid hfit.1
  have Hfit := Lib.hid hfit.2
  have h256 := hfit.1.n
  have h2048 := hfit.1.m
  have hl := hfit.2.l
  have Hl := Lib.hid hl
  have hf4096 : f.length ≤ 4096 := by omega
  have Hchk : Hid (chkS s A f = if ∀ v, v < s.length → exc s A f v = 0 then 0 else 15) := Lib.hid (by unfold chkS; rw [if_pos hz])
  have Hex : Hid (∀ v, v < s.length → ge (exL s A f A.length) v = exc s A f v) := Lib.hid (fun v _ => ge_exL HV.out f A.length (Nat.le_refl _) v)
  have hs4096 : s.length ≤ 4096 := by omega
  clear hfit hz hl
  go_enter Tryd.func34, Tryd.ntmps34
  go_upto_region 5 with (first
    | (go_at_call 56; apply Calls.mono; (with_reducible exact Hfits.out _ (by (repeat (first | exact gR _ | refine gO ?_ _ | refine gA ?_ _ | refine gD ?_ | refine gN ?_ _)))); rintro e w1 ⟨rfl, hg1⟩; have Hg1 : Hid (Grew w w1) := Lib.hid (Grew.trans (by (repeat (first | exact gR _ | refine gO ?_ _ | refine gA ?_ _ | refine gD ?_ | refine gN ?_ _))) hg1); have x0 : w1.cell? ⟨w.heap.size, 0, none⟩ = some (.slice p s.length cp) := Grew.cellEq hg1 (by simp [go_sem]); have x1 : w1.cell? ⟨w.heap.size, 1, none⟩ = some (.slice q A.length cq) := Grew.cellEq hg1 (by simp [go_sem]); clear hg1)
    | (go_at_call 57; apply Calls.mono; (with_reducible exact clone_g _ _ _ s _ (HS.out.grew Hg1.out) rfl hs4096 Hnil.out); rintro e w2 ⟨hg2, v6, rfl, hO⟩; have Hg2 := Lib.hid hg2; have HO := Lib.hid hO; have Hx0 := Lib.hid x0; have Hx1 := Lib.hid x1; replace x0 := hg2.cellEq x0; replace x1 := hg2.cellEq x1; clear hg2 hO))
  rcases own_shape HO.out with ⟨rfl, hn0⟩ | ⟨g, c6, rfl, hB6, hs6, hc6⟩
  · have hm0 : A.length = 0 := by
      rcases Nat.eq_zero_or_pos A.length with h | h
      · exact h
      · have := (HV.out.a 0 h).1; omega
    have Hr : Hid (chkS s A f = 0) := Lib.hid (by rw [Hchk.out, if_pos (fun v hv => by omega)])
    go_wp2
    go_loopw [23] (fun v23 wr => v23 = .int .i64 0 ∧ Grew w2 wr) (fun _ _ => 0)
    case atStart => exact ⟨rfl, Grew.refl _⟩
    case round =>
      obtain ⟨rfl, y, rfl⟩ := hrel
      go_wp2
      go_loopw [53] (fun v53 wr => v53 = .int .i64 0 ∧ Grew w2 wr) (fun _ _ => 0)
      case atStart => exact ⟨rfl, by (repeat (first | exact gR _ | refine gO ?_ _ | refine gA ?_ _ | refine gD ?_ | refine gN ?_ _))⟩
      case round =>
        obtain ⟨rfl, y, rfl⟩ := hrel
        go_wp2
        go_ret
        exact ⟨ret_int Hr.out.symm, (Hg1.out.trans Hg2.out).trans (by (repeat (first | exact gR _ | refine gO ?_ _ | refine gA ?_ _ | refine gD ?_ | refine gN ?_ _)))⟩
  go_wp2
  go_loopw [23] (fun v23 wr => ∃ j : Nat, j ≤ A.length ∧ v23 = .int .i64 j ∧ Owns wr w1.heap.size [rC g s.length c6 (exL s A f j)] ∧ Grew w1 wr) (fun v23 _ => A.length - (intOf v23).toNat)
  case atStart => exact ⟨0, Nat.zero_le _, rfl, HO.out, Hg2.out⟩
  case round =>
    clear HO Hg2 x0 x1
    obtain ⟨j, hj, rfl, hO, hg⟩ := hrel
    have HO := Lib.hid hO
    have Hg := Lib.hid hg
    clear hO hg
    have x0 := Hg.out.cellEq Hx0.out
    have x1 := Hg.out.cellEq Hx1.out
    by_cases hlt : j < A.length
    · obtain ⟨b2, o2, rfl, hb2, c0, c1, c2, c3⟩ := (HA.out.grew (Hg1.out.trans Hg.out)).open hlt
      have hjf : j < f.length := by have := Hl.out; omega
      obtain ⟨bf, of, hf3, hf4⟩ := HF.out.open
      obtain ⟨rfl, hbf0⟩ := hf3 (by omega)
      have df := (Hg1.out.trans Hg.out).cellEq (hf4 j hjf)
      have hbf1 := Nat.lt_of_lt_of_le hbf0 Hg1.out.below.size
      have hbf := Nat.lt_of_lt_of_le hbf1 Hg.out.below.size
      have hgr := own_lt HO.out (j := 0) rfl
      have hF1 := HV.out.vF hlt
      have hT1 := HV.out.vT hlt
      rw [HV.out.fr hlt] at c0
      rw [HV.out.ed hlt] at c1
      obtain ⟨u, hu⟩ : ∃ u, vF A j = u := ⟨_, rfl⟩
      obtain ⟨v, hv⟩ : ∃ v, vT A j = v := ⟨_, rfl⟩
      rw [hu] at c0 hF1
      rw [hv] at c1 hT1
      have hbd := fun t ht => exL_bd (f := f) (k := j) (v := t) HV.out Hfit.out (by omega) ht
      have hfb := Hfit.out.b j hlt
      have hcb := (HV.out.a j hlt).2.2.1
      obtain ⟨xs, hxs⟩ : ∃ xs, exL s A f j = xs := ⟨_, rfl⟩
      have hxl : xs.length = s.length := by rw [← hxs, exL_length]
      have Hxs := Lib.hid hxs
      rw [hxs] at HO hbd
      obtain ⟨fj, hfj⟩ : ∃ x, ge f j = x := ⟨_, rfl⟩
      rw [hfj] at df hfb
      have hb1 := hbd u hF1
      have hb2 := hbd v hT1
      have Hfj := Lib.hid hfj
      have Hu := Lib.hid hu
      have Hv := Lib.hid hv
      have Hxl := Lib.hid hxl
      have Hnext : Hid (exL s A f (j + 1) = (xs.set u (ge xs u - fj)).set v (ge (xs.set u (ge xs u - fj)) v + fj)) := Lib.hid (by simp only [exL]; rw [hxs, hu, hv, hfj])
      have hgv : ge (xs.set u (ge xs u - fj)) v = if v = u then ge xs u - fj else ge xs v := ge_set xs (by rw [hxl]; exact hF1) _ v
      obtain ⟨xu, hxu⟩ : ∃ x, ge xs u = x := ⟨_, rfl⟩
      obtain ⟨xs2, hxs2⟩ : ∃ l, xs.set u (ge xs u - fj) = l := ⟨_, rfl⟩
      rw [hxs2] at hgv Hnext
      obtain ⟨xv, hxv⟩ : ∃ x, ge xs2 v = x := ⟨_, rfl⟩
      rw [hxv] at hgv Hnext
      have hxvb : -2160000000 ≤ xv ∧ xv ≤ 2160000000 := by rw [hgv]; split <;> omega
      rw [hxu] at hb1 hxs2
      have hwr1 : IntKind.i64.wrap (xu - fj) = xu - fj := IntWalk.i64_in _ ⟨by omega, by omega⟩
      have hwr2 : IntKind.i64.wrap (xv + fj) = xv + fj := IntWalk.i64_in _ ⟨by omega, by omega⟩
      have hl2 : xs2.length = s.length := by rw [← hxs2, List.length_set]; exact hxl
      have Hxs2 := Lib.hid hxs2
      have Hxu := Lib.hid hxu
      have Hxv := Lib.hid hxv
      have Hl2 := Lib.hid hl2
      clear hbd hxs hfj hu hv hxl hgv hxs2 hxu hxv hl2 hf3 hf4 hcb
      go_upto_region 8 with fail
      obtain ⟨w3, hw3⟩ : ∃ w3, wr.alloc (.cells #[.int .i64 (u : Int), .int .i64 (v : Int), .int .i64 (aK A j).cap, .int .i64 (aK A j).cost] 63) = w3 := ⟨_, rfl⟩
      have z0 : w3.cell? ⟨wr.heap.size, 0, none⟩ = some (.int .i64 (u : Int)) := by rw [← hw3]; simp [go_sem]
      have z1 : w3.cell? ⟨wr.heap.size, 1, none⟩ = some (.int .i64 (v : Int)) := by rw [← hw3]; simp [go_sem]
      have hg3 : Grew wr w3 := by rw [← hw3]; (repeat (first | exact gR _ | refine gO ?_ _ | refine gA ?_ _ | refine gD ?_ | refine gN ?_ _))
      have hz3 : wr.heap.size < w3.heap.size := by rw [← hw3]; simp
      have HO3 := Lib.hid (HO.out.grew hg3)
      have Hg3 := Lib.hid (Hg.out.trans hg3)
      replace df := hg3.cellEq df
      rw [hw3]
      have Hx03 := Lib.hid (hg3.cellEq x0)
      have Hx13 := Lib.hid (hg3.cellEq x1)
      clear hw3 c0 c1 c2 c3 x0 x1 HO Hg
      have e0 := own_atC HO3.out (j := 0) rfl (i := u) (by rw [Hxl.out]; exact hF1)
      rw [Hxu.out] at e0
      have bg := own_lt HO3.out (j := 0) rfl
      have fg := own_fr HO3.out (j := 0) rfl
      replace fg := fg u
      have HO4 := Lib.hid (own_setC HO3.out (j := 0) rfl u (xu - fj))
      have Hg4 := Lib.hid (HO3.out.setGrew (w0 := w1) (Nat.le_refl _) Hg3.out (k := 0) rfl u (.int .i64 (xu - fj)))
      have hbf3 := Nat.lt_of_lt_of_le hbf hg3.below.size
      have hne1 : g ≠ bf := by omega
      have hne2 : g ≠ wr.heap.size := by omega
      clear hg3 hbf0 hbf1 hgr
      refine wp_region_lex (One 11 (fun b => if b then w3.setCell ⟨g, u, none⟩ (.int .i64 (xu - fj)) else w3)) (by kernel_rfl) (by kernel_rfl) ?_ ?_
      · (repeat (first | exact Grew.refl _ | refine Grew.over ?_ _ | refine Grew.alloc ?_ _ | refine Grew.drew ?_ | refine Grew.drewN ?_ _))
      repeat (first
        | (refine lex_skip rfl ?_ ?_
           · exact One.keep (by decide)
           (try simp only [Act.put, List.setIfInBounds_toArray, List.set_cons_zero, List.set_cons_succ]))
        | (refine lex_pure (v := ?_) rfl ?_ (fun d w hd hr hC => ?_) ?_
           rotate_left
           · exact One.keep (by decide)
           · ((try (have hs := closed_undone (s := 11) hr.2 rfl (by decide +kernel) hd; unfold One at hC; rw [hs] at hC)); obtain ⟨x, rfl⟩ := hC; simp [go_sem, ↓IntWalk.iteOmega, z0, e0, df, fg, hwr1]; try rfl)
           (try simp only [Act.put, List.setIfInBounds_toArray, List.set_cons_zero, List.set_cons_succ]))
        | (refine lex_call (v := ?_) (f := ?_) (args := ?_) rfl ?_ One.grew (fun d w hd hr hC => ?_) (fun d w hd hr hC => ?_) ?_
           rotate_left 3
           · exact One.keep (by decide)
           · ((try (have hs := closed_undone (s := 11) hr.2 rfl (by decide +kernel) hd; unfold One at hC; rw [hs] at hC)); obtain ⟨x, rfl⟩ := hC; simp [go_sem, ↓IntWalk.iteOmega, z0, e0, df, fg, hwr1]; (refine ⟨?_, ?_⟩ <;> rfl))
           · ((try (have hs := closed_undone (s := 11) hr.2 rfl (by decide +kernel) hd; unfold One at hC; rw [hs] at hC)); obtain ⟨x, rfl⟩ := hC; (fail))
           (try simp only [Act.put, List.setIfInBounds_toArray, List.set_cons_zero, List.set_cons_succ]))
        | (refine lex_store rfl (fun d w hd hr hC => ?_) ?_
           · (unfold One at hC ⊢; rw [hd] at hC; rw [mark_same]; obtain ⟨x, rfl⟩ := hC; refine ⟨?_, ?_, ?_⟩; rotate_left; (simp [go_sem, ↓IntWalk.iteOmega, z0, e0, df, fg, hwr1]; try rfl); (simp; exact ⟨_, rfl⟩))
           (try simp only [Act.put, List.setIfInBounds_toArray, List.set_cons_zero, List.set_cons_succ])))
      refine lex_nil ?_
      intro dLx w4 hd hw4
      unfold One at hw4; rw [hd 11 (by decide)] at hw4; simp only [if_true] at hw4
      have HO5 : Hid (Owns w4 w1.heap.size [rC g s.length c6 xs2]) := Lib.hid (by
        have h := HO4.out.grew hw4
        rw [← Hxs2.out]
        exact h)
      have Hg5 := Lib.hid (Hg4.out.trans hw4)
      replace z1 : w4.cell? ⟨wr.heap.size, 1, none⟩ = _ := hw4.cellEq (v := .int .i64 (v : Int)) (by first | (go_simp; done) | (simp [go_sem, ↓IntWalk.iteOmega, *]; done))
      replace df : w4.cell? ⟨bf, of + j, none⟩ = _ := hw4.cellEq (v := .int .i64 fj) (by first | (go_simp; done) | (simp [go_sem, ↓IntWalk.iteOmega, *]; done))
      have hz4 : wr.heap.size < w4.heap.size := by have := hw4.below.size; simp at this; omega
      have hbf4 : bf < w4.heap.size := by omega
      have hg45 := Lib.hid hw4
      clear z0 e0 fg hwr1 hw4
      have e1 := own_atC HO5.out (j := 0) rfl (i := v) (by rw [Hl2.out]; exact hT1)
      rw [Hxv.out] at e1
      have bg5 := own_lt HO5.out (j := 0) rfl
      have fg5 := own_fr HO5.out (j := 0) rfl
      replace fg5 := fg5 v
      have HO6 := Lib.hid (own_setC HO5.out (j := 0) rfl v (xv + fj))
      have Hg6 := Lib.hid (HO5.out.setGrew (w0 := w1) (Nat.le_refl _) Hg5.out (k := 0) rfl v (.int .i64 (xv + fj)))
      go_upto_region 9 with fail
      refine wp_region_lex (One 11 (fun b => if b then w4.setCell ⟨g, v, none⟩ (.int .i64 (xv + fj)) else w4)) (by kernel_rfl) (by kernel_rfl) ?_ ?_
      · (repeat (first | exact Grew.refl _ | refine Grew.over ?_ _ | refine Grew.alloc ?_ _ | refine Grew.drew ?_ | refine Grew.drewN ?_ _))
      repeat (first
        | (refine lex_skip rfl ?_ ?_
           · exact One.keep (by decide)
           (try simp only [Act.put, List.setIfInBounds_toArray, List.set_cons_zero, List.set_cons_succ]))
        | (refine lex_pure (v := ?_) rfl ?_ (fun d w hd hr hC => ?_) ?_
           rotate_left
           · exact One.keep (by decide)
           · ((try (have hs := closed_undone (s := 11) hr.2 rfl (by decide +kernel) hd; unfold One at hC; rw [hs] at hC)); obtain ⟨x, rfl⟩ := hC; simp [go_sem, ↓IntWalk.iteOmega, z1, e1, df, fg5, hwr2]; try rfl)
           (try simp only [Act.put, List.setIfInBounds_toArray, List.set_cons_zero, List.set_cons_succ]))
        | (refine lex_call (v := ?_) (f := ?_) (args := ?_) rfl ?_ One.grew (fun d w hd hr hC => ?_) (fun d w hd hr hC => ?_) ?_
           rotate_left 3
           · exact One.keep (by decide)
           · ((try (have hs := closed_undone (s := 11) hr.2 rfl (by decide +kernel) hd; unfold One at hC; rw [hs] at hC)); obtain ⟨x, rfl⟩ := hC; simp [go_sem, ↓IntWalk.iteOmega, z1, e1, df, fg5, hwr2]; (refine ⟨?_, ?_⟩ <;> rfl))
           · ((try (have hs := closed_undone (s := 11) hr.2 rfl (by decide +kernel) hd; unfold One at hC; rw [hs] at hC)); obtain ⟨x, rfl⟩ := hC; (fail))
           (try simp only [Act.put, List.setIfInBounds_toArray, List.set_cons_zero, List.set_cons_succ]))
        | (refine lex_store rfl (fun d w hd hr hC => ?_) ?_
           · (unfold One at hC ⊢; rw [hd] at hC; rw [mark_same]; obtain ⟨x, rfl⟩ := hC; refine ⟨?_, ?_, ?_⟩; rotate_left; (simp [go_sem, ↓IntWalk.iteOmega, z1, e1, df, fg5, hwr2]; try rfl); (simp; exact ⟨_, rfl⟩))
           (try simp only [Act.put, List.setIfInBounds_toArray, List.set_cons_zero, List.set_cons_succ])))
      refine lex_nil ?_
      intro dLx w5 hd hw5
      unfold One at hw5; rw [hd 11 (by decide)] at hw5; simp only [if_true] at hw5
      have HO7 : Hid (Owns w5 w1.heap.size [rC g s.length c6 (exL s A f (j + 1))]) := Lib.hid (by
        have h := HO6.out.grew hw5
        rw [Hnext.out]
        exact h)
      have Hg7 := Lib.hid (Hg6.out.trans hw5)
      go_wp2
      go_roundw
      case rel => exact ⟨j + 1, by omega, by go_num, HO7.out, Hg7.out⟩
      case measure => simp [intOf]; omega
    · have hje : j = A.length := by omega
      subst hje
      have HO0 := HO
      have hlen : (exL s A f A.length).length = s.length := exL_length _ _ _ _
      have Hlen := Lib.hid hlen
      clear hlen
      go_wp2
      go_loop [53] (fun v53 => ∃ t : Nat, t ≤ s.length ∧ v53 = .int .i64 t ∧ ∀ v, v < t → exc s A f v = 0) (fun v53 => s.length - (intOf v53).toNat)
      case atStart => exact ⟨0, Nat.zero_le _, rfl, fun v hv => by omega⟩
      case round =>
        obtain ⟨t, ht, rfl, hall⟩ := hrel
        have Hall := Lib.hid hall
        clear hall
        by_cases hlt2 : t < s.length
        · have e0 := own_atC HO0.out (j := 0) rfl (i := t) (by rw [Hlen.out]; exact hlt2)
          rw [Hex.out t hlt2] at e0
          have bg := own_lt HO0.out (j := 0) rfl
          obtain ⟨x, hx⟩ : ∃ x, exc s A f t = x := ⟨_, rfl⟩
          rw [hx] at e0
          have Hx := Lib.hid hx
          clear hx
          by_cases h0 : x = 0
          · subst h0
            go_wp2
            go_round
            case rel =>
              refine ⟨t + 1, by omega, by go_num, fun v hv => ?_⟩
              by_cases e : v = t
              · rw [e]; exact Hx.out
              · exact Hall.out v (by omega)
            case measure => simp [intOf]; omega
          · have hx1 : (x != 0) = true := by rw [bne_iff_ne]; exact h0
            have Hr : Hid (chkS s A f = 15) := Lib.hid (by rw [Hchk.out, if_neg (fun h => h0 (by rw [← Hx.out]; exact h t hlt2))])
            clear h0
            go_wp2
            go_ret
            exact ⟨ret_int Hr.out.symm, Hg1.out.trans Hg.out⟩
        · have Hr : Hid (chkS s A f = 0) := Lib.hid (by rw [Hchk.out, if_pos (fun v hv => Hall.out v (by omega))])
          go_wp2
          go_ret
          exact ⟨ret_int Hr.out.symm, Hg1.out.trans Hg.out⟩
end Go.Proofs.YtiihgpgpbgafiaaDoor.Fl

/- Cost of the program; Excess, Check and Cost of the reference. -/
set_option linter.unusedSimpArgs false
set_option linter.unusedVariables false
namespace Go.Proofs.YtiihgpgpbgafiaaDoor.Fl
open Go.RowKit
attribute [local go_sem ↓] Go.wp_at_zero Go.wp_at_succ

def cosS (s : List Int) (A : List Ark) (f : List Int) : Int := if fitsS s A f = 0 then costF A f else 0
theorem mul_bd {a b X Y : Int} (h1 : 0 ≤ a) (h2 : a ≤ X) (h3 : -Y ≤ b) (h4 : b ≤ Y) : -(X * Y) ≤ a * b ∧ a * b ≤ X * Y := by
  have hX : 0 ≤ X := by omega
  have hY : 0 ≤ Y := by omega
  have e1 : a * b ≤ a * Y := Int.mul_le_mul_of_nonneg_left h4 h1
  have e2 : a * Y ≤ X * Y := Int.mul_le_mul_of_nonneg_right h2 hY
  have e3 : a * (-Y) ≤ a * b := Int.mul_le_mul_of_nonneg_left h3 h1
  rw [Int.mul_neg] at e3
  omega
theorem cos_bd {A : List Ark} {f : List Int} (hf : Fit A f) (hc : ∀ i, i < A.length → cap A i ≤ 1048576 ∧ -1000 ≤ cst A i ∧ cst A i ≤ 1000) : ∀ k, k ≤ A.length →
    -((k : Int) * 1048576000) ≤ sumN (fun i => ge f i * cst A i) k ∧ sumN (fun i => ge f i * cst A i) k ≤ (k : Int) * 1048576000
  | 0, _ => ⟨Int.le_refl _, Int.le_refl _⟩
  | k + 1, hk => by
    have ih := cos_bd hf hc k (by omega)
    have hb := hf.b k (by omega)
    obtain ⟨h1, h2, h3⟩ := hc k (by omega)
    have := mul_bd (X := 1048576) (Y := 1000) hb.1 (by omega) h2 h3
    rw [sumN]
    omega

set_option maxHeartbeats 4000000 in
theorem cost_p (p q r : Option Addr) (n cp m cq k cr : Nat) (s : List Int) (A : List Ark) (f : List Int) (w : World) (hS : Ints w p s) (hA : Arks w q A) (hF : Ints w r f) (hn : s.length = n) (hm : A.length = m) (hk : f.length = k) :
    Calls Tryd.prog 70 #[.agg #[.slice p n cp, .slice q m cq], .slice r k cr] w fun e w' => e = .returned (.int .i64 (cosS s A f)) ∧ Grew w w' := by
  subst hn hm hk
  have ham := hA.1
  have HS := Lib.hid hS
  have HA := Lib.hid hA
  have HF := Lib.hid hF
  obtain ⟨z, hz⟩ : ∃ z, fitsS s A f = z := ⟨_, rfl⟩
  have Hz := Lib.hid hz
  have Hfits : Hid (∀ (w1 : World), Grew w w1 → Calls Tryd.prog 56 #[.agg #[.slice p s.length cp, .slice q A.length cq], .slice r f.length cr] w1 fun e w' => e = .returned (.int .i64 z) ∧ Grew w1 w') := Lib.hid (fun w1 hg => by
    have := fits_p p q r s.length cp A.length cq f.length cr s A f w1 (HS.out.grew hg) (HA.out.grew hg) (HF.out.grew hg) rfl rfl rfl
    rw [Hz.out] at this
    exact this)
  clear hS hA hF
  by_cases hz0 : z = 0
  case neg =>
    have Hf : Hid (cosS s A f = 0) := Lib.hid (if_neg (by rw [hz]; exact hz0))
    have hz1 : (z != 0) = true := by rw [bne_iff_ne]; exact hz0
    clear hz hz0
    go_enter Tryd.func70, Tryd.ntmps70
    go_wp2_with (go_at_call 56; apply Calls.mono; (with_reducible exact Hfits.out _ (by (repeat (first | exact gR _ | refine gO ?_ _ | refine gA ?_ _ | refine gD ?_ | refine gN ?_ _)))); rintro e w' ⟨rfl, x, rfl⟩)
    go_ret
    exact ⟨ret_int Hf.out.symm, by (repeat (first | exact gR _ | refine gO ?_ _ | refine gA ?_ _ | refine gD ?_ | refine gN ?_ _))⟩
  subst hz0
  have hfit := fitsS_zero hz
  have HV := Lib.hid hfit.1
  have Hfit := Lib.hid hfit.2
  have h2048 := hfit.1.m
  have Hl := Lib.hid hfit.2.l
  have Hf : Hid (cosS s A f = sumN (fun i => ge f i * cst A i) A.length) := Lib.hid (if_pos hz)
  clear hfit hz
  go_enter Tryd.func70, Tryd.ntmps70
  go_wp2_with (go_at_call 56; apply Calls.mono; (with_reducible exact Hfits.out _ (by (repeat (first | exact gR _ | refine gO ?_ _ | refine gA ?_ _ | refine gD ?_ | refine gN ?_ _)))); rintro e w1 ⟨rfl, hg1⟩; have Hg1 : Hid (Grew w w1) := Lib.hid (Grew.trans (by (repeat (first | exact gR _ | refine gO ?_ _ | refine gA ?_ _ | refine gD ?_ | refine gN ?_ _))) hg1); have x1 : w1.cell? ⟨w.heap.size, 1, none⟩ = some (.slice q A.length cq) := Grew.cellEq hg1 (by simp [go_sem]); clear hg1)
  go_loopw [5, 15] (fun v5 v15 wr => ∃ j : Nat, j ≤ A.length ∧ v15 = .int .i64 j ∧ v5 = .int .i64 (sumN (fun i => ge f i * cst A i) j) ∧ Grew w1 wr) (fun _ v15 _ => A.length - (intOf v15).toNat)
  case atStart => exact ⟨0, Nat.zero_le _, rfl, rfl, Grew.refl _⟩
  case round =>
    obtain ⟨j, hj, rfl, rfl, hg⟩ := hrel
    have Hg := Lib.hid hg
    clear hg
    obtain ⟨sb1, sb2⟩ := cos_bd Hfit.out (fun i hi => ⟨(HV.out.a i hi).2.2.1.2, (HV.out.a i hi).2.2.2⟩) j hj
    obtain ⟨S, hS0⟩ : ∃ S, sumN (fun i => ge f i * cst A i) j = S := ⟨_, rfl⟩
    rw [hS0] at sb1 sb2 ⊢
    have HS0 := Lib.hid hS0
    clear hS0
    have hSb : -2147483648000 ≤ S ∧ S ≤ 2147483648000 := by omega
    obtain ⟨hS1, hS2⟩ := hSb
    clear sb1 sb2
    by_cases hlt : j < A.length
    · obtain ⟨b2, o2, rfl, hb2, c0, c1, c2, c3⟩ := (HA.out.grew (Hg1.out.trans Hg.out)).open hlt
      have hjf : j < f.length := by have := Hl.out; omega
      obtain ⟨bf, of, hf3, hf4⟩ := (HF.out.grew (Hg1.out.trans Hg.out)).open
      obtain ⟨rfl, hbf⟩ := hf3 (by omega)
      have df := hf4 j hjf
      have hfb := Hfit.out.b j hlt
      have hcb := (HV.out.a j hlt).2.2
      have hsn : sumN (fun i => ge f i * cst A i) (j + 1) = S + ge f j * cst A j := by rw [sumN, HS0.out]
      have hprod := mul_bd (X := 1048576) (Y := 1000) hfb.1 (by omega) hcb.2.1 hcb.2.2
      obtain ⟨fj, hfj⟩ : ∃ x, ge f j = x := ⟨_, rfl⟩
      obtain ⟨cj, hcj⟩ : ∃ x, cst A j = x := ⟨_, rfl⟩
      obtain ⟨fc, hfc⟩ : ∃ x, fj * cj = x := ⟨_, rfl⟩
      have hc3 : (aK A j).cost = cj := hcj
      rw [hfj] at df hsn hprod
      rw [hcj] at hsn hprod
      rw [hfc] at hsn hprod
      rw [hc3] at c3
      obtain ⟨hp1, hp2⟩ := hprod
      have hp1' : -1048576000 ≤ fj * cj := by rw [hfc]; omega
      have hp2' : fj * cj ≤ 1048576000 := by rw [hfc]; omega
      have hwr : IntKind.i64.wrap (fj * cj) = fc := by rw [← hfc]; exact IntWalk.i64_in _ ⟨by omega, by omega⟩
      have hwr2 : IntKind.i64.wrap (S + fc) = S + fc := IntWalk.i64_in _ ⟨by omega, by omega⟩
      have Hsn := Lib.hid hsn
      clear hsn hfj hcj hfc hc3 hfb hcb hf3 hf4
      go_wp2
      refine wp_region_over (by kernel_rfl) (by kernel_rfl) ?_; (repeat (go_big_quiet_step (fail))); refine wpQuiet_nil ?_; intro w3 hW; replace hW : Grew _ w3 := hW
      have Hg3 : Hid (Grew w1 w3) := Lib.hid (Hg.out.trans (Grew.trans (by (repeat (first | exact gR _ | refine gO ?_ _ | refine gA ?_ _ | refine gD ?_ | refine gN ?_ _))) hW))
      clear hW
      go_wp2
      go_roundw
      case rel => exact ⟨j + 1, by omega, by go_num, by rw [Hsn.out], Hg3.out⟩
      case measure => simp [intOf]; omega
    · have hje : j = A.length := by omega
      subst hje
      have Hf2 : Hid (cosS s A f = S) := Lib.hid (by rw [Hf.out, HS0.out])
      go_wp2
      go_ret
      exact ⟨ret_int Hf2.out.symm, Hg1.out.trans Hg.out⟩

end Go.Proofs.YtiihgpgpbgafiaaDoor.Fl

/- Check and Cost of the reference. -/
set_option linter.unusedSimpArgs false
set_option linter.unusedVariables false
namespace Go.Proofs.YtiihgpgpbgafiaaDoor.Fl
open Go.RowKit
attribute [local go_sem ↓] Go.wp_at_zero Go.wp_at_succ

end Go.Proofs.YtiihgpgpbgafiaaDoor.Fl

/- The residual network of the program. -/
set_option linter.unusedSimpArgs false
set_option linter.unusedVariables false
namespace Go.Proofs.YtiihgpgpbgafiaaDoor.Fl
open Go.RowKit
attribute [local go_sem ↓] Go.wp_at_zero Go.wp_at_succ

theorem Tryd.infoStep : (Tryd.prog.info? 120).map (fun i => (i.zero, i.size, i.bytes)) = some (some (.agg #[.int .i64 0, .int .i64 0, .int .i64 0, .int .i64 0, .int .i64 0, .bool false]), 6, 48) := by kernel_rfl
/-- The cells of a step. -/
def st1 (A : List Ark) (f : List Int) (i : Nat) (b : Bool) : List Value := [.int .i64 (sF A i b : Int), .int .i64 (sT A i b : Int), .int .i64 (cst A i), .int .i64 (sR A f i b), .int .i64 (i : Int), .bool b]
def stVs (A : List Ark) (f : List Int) (L : List (Nat × Bool)) : List Value := L.flatMap fun x => st1 A f x.1 x.2
theorem stVs_app (A : List Ark) (f : List Int) (L M : List (Nat × Bool)) : stVs A f (L ++ M) = stVs A f L ++ stVs A f M := by simp [stVs]
theorem stVs_get (A : List Ark) (f : List Int) : ∀ {L : List (Nat × Bool)} {t i : Nat} {b : Bool}, L[t]? = some (i, b) → ∀ k, k < 6 → (stVs A f L)[t * 6 + k]? = (st1 A f i b)[k]?
  | [], t, i, b, h, _, _ => by simp at h
  | x :: L, 0, i, b, h, k, hk => by
    simp at h
    subst h
    show (st1 A f i b ++ stVs A f L)[0 * 6 + k]? = _
    rw [Nat.zero_mul, Nat.zero_add, List.getElem?_append_left (by simp [st1]; exact hk)]
  | x :: L, t + 1, i, b, h, k, hk => by
    simp at h
    show (st1 A f x.1 x.2 ++ stVs A f L)[(t + 1) * 6 + k]? = _
    rw [List.getElem?_append_right (by simp [st1]; omega)]
    have e : (t + 1) * 6 + k - (st1 A f x.1 x.2).length = t * 6 + k := by simp [st1]; omega
    rw [e]
    exact stVs_get A f h k hk

set_option maxHeartbeats 1000000 in
theorem price_p (fr te co ro ar : Int) (b : Bool) (w : World) (hc : -1000 ≤ co ∧ co ≤ 1000) :
    Calls Tryd.prog 91 #[.agg #[.int .i64 fr, .int .i64 te, .int .i64 co, .int .i64 ro, .int .i64 ar, .bool b]] w fun e w' => e = .returned (.int .i64 (if b then -co else co)) ∧ Grew w w' := by
  obtain ⟨h1, h2⟩ := hc
  cases b
  · go_enter Tryd.func91, Tryd.ntmps91
    go_wp2
    go_ret
    exact ⟨rfl, by (repeat (first | exact gR _ | refine gO ?_ _ | refine gA ?_ _ | refine gD ?_ | refine gN ?_ _))⟩
  · go_enter Tryd.func91, Tryd.ntmps91
    go_wp2
    go_ret
    exact ⟨rfl, by (repeat (first | exact gR _ | refine gO ?_ _ | refine gA ?_ _ | refine gD ?_ | refine gN ?_ _))⟩

abbrev stRow (v : Value) (A : List Ark) (f : List Int) (L : List (Nat × Bool)) : Row := ⟨v, 120, 6, L.length, stVs A f L⟩
abbrev reRow (R : Nat) (v : Value) : Row := ⟨.slice (some ⟨R, 0, none⟩) 2 2, 116, 1, 2, [v, .func (.func 91) #[] #[]]⟩

abbrev rsRow (B : Nat) : Row := ⟨.slice (some ⟨B, 0, none⟩) 2 2, 116, 1, 2, [.slice none 0 0, .nilFunc]⟩
theorem own_form {w : World} {B : Nat} {rs : List Row} {k sz n : Nat} {v : Value} {e : TypeId} {vs : List Value} (h : Owns w B rs) (hk : rs[k]? = some ⟨v, e, sz, n, vs⟩) : ∃ p c, v = .slice p n c := by
  rcases (h.get hk).2 with ⟨g1, g2⟩ | ⟨g, cap, g1, _⟩
  · exact ⟨none, 0, by rw [g1, g2]⟩
  · exact ⟨_, _, g1⟩
theorem one_news {w : World} {ad : Addr} (v : Value) (h : w.cell? (ad.add 0) = some v) : ∀ b, some ad = some b → ∀ j u, [v][j]? = some u → w.cell? (b.add j) = some u := by
  intro b hb j u hj
  cases hb
  cases j with
  | zero => simp at hj; subst hj; exact h
  | succ j => simp at hj
theorem six_news {w : World} {g : Nat} {a b c d e f : Value} (h0 : w.cell? ⟨g, 0, none⟩ = some a) (h1 : w.cell? ⟨g, 1, none⟩ = some b) (h2 : w.cell? ⟨g, 2, none⟩ = some c) (h3 : w.cell? ⟨g, 3, none⟩ = some d) (h4 : w.cell? ⟨g, 4, none⟩ = some e) (h5 : w.cell? ⟨g, 5, none⟩ = some f) :
    ∀ q, some (⟨g, 0, none⟩ : Addr) = some q → ∀ j u, [a, b, c, d, e, f][j]? = some u → w.cell? (q.add j) = some u := by
  intro q hq j u hj
  cases hq
  rw [Addr.add_lit, Nat.zero_add]
  match j, hj with
  | 0, hj => simp at hj; subst hj; exact h0
  | 1, hj => simp at hj; subst hj; exact h1
  | 2, hj => simp at hj; subst hj; exact h2
  | 3, hj => simp at hj; subst hj; exact h3
  | 4, hj => simp at hj; subst hj; exact h4
  | 5, hj => simp at hj; subst hj; exact h5

set_option maxHeartbeats 16000000 in
theorem rest_p (p q r : Option Addr) (n cp m cq k cr : Nat) (s : List Int) (A : List Ark) (f : List Int) (w : World) (hA : Arks w q A) (hF : Ints w r f) (hm : A.length = m) (hk : f.length = k) (hV : vN s A) (hfit : Fit A f) :
    Calls Tryd.prog 84 #[.agg #[.slice p n cp, .slice q m cq], .slice r k cr] w fun e w' => Grew w w' ∧ ∃ v, e = .returned (.agg #[v, .func (.func 91) #[] #[]]) ∧ Owns w' w.heap.size [stRow v A f (resL A f m)] := by
  subst hm hk
  have HA := Lib.hid hA
  have HF := Lib.hid hF
  have HV := Lib.hid hV
  have Hfit := Lib.hid hfit
  have h2048 := hV.m
  have Hl := Lib.hid hfit.l
  have ham := hA.1
  have hfm := hF.1
  clear hA hF hV hfit
  go_enter Tryd.func84, Tryd.ntmps84
  go_wp2
  obtain ⟨w0, hw0⟩ : ∃ w0, (((w.alloc (.cells #[.slice p n cp, .slice q A.length cq] 31)).alloc (.cells #[.slice none 0 0, .nilFunc] 116)).alloc (.cells #[.slice none 0 0, .func (.func 91) #[] #[]] 116)) = w0 := ⟨_, rfl⟩
  have hO0 : Owns w0 (w.heap.size + 1) [stRow (.slice none 0 0) A f (resL A f 0), reRow (w.heap.size + 1 + 1) (.slice none 0 0), rsRow (w.heap.size + 1)] := by
    rw [← hw0]
    refine Owns.none ?_ _ _
    have h1 := (Owns.nil (w.alloc (.cells #[.slice p n cp, .slice q A.length cq] 31)) (w.heap.size + 1)).made (by simp) #[.slice none 0 0, .nilFunc] 116 1 2 (w.heap.size + 1) rfl (by decide) (by simp)
    exact h1.made (by simp) #[.slice none 0 0, .func (.func 91) #[] #[]] 116 1 2 (w.heap.size + 1 + 1) rfl (by decide) (by simp)
  have hg0 : Grew w w0 := by rw [← hw0]; (repeat (first | exact gR _ | refine gO ?_ _ | refine gA ?_ _ | refine gD ?_ | refine gN ?_ _))
  have HO0 := Lib.hid hO0
  have Hg0 := Lib.hid hg0
  rw [hw0]
  obtain ⟨R, hR⟩ : ∃ R, w.heap.size + 1 + 1 = R := ⟨_, rfl⟩
  rw [hR] at HO0 ⊢
  have HR := Lib.hid hR
  clear hw0 hO0 hg0 hR
  go_loopw [12] (fun v12 wr => ∃ (j : Nat) (pv : Option Addr) (cv : Nat), j ≤ A.length ∧ v12 = .int .i64 j ∧ Owns wr (w.heap.size + 1) [stRow (.slice pv (resL A f j).length cv) A f (resL A f j), reRow R (.slice pv (resL A f j).length cv), rsRow (w.heap.size + 1)] ∧ Grew w wr) (fun v12 _ => A.length - (intOf v12).toNat)
  case atStart => exact ⟨0, none, 0, Nat.zero_le _, rfl, HO0.out, Hg0.out⟩
  case round =>
    clear HO0 Hg0
    obtain ⟨j, pv, cv, hj, rfl, hO, hg⟩ := hrel
    have HO := Lib.hid hO
    have Hg := Lib.hid hg
    clear hO hg
    by_cases hlt : j < A.length
    · obtain ⟨b2, o2, rfl, hb2, c0, c1, c2, c3⟩ := (HA.out.grew Hg.out).open hlt
      have hjf : j < f.length := by have := Hl.out; omega
      obtain ⟨bf, of, hf3, hf4⟩ := HF.out.open
      obtain ⟨rfl, hbf0⟩ := hf3 (by omega)
      have df0 := Lib.hid (hf4 j hjf)
      have hfb := Hfit.out.b j hlt
      have hcb := (HV.out.a j hlt).2.2
      have hcap : (aK A j).cap = cap A j := rfl
      have hcos : (aK A j).cost = cst A j := rfl
      rw [HV.out.fr hlt] at c0
      rw [HV.out.ed hlt] at c1
      rw [hcap] at c2
      rw [hcos] at c3
      have Hlen := Lib.hid (resL_len A f j)
      have Hnx : Hid (resL A f (j + 1) = resL A f j ++ ((if ge f j < cap A j then [(j, false)] else []) ++ (if 0 < ge f j then [(j, true)] else []))) := Lib.hid rfl
      obtain ⟨L, hL⟩ : ∃ L, resL A f j = L := ⟨_, rfl⟩
      rw [hL] at HO Hlen Hnx
      obtain ⟨fj, hfj⟩ : ∃ x, ge f j = x := ⟨_, rfl⟩
      obtain ⟨cj, hcj⟩ : ∃ x, cap A j = x := ⟨_, rfl⟩
      obtain ⟨kj, hkj⟩ : ∃ x, cst A j = x := ⟨_, rfl⟩
      obtain ⟨u, hu⟩ : ∃ x, vF A j = x := ⟨_, rfl⟩
      obtain ⟨v, hv⟩ : ∃ x, vT A j = x := ⟨_, rfl⟩
      rw [hu] at c0
      rw [hv] at c1
      rw [hcj] at c2 hfb hcb
      rw [hkj] at c3 hcb
      rw [hfj] at df0 hfb
      have Hst0 : Hid (st1 A f j false = [.int .i64 (u : Int), .int .i64 (v : Int), .int .i64 kj, .int .i64 (cj - fj), .int .i64 (j : Int), .bool false]) := Lib.hid (by simp [st1, sF, sT, sR, hu, hv, hkj, hcj, hfj])
      have Hst1 : Hid (st1 A f j true = [.int .i64 (v : Int), .int .i64 (u : Int), .int .i64 kj, .int .i64 fj, .int .i64 (j : Int), .bool true]) := Lib.hid (by simp [st1, sF, sT, sR, hu, hv, hkj, hcj, hfj])
      rw [hfj, hcj] at Hnx
      have HL := Lib.hid hL
      clear hL hfj hcj hkj hu hv hf3 hf4 hcap hcos
      have hwr : IntKind.i64.wrap (cj - fj) = cj - fj := IntWalk.i64_in _ ⟨by omega, by omega⟩
      go_upto_region 5 with fail
      obtain ⟨w3, hw3⟩ : ∃ w3, wr.alloc (.cells #[.int .i64 (u : Int), .int .i64 (v : Int), .int .i64 cj, .int .i64 kj] 63) = w3 := ⟨_, rfl⟩
      obtain ⟨aw, haw⟩ : ∃ aw, wr.heap.size = aw := ⟨_, rfl⟩
      have z0 : w3.cell? ⟨aw, 0, none⟩ = some (.int .i64 (u : Int)) := by rw [← hw3, ← haw]; simp [go_sem]
      have z1 : w3.cell? ⟨aw, 1, none⟩ = some (.int .i64 (v : Int)) := by rw [← hw3, ← haw]; simp [go_sem]
      have z2 : w3.cell? ⟨aw, 2, none⟩ = some (.int .i64 cj) := by rw [← hw3, ← haw]; simp [go_sem]
      have z3 : w3.cell? ⟨aw, 3, none⟩ = some (.int .i64 kj) := by rw [← hw3, ← haw]; simp [go_sem]
      have hg3 : Grew wr w3 := by rw [← hw3]; (repeat (first | exact gR _ | refine gO ?_ _ | refine gA ?_ _ | refine gD ?_ | refine gN ?_ _))
      have ha3 : aw < w3.heap.size := by rw [← hw3, ← haw]; simp
      have HO3 : Hid (Owns w3 (w.heap.size + 1) [⟨.slice (some ⟨aw, 0, none⟩) 4 4, 63, 1, 4, [.int .i64 (u : Int), .int .i64 (v : Int), .int .i64 cj, .int .i64 kj]⟩, stRow (.slice pv L.length cv) A f L, reRow R (.slice pv L.length cv), rsRow (w.heap.size + 1)]) := Lib.hid (by rw [← hw3]; exact HO.out.made (by have := own_lt HO.out (j := 2) rfl; omega) #[.int .i64 (u : Int), .int .i64 (v : Int), .int .i64 cj, .int .i64 kj] 63 1 4 aw rfl (by decide) haw.symm)
      have Hg3 := Lib.hid (Hg.out.trans hg3)
      have df := Hg3.out.cellEq df0.out
      have hbf3 := Nat.lt_of_lt_of_le hbf0 Hg3.out.below.size
      rw [hw3, haw]
      clear hw3 haw hg3 c0 c1 c2 c3 HO Hg hb2
      refine wp_region_over (by kernel_rfl) (by kernel_rfl) ?_; (repeat (go_big_quiet_step (fail))); refine wpQuiet_nil ?_; intro w4 hW; replace hW : Grew _ w4 := hW
      have HO4 := Lib.hid (HO3.out.grew hW)
      have Hg4 := Lib.hid (Hg3.out.trans hW)
      replace z0 := hW.cellEq z0
      replace z1 := hW.cellEq z1
      replace z2 := hW.cellEq z2
      replace z3 := hW.cellEq z3
      replace df := hW.cellEq df
      have ha4 := Nat.lt_of_lt_of_le ha3 hW.below.size
      have hbf4 := Nat.lt_of_lt_of_le hbf3 hW.below.size
      clear hW HO3 Hg3 ha3 hbf3
      go_upto_if 23 with fail
      go_cut [6] (fun v6 wx => v6 = .int .i64 j ∧ ∃ (pv' : Option Addr) (cv' : Nat), Owns wx (w.heap.size + 1) [⟨.slice (some ⟨aw, 0, none⟩) 4 4, 63, 1, 4, [.int .i64 (u : Int), .int .i64 (v : Int), .int .i64 cj, .int .i64 kj]⟩, stRow (.slice pv' (L ++ (if fj < cj then [(j, false)] else [])).length cv') A f (L ++ (if fj < cj then [(j, false)] else [])), reRow R (.slice pv' (L ++ (if fj < cj then [(j, false)] else [])).length cv'), rsRow (w.heap.size + 1)] ∧ Grew w wx)
      case first =>
        by_cases hfc : fj < cj
        · have hfc0 := hfc
          have r0 := (own_blk HO4.out (j := 2) rfl).2.2.2.2 0 _ rfl
          have hLl := Hlen.out
          have hsw := Hg4.out.below.size
          go_upto_region 6 with fail
          refine wp_region_T (s := 20) (S := fun w' => w'.cell? ⟨R, 0, none⟩ = some (.slice pv L.length cv) ∧ w'.cell? ⟨aw, 0, none⟩ = some (.int .i64 (u : Int)) ∧ w'.cell? ⟨aw, 1, none⟩ = some (.int .i64 (v : Int)) ∧ w'.cell? ⟨aw, 2, none⟩ = some (.int .i64 cj) ∧ w'.cell? ⟨aw, 3, none⟩ = some (.int .i64 kj) ∧ w'.cell? ⟨bf, of + j, none⟩ = some (.int .i64 fj)) (by kernel_rfl) ⟨r0, z0, z1, z2, z3, df⟩ (fun hH => ?_)
          refine wpAnyT_takeL (i := 0) (v := ?_) rfl (by kernel_rfl) (by kernel_rfl) (by kernel_rfl) (by kernel_rfl) (fun _ _ _ h => h) (Or.inl ⟨by rfl, ?_⟩) (by assumption) ?_
          rotate_left
          · (intro w hSw; (try dsimp only at hSw); go_simp; (try with_reducible rfl))
          (try simp only [Act.put, List.setIfInBounds_toArray, List.set_cons_zero, List.set_cons_succ])
          refine wpAnyT_takeL (i := 1) (v := ?_) rfl (by kernel_rfl) (by kernel_rfl) (by kernel_rfl) (by kernel_rfl) (fun _ _ _ h => h) (Or.inl ⟨by rfl, ?_⟩) (by assumption) ?_
          rotate_left
          · (intro w hSw; (try dsimp only at hSw); go_simp; (try with_reducible rfl))
          (try simp only [Act.put, List.setIfInBounds_toArray, List.set_cons_zero, List.set_cons_succ])
          refine wpAnyT_takeL (i := 2) (v := ?_) rfl (by kernel_rfl) (by kernel_rfl) (by kernel_rfl) (by kernel_rfl) (fun _ _ _ h => h) (Or.inl ⟨by rfl, ?_⟩) (by assumption) ?_
          rotate_left
          · (intro w hSw; (try dsimp only at hSw); go_simp; (try with_reducible rfl))
          (try simp only [Act.put, List.setIfInBounds_toArray, List.set_cons_zero, List.set_cons_succ])
          refine wpAnyT_takeL (i := 3) (v := ?_) rfl (by kernel_rfl) (by kernel_rfl) (by kernel_rfl) (by kernel_rfl) (fun _ _ _ h => h) (Or.inl ⟨by rfl, ?_⟩) (by assumption) ?_
          rotate_left
          · (intro w hSw; (try dsimp only at hSw); go_simp; (try with_reducible rfl))
          (try simp only [Act.put, List.setIfInBounds_toArray, List.set_cons_zero, List.set_cons_succ])
          refine wpAnyT_takeL (i := 4) (v := ?_) rfl (by kernel_rfl) (by kernel_rfl) (by kernel_rfl) (by kernel_rfl) (fun _ _ _ h => h) (Or.inl ⟨by rfl, ?_⟩) (by assumption) ?_
          rotate_left
          · (intro w hSw; (try dsimp only at hSw); go_simp; (try with_reducible rfl))
          (try simp only [Act.put, List.setIfInBounds_toArray, List.set_cons_zero, List.set_cons_succ])
          refine wpAnyT_takeL (i := 5) (v := ?_) rfl (by kernel_rfl) (by kernel_rfl) (by kernel_rfl) (by kernel_rfl) (fun _ _ _ h => h) (Or.inl ⟨by rfl, ?_⟩) (by assumption) ?_
          rotate_left
          · (intro w hSw; (try dsimp only at hSw); go_simp; (try with_reducible rfl))
          (try simp only [Act.put, List.setIfInBounds_toArray, List.set_cons_zero, List.set_cons_succ])
          refine wpAnyT_takeL (i := 6) (v := ?_) rfl (by kernel_rfl) (by kernel_rfl) (by kernel_rfl) (by kernel_rfl) (fun _ _ _ h => h) (Or.inl ⟨by rfl, ?_⟩) (by assumption) ?_
          rotate_left
          · (intro w hSw; (try dsimp only at hSw); go_simp; (try with_reducible rfl))
          (try simp only [Act.put, List.setIfInBounds_toArray, List.set_cons_zero, List.set_cons_succ])
          refine wpAnyT_takeL (i := 7) (v := ?_) rfl (by kernel_rfl) (by kernel_rfl) (by kernel_rfl) (by kernel_rfl) (fun _ _ _ h => h) (Or.inl ⟨by rfl, ?_⟩) (by assumption) ?_
          rotate_left
          · (intro w hSw; (try dsimp only at hSw); go_simp; (try with_reducible rfl))
          (try simp only [Act.put, List.setIfInBounds_toArray, List.set_cons_zero, List.set_cons_succ])
          refine wpAnyT_takeL (i := 8) (v := ?_) rfl (by kernel_rfl) (by kernel_rfl) (by kernel_rfl) (by kernel_rfl) (fun _ _ _ h => h) (Or.inl ⟨by rfl, ?_⟩) (by assumption) ?_
          rotate_left
          · (intro w hSw; (try dsimp only at hSw); go_simp; (try with_reducible rfl))
          (try simp only [Act.put, List.setIfInBounds_toArray, List.set_cons_zero, List.set_cons_succ])
          refine wpAnyT_takeL (i := 9) (v := ?_) rfl (by kernel_rfl) (by kernel_rfl) (by kernel_rfl) (by kernel_rfl) (fun _ _ _ h => h) (Or.inl ⟨by rfl, ?_⟩) (by assumption) ?_
          rotate_left
          · (intro w hSw; (try dsimp only at hSw); go_simp; (try with_reducible rfl))
          (try simp only [Act.put, List.setIfInBounds_toArray, List.set_cons_zero, List.set_cons_succ])
          refine wpAnyT_takeL (i := 10) (v := ?_) rfl (by kernel_rfl) (by kernel_rfl) (by kernel_rfl) (by kernel_rfl) (fun _ _ _ h => h) (Or.inl ⟨by rfl, ?_⟩) (by assumption) ?_
          rotate_left
          · (intro w hSw; (try dsimp only at hSw); go_simp; (try with_reducible rfl))
          (try simp only [Act.put, List.setIfInBounds_toArray, List.set_cons_zero, List.set_cons_succ])
          refine wpAnyT_takeL (i := 11) (v := ?_) rfl (by kernel_rfl) (by kernel_rfl) (by kernel_rfl) (by kernel_rfl) (fun _ _ _ h => h) (Or.inl ⟨by rfl, ?_⟩) (by assumption) ?_
          rotate_left
          · (intro w hSw; (try dsimp only at hSw); go_simp; (try with_reducible rfl))
          (try simp only [Act.put, List.setIfInBounds_toArray, List.set_cons_zero, List.set_cons_succ])
          refine wpAnyT_takeL (i := 12) (v := ?_) rfl (by kernel_rfl) (by kernel_rfl) (by kernel_rfl) (by kernel_rfl) (fun _ _ _ h => h) (Or.inl ⟨by rfl, ?_⟩) (by assumption) ?_
          rotate_left
          · (intro w hSw; (try dsimp only at hSw); go_simp; (try with_reducible rfl))
          (try simp only [Act.put, List.setIfInBounds_toArray, List.set_cons_zero, List.set_cons_succ])
          refine wpAnyT_takeL (i := 13) (v := ?_) rfl (by kernel_rfl) (by kernel_rfl) (by kernel_rfl) (by kernel_rfl) (fun _ _ _ h => h) (Or.inl ⟨by rfl, ?_⟩) (by assumption) ?_
          rotate_left
          · (intro w hSw; (try dsimp only at hSw); go_simp; (try with_reducible rfl))
          (try simp only [Act.put, List.setIfInBounds_toArray, List.set_cons_zero, List.set_cons_succ])
          refine wpAnyT_takeL (i := 14) (v := ?_) rfl (by kernel_rfl) (by kernel_rfl) (by kernel_rfl) (by kernel_rfl) (fun _ _ _ h => h) (Or.inl ⟨by rfl, ?_⟩) (by assumption) ?_
          rotate_left
          · (intro w hSw; (try dsimp only at hSw); go_simp; (try with_reducible rfl))
          (try simp only [Act.put, List.setIfInBounds_toArray, List.set_cons_zero, List.set_cons_succ])
          refine wpAnyT_takeL (i := 15) (v := ?_) rfl (by kernel_rfl) (by kernel_rfl) (by kernel_rfl) (by kernel_rfl) (fun _ _ _ h => h) (Or.inl ⟨by rfl, ?_⟩) (by assumption) ?_
          rotate_left
          · (intro w hSw; (try dsimp only at hSw); go_simp; (try with_reducible rfl))
          (try simp only [Act.put, List.setIfInBounds_toArray, List.set_cons_zero, List.set_cons_succ])
          refine wpAnyT_takeL (i := 16) (v := ?_) rfl (by kernel_rfl) (by kernel_rfl) (by kernel_rfl) (by kernel_rfl) (fun _ _ _ h => h) (Or.inl ⟨by rfl, ?_⟩) (by assumption) ?_
          rotate_left
          · (intro w hSw; (try dsimp only at hSw); go_simp; (try with_reducible rfl))
          (try simp only [Act.put, List.setIfInBounds_toArray, List.set_cons_zero, List.set_cons_succ])
          refine wpAnyT_all (rs := [17]) (by kernel_rfl) (by simp) (AllT.consL (i := 17) rfl (fun K hK => ?_) AllT.nil)
          go_simp
          refine hK.out _ _ ?_ (fun hH => ?_)
          · (first | (simp [go_sem, ↓IntWalk.iteOmega, *]; done) | go_keep)
          clear hK K
          (try simp only [Act.put, List.setIfInBounds_toArray, List.set_cons_zero, List.set_cons_succ])
          refine wpAnyT_all (rs := [18]) (by kernel_rfl) (by simp) (AllT.consL (i := 18) rfl (fun K hK => ?_) AllT.nil)
          refine step_append_owns rfl _ _ 113 (by rfl) 120 6 48 (.agg #[.int .i64 0, .int .i64 0, .int .i64 0, .int .i64 0, .int .i64 0, .bool false]) Tryd.underlying113 Tryd.infoStep rfl (by decide) (w.heap.size + 1) _ 1 _ _ _ (HO4.out.grew (by (repeat (first | exact gR _ | refine gO ?_ _ | refine gA ?_ _ | refine gD ?_ | refine gN ?_ _)))) rfl (by rfl) _ 1 1 (by rfl) [.int .i64 (u : Int), .int .i64 (v : Int), .int .i64 kj, .int .i64 (cj - fj), .int .i64 (j : Int), .bool false] rfl (fun h => by cases h) (six_news (by (simp [go_sem, ↓IntWalk.iteOmega])) (by (simp [go_sem, ↓IntWalk.iteOmega])) (by (simp [go_sem, ↓IntWalk.iteOmega])) (by (simp [go_sem, ↓IntWalk.iteOmega])) (by (simp [go_sem, ↓IntWalk.iteOmega])) (by (simp [go_sem, ↓IntWalk.iteOmega]))) (by simp [Value.oneCell']) (by simp only [maxLen]; omega) (by omega) (by first | rfl | omega | (simp <;> omega)) ?_
          intro v1 w6 hO1 hg1 hb1 _
          obtain ⟨p1, c1, rfl⟩ := own_form hO1 (k := 1) rfl
          have hba := own_blk hO1 (j := 0) rfl
          have q0 := hba.2.2.2.2 0 _ rfl
          have q1 := hba.2.2.2.2 1 _ rfl
          have q2 := hba.2.2.2.2 2 _ rfl
          have q3 := hba.2.2.2.2 3 _ rfl
          have q4 : w6.cell? ⟨bf, of + j, none⟩ = some (.int .i64 fj) := by
            rw [grownBy_cell hg1 (of + j) (by simp; omega) (fun g hg e => by have := hb1 g hg; omega)]
            exact Grew.cellEq (by (repeat (first | exact gR _ | refine gO ?_ _ | refine gA ?_ _ | refine gD ?_ | refine gN ?_ _))) df
          have hbk := own_blk hO1 (j := 2) rfl
          have q5 := hbk.2.2.2.2 0 _ rfl
          have q6 := hbk.2.2.2.1 0
          have q7 := hbk.2.2.1
          refine hK.out _ _ ⟨q5, q0, q1, q2, q3, q4⟩ (fun hH => ?_)
          clear hK K
          (try simp only [Act.put, List.setIfInBounds_toArray, List.set_cons_zero, List.set_cons_succ])
          have Hg6 := Lib.hid (Grew.grownBy (w0 := w) (Hg4.out.trans (by (repeat (first | exact gR _ | refine gO ?_ _ | refine gA ?_ _ | refine gD ?_ | refine gN ?_ _)))) hg1 (fun k hk => by have := hb1 k hk; omega))
          have HO6 := Lib.hid hO1
          clear hO1 hg1 hb1 hba hbk
          refine wpAnyT_takeL (i := 19) (v := ?_) rfl (by kernel_rfl) (by kernel_rfl) (by kernel_rfl) (by kernel_rfl) (fun _ _ _ h => h) (Or.inl ⟨by rfl, ?_⟩) (by assumption) ?_
          rotate_left
          · (intro w hSw; (try dsimp only at hSw); go_simp; (try with_reducible rfl))
          (try simp only [Act.put, List.setIfInBounds_toArray, List.set_cons_zero, List.set_cons_succ])
          refine wpAnyT_all (rs := [20]) (by kernel_rfl) (by simp) (AllT.lastL rfl (fun K hK => ?_))
          go_simp
          refine hK.out _ _ ?_
          clear hK K
          (try simp only [Act.put, List.setIfInBounds_toArray, List.set_cons_zero, List.set_cons_succ])
          refine wpAnyT_done (by kernel_rfl) ?_ _
          have HO7 := Lib.hid (HO6.out.set (k := 2) rfl 0 (.slice p1 (L.length + 1) c1))
          have Hg7 := Lib.hid (HO6.out.setGrew (w0 := w) (Nat.le_succ _) Hg6.out (k := 2) rfl 0 (.slice p1 (L.length + 1) c1))
          have hlA : (L ++ [(j, false)]).length = L.length + 1 := by rw [List.length_append, List.length_singleton]
          have hsA : stVs A f (L ++ [(j, false)]) = stVs A f L ++ [.int .i64 (u : Int), .int .i64 (v : Int), .int .i64 kj, .int .i64 (cj - fj), .int .i64 (j : Int), .bool false] := by rw [stVs_app]; show _ ++ (st1 A f j false ++ []) = _; rw [List.append_nil, Hst0.out]
          have HlA := Lib.hid hlA
          have HsA := Lib.hid hsA
          clear hlA hsA
          go_wp2_with fail
          go_meet
          have e : L ++ (if fj < cj then [(j, false)] else []) = L ++ [(j, false)] := by rw [if_pos hfc]
          rw [e, HlA.out]
          refine ⟨rfl, p1, c1, ?_, Hg7.out⟩
          have h := HO7.out
          unfold stRow
          rw [HsA.out, HlA.out]
          exact h
        · go_wp2_with fail
          go_meet
          have e : L ++ (if fj < cj then [(j, false)] else []) = L := by rw [if_neg (by omega), List.append_nil]
          rw [e]
          exact ⟨rfl, pv, cv, HO4.out, Hg4.out⟩
      case rest =>
        clear z0 z1 z2 z3 df ha4 hbf4 HO4 Hg4
        obtain ⟨rfl, pv2, cv2, hO5, hg5⟩ := hcut
        obtain ⟨L2, hL2⟩ : ∃ L2, L ++ (if fj < cj then [(j, false)] else []) = L2 := ⟨_, rfl⟩
        rw [hL2] at hO5
        have HL2 : Hid (resL A f (j + 1) = L2 ++ (if 0 < fj then [(j, true)] else [])) := Lib.hid (by rw [Hnx.out, ← hL2, List.append_assoc])
        replace Hlen : Hid (L2.length ≤ 2 * j + 1) := Lib.hid (by
          have := Hlen.out
          rw [← hL2, List.length_append]
          split <;> simp <;> omega)
        have HO5 := Lib.hid hO5
        have Hg5 := Lib.hid hg5
        clear hL2 hO5 hg5
        have df := Hg5.out.cellEq df0.out
        have hbf5 := Nat.lt_of_lt_of_le hbf0 Hg5.out.below.size
        have hba5 := own_blk HO5.out (j := 0) rfl
        have ha5 := hba5.2.2.1
        have z0 := hba5.2.2.2.2 0 _ rfl
        have z1 := hba5.2.2.2.2 1 _ rfl
        have z3 := hba5.2.2.2.2 3 _ rfl
        clear hba5
        by_cases hf0 : 0 < fj
        · have hf00 := hf0
          have r0 := (own_blk HO5.out (j := 2) rfl).2.2.2.2 0 _ rfl
          have hLl := Hlen.out
          have hsw := Hg5.out.below.size
          go_upto_region 8 with fail
          refine wp_region_T (s := 17) (S := fun w' => w'.cell? ⟨R, 0, none⟩ = some (.slice pv2 L2.length cv2) ∧ w'.cell? ⟨aw, 0, none⟩ = some (.int .i64 (u : Int)) ∧ w'.cell? ⟨aw, 1, none⟩ = some (.int .i64 (v : Int)) ∧ w'.cell? ⟨aw, 3, none⟩ = some (.int .i64 kj) ∧ w'.cell? ⟨bf, of + j, none⟩ = some (.int .i64 fj)) (by kernel_rfl) ⟨r0, z0, z1, z3, df⟩ (fun hH => ?_)
          refine wpAnyT_takeL (i := 0) (v := ?_) rfl (by kernel_rfl) (by kernel_rfl) (by kernel_rfl) (by kernel_rfl) (fun _ _ _ h => h) (Or.inl ⟨by rfl, ?_⟩) (by assumption) ?_
          rotate_left
          · (intro w hSw; (try dsimp only at hSw); go_simp; (try with_reducible rfl))
          (try simp only [Act.put, List.setIfInBounds_toArray, List.set_cons_zero, List.set_cons_succ])
          refine wpAnyT_takeL (i := 1) (v := ?_) rfl (by kernel_rfl) (by kernel_rfl) (by kernel_rfl) (by kernel_rfl) (fun _ _ _ h => h) (Or.inl ⟨by rfl, ?_⟩) (by assumption) ?_
          rotate_left
          · (intro w hSw; (try dsimp only at hSw); go_simp; (try with_reducible rfl))
          (try simp only [Act.put, List.setIfInBounds_toArray, List.set_cons_zero, List.set_cons_succ])
          refine wpAnyT_takeL (i := 2) (v := ?_) rfl (by kernel_rfl) (by kernel_rfl) (by kernel_rfl) (by kernel_rfl) (fun _ _ _ h => h) (Or.inl ⟨by rfl, ?_⟩) (by assumption) ?_
          rotate_left
          · (intro w hSw; (try dsimp only at hSw); go_simp; (try with_reducible rfl))
          (try simp only [Act.put, List.setIfInBounds_toArray, List.set_cons_zero, List.set_cons_succ])
          refine wpAnyT_takeL (i := 3) (v := ?_) rfl (by kernel_rfl) (by kernel_rfl) (by kernel_rfl) (by kernel_rfl) (fun _ _ _ h => h) (Or.inl ⟨by rfl, ?_⟩) (by assumption) ?_
          rotate_left
          · (intro w hSw; (try dsimp only at hSw); go_simp; (try with_reducible rfl))
          (try simp only [Act.put, List.setIfInBounds_toArray, List.set_cons_zero, List.set_cons_succ])
          refine wpAnyT_takeL (i := 4) (v := ?_) rfl (by kernel_rfl) (by kernel_rfl) (by kernel_rfl) (by kernel_rfl) (fun _ _ _ h => h) (Or.inl ⟨by rfl, ?_⟩) (by assumption) ?_
          rotate_left
          · (intro w hSw; (try dsimp only at hSw); go_simp; (try with_reducible rfl))
          (try simp only [Act.put, List.setIfInBounds_toArray, List.set_cons_zero, List.set_cons_succ])
          refine wpAnyT_takeL (i := 5) (v := ?_) rfl (by kernel_rfl) (by kernel_rfl) (by kernel_rfl) (by kernel_rfl) (fun _ _ _ h => h) (Or.inl ⟨by rfl, ?_⟩) (by assumption) ?_
          rotate_left
          · (intro w hSw; (try dsimp only at hSw); go_simp; (try with_reducible rfl))
          (try simp only [Act.put, List.setIfInBounds_toArray, List.set_cons_zero, List.set_cons_succ])
          refine wpAnyT_takeL (i := 6) (v := ?_) rfl (by kernel_rfl) (by kernel_rfl) (by kernel_rfl) (by kernel_rfl) (fun _ _ _ h => h) (Or.inl ⟨by rfl, ?_⟩) (by assumption) ?_
          rotate_left
          · (intro w hSw; (try dsimp only at hSw); go_simp; (try with_reducible rfl))
          (try simp only [Act.put, List.setIfInBounds_toArray, List.set_cons_zero, List.set_cons_succ])
          refine wpAnyT_takeL (i := 7) (v := ?_) rfl (by kernel_rfl) (by kernel_rfl) (by kernel_rfl) (by kernel_rfl) (fun _ _ _ h => h) (Or.inl ⟨by rfl, ?_⟩) (by assumption) ?_
          rotate_left
          · (intro w hSw; (try dsimp only at hSw); go_simp; (try with_reducible rfl))
          (try simp only [Act.put, List.setIfInBounds_toArray, List.set_cons_zero, List.set_cons_succ])
          refine wpAnyT_takeL (i := 8) (v := ?_) rfl (by kernel_rfl) (by kernel_rfl) (by kernel_rfl) (by kernel_rfl) (fun _ _ _ h => h) (Or.inl ⟨by rfl, ?_⟩) (by assumption) ?_
          rotate_left
          · (intro w hSw; (try dsimp only at hSw); go_simp; (try with_reducible rfl))
          (try simp only [Act.put, List.setIfInBounds_toArray, List.set_cons_zero, List.set_cons_succ])
          refine wpAnyT_takeL (i := 9) (v := ?_) rfl (by kernel_rfl) (by kernel_rfl) (by kernel_rfl) (by kernel_rfl) (fun _ _ _ h => h) (Or.inl ⟨by rfl, ?_⟩) (by assumption) ?_
          rotate_left
          · (intro w hSw; (try dsimp only at hSw); go_simp; (try with_reducible rfl))
          (try simp only [Act.put, List.setIfInBounds_toArray, List.set_cons_zero, List.set_cons_succ])
          refine wpAnyT_takeL (i := 10) (v := ?_) rfl (by kernel_rfl) (by kernel_rfl) (by kernel_rfl) (by kernel_rfl) (fun _ _ _ h => h) (Or.inl ⟨by rfl, ?_⟩) (by assumption) ?_
          rotate_left
          · (intro w hSw; (try dsimp only at hSw); go_simp; (try with_reducible rfl))
          (try simp only [Act.put, List.setIfInBounds_toArray, List.set_cons_zero, List.set_cons_succ])
          refine wpAnyT_takeL (i := 11) (v := ?_) rfl (by kernel_rfl) (by kernel_rfl) (by kernel_rfl) (by kernel_rfl) (fun _ _ _ h => h) (Or.inl ⟨by rfl, ?_⟩) (by assumption) ?_
          rotate_left
          · (intro w hSw; (try dsimp only at hSw); go_simp; (try with_reducible rfl))
          (try simp only [Act.put, List.setIfInBounds_toArray, List.set_cons_zero, List.set_cons_succ])
          refine wpAnyT_takeL (i := 12) (v := ?_) rfl (by kernel_rfl) (by kernel_rfl) (by kernel_rfl) (by kernel_rfl) (fun _ _ _ h => h) (Or.inl ⟨by rfl, ?_⟩) (by assumption) ?_
          rotate_left
          · (intro w hSw; (try dsimp only at hSw); go_simp; (try with_reducible rfl))
          (try simp only [Act.put, List.setIfInBounds_toArray, List.set_cons_zero, List.set_cons_succ])
          refine wpAnyT_takeL (i := 13) (v := ?_) rfl (by kernel_rfl) (by kernel_rfl) (by kernel_rfl) (by kernel_rfl) (fun _ _ _ h => h) (Or.inl ⟨by rfl, ?_⟩) (by assumption) ?_
          rotate_left
          · (intro w hSw; (try dsimp only at hSw); go_simp; (try with_reducible rfl))
          (try simp only [Act.put, List.setIfInBounds_toArray, List.set_cons_zero, List.set_cons_succ])
          refine wpAnyT_all (rs := [14]) (by kernel_rfl) (by simp) (AllT.consL (i := 14) rfl (fun K hK => ?_) AllT.nil)
          go_simp
          refine hK.out _ _ ?_ (fun hH => ?_)
          · (first | (simp [go_sem, ↓IntWalk.iteOmega, *]; done) | go_keep)
          clear hK K
          (try simp only [Act.put, List.setIfInBounds_toArray, List.set_cons_zero, List.set_cons_succ])
          refine wpAnyT_all (rs := [15]) (by kernel_rfl) (by simp) (AllT.consL (i := 15) rfl (fun K hK => ?_) AllT.nil)
          refine step_append_owns rfl _ _ 113 (by rfl) 120 6 48 (.agg #[.int .i64 0, .int .i64 0, .int .i64 0, .int .i64 0, .int .i64 0, .bool false]) Tryd.underlying113 Tryd.infoStep rfl (by decide) (w.heap.size + 1) _ 1 _ _ _ (HO5.out.grew (by (repeat (first | exact gR _ | refine gO ?_ _ | refine gA ?_ _ | refine gD ?_ | refine gN ?_ _)))) rfl (by rfl) _ 1 1 (by rfl) [.int .i64 (v : Int), .int .i64 (u : Int), .int .i64 kj, .int .i64 fj, .int .i64 (j : Int), .bool true] rfl (fun h => by cases h) (six_news (by (simp [go_sem, ↓IntWalk.iteOmega])) (by (simp [go_sem, ↓IntWalk.iteOmega])) (by (simp [go_sem, ↓IntWalk.iteOmega])) (by (simp [go_sem, ↓IntWalk.iteOmega])) (by (simp [go_sem, ↓IntWalk.iteOmega])) (by (simp [go_sem, ↓IntWalk.iteOmega]))) (by simp [Value.oneCell']) (by simp only [maxLen]; omega) (by omega) (by first | rfl | omega | (simp <;> omega)) ?_
          intro v1 w6 hO1 hg1 hb1 _
          obtain ⟨p1, c1, rfl⟩ := own_form hO1 (k := 1) rfl
          have hba := own_blk hO1 (j := 0) rfl
          have q0 := hba.2.2.2.2 0 _ rfl
          have q1 := hba.2.2.2.2 1 _ rfl
          have q3 := hba.2.2.2.2 3 _ rfl
          have q4 : w6.cell? ⟨bf, of + j, none⟩ = some (.int .i64 fj) := by
            rw [grownBy_cell hg1 (of + j) (by simp; omega) (fun g hg e => by have := hb1 g hg; omega)]
            exact Grew.cellEq (by (repeat (first | exact gR _ | refine gO ?_ _ | refine gA ?_ _ | refine gD ?_ | refine gN ?_ _))) df
          have hbk := own_blk hO1 (j := 2) rfl
          have q5 := hbk.2.2.2.2 0 _ rfl
          have q6 := hbk.2.2.2.1 0
          have q7 := hbk.2.2.1
          refine hK.out _ _ ⟨q5, q0, q1, q3, q4⟩ (fun hH => ?_)
          clear hK K
          (try simp only [Act.put, List.setIfInBounds_toArray, List.set_cons_zero, List.set_cons_succ])
          have Hg6 := Lib.hid (Grew.grownBy (w0 := w) (Hg5.out.trans (by (repeat (first | exact gR _ | refine gO ?_ _ | refine gA ?_ _ | refine gD ?_ | refine gN ?_ _)))) hg1 (fun k hk => by have := hb1 k hk; omega))
          have HO6 := Lib.hid hO1
          clear hO1 hg1 hb1 hba hbk
          refine wpAnyT_takeL (i := 16) (v := ?_) rfl (by kernel_rfl) (by kernel_rfl) (by kernel_rfl) (by kernel_rfl) (fun _ _ _ h => h) (Or.inl ⟨by rfl, ?_⟩) (by assumption) ?_
          rotate_left
          · (intro w hSw; (try dsimp only at hSw); go_simp; (try with_reducible rfl))
          (try simp only [Act.put, List.setIfInBounds_toArray, List.set_cons_zero, List.set_cons_succ])
          refine wpAnyT_all (rs := [17]) (by kernel_rfl) (by simp) (AllT.lastL rfl (fun K hK => ?_))
          go_simp
          refine hK.out _ _ ?_
          clear hK K
          (try simp only [Act.put, List.setIfInBounds_toArray, List.set_cons_zero, List.set_cons_succ])
          refine wpAnyT_done (by kernel_rfl) ?_ _
          have HO7 := Lib.hid (HO6.out.set (k := 2) rfl 0 (.slice p1 (L2.length + 1) c1))
          have Hg7 := Lib.hid (HO6.out.setGrew (w0 := w) (Nat.le_succ _) Hg6.out (k := 2) rfl 0 (.slice p1 (L2.length + 1) c1))
          have hlA : (L2 ++ [(j, true)]).length = L2.length + 1 := by rw [List.length_append, List.length_singleton]
          have hsA : stVs A f (L2 ++ [(j, true)]) = stVs A f L2 ++ [.int .i64 (v : Int), .int .i64 (u : Int), .int .i64 kj, .int .i64 fj, .int .i64 (j : Int), .bool true] := by rw [stVs_app]; show _ ++ (st1 A f j true ++ []) = _; rw [List.append_nil, Hst1.out]
          have HlA := Lib.hid hlA
          have HsA := Lib.hid hsA
          clear hlA hsA
          go_wp2
          go_roundw
          case rel =>
            have e : resL A f (j + 1) = L2 ++ [(j, true)] := by rw [HL2.out, if_pos hf0]
            refine ⟨j + 1, p1, c1, by omega, by go_num, ?_, Hg7.out⟩
            have h := HO7.out.tail
            rw [e]
            unfold stRow
            rw [HsA.out, HlA.out]
            exact h
          case measure => simp [intOf]; omega
        · have HO8 : Hid (Owns wc (w.heap.size + 1) [stRow (.slice pv2 (resL A f (j + 1)).length cv2) A f (resL A f (j + 1)), reRow R (.slice pv2 (resL A f (j + 1)).length cv2), rsRow (w.heap.size + 1)]) := Lib.hid (by
            have e : resL A f (j + 1) = L2 := by rw [HL2.out, if_neg hf0, List.append_nil]
            rw [e]
            exact HO5.out.tail)
          go_wp2
          go_roundw
          case rel => exact ⟨j + 1, pv2, cv2, by omega, by go_num, HO8.out, Hg5.out⟩
          case measure => simp [intOf]; omega
    · have hje : j = A.length := by omega
      subst hje
      have hbr := own_blk HO.out (j := 1) rfl
      have y0 := hbr.2.2.2.2 0 _ rfl
      have y1 := hbr.2.2.2.2 1 _ rfl
      have hbs := own_blk HO.out (j := 2) rfl
      have x0 := hbs.2.2.2.2 0 _ rfl
      have x1 := hbs.2.2.2.2 1 _ rfl
      have x2 := hbs.2.2.2.1 0
      have x3 := hbs.2.2.2.1 1
      have x4 := hbs.2.2.1
      have x5 := hbr.2.2.1
      clear hbr hbs
      go_wp2
      refine bodyPost_ret (v := .agg #[.slice pv (resL A f A.length).length cv, .func (.func 91) #[] #[]]) (by simp [results, Tryd.results84, go_sem, x0, x1]) rfl ?_
      have h1 := (HO.out.set (k := 2) rfl 0 (.slice pv (resL A f A.length).length cv)).set (k := 2) rfl 1 (.func (.func 91) #[] #[])
      have h2 := Owns.setGrew HO.out (Nat.le_succ _) Hg.out (k := 2) rfl 0 (.slice pv (resL A f A.length).length cv)
      have h3 := Owns.setGrew (HO.out.set (k := 2) rfl 0 (.slice pv (resL A f A.length).length cv)) (Nat.le_succ _) h2 (k := 2) rfl 1 (.func (.func 91) #[] #[])
      exact ⟨h3, _, rfl, (Owns.tail_of (xs := [_, _]) (h1.perm (List.perm_append_comm (l₁ := [_]) (l₂ := [_, _])))).base (Nat.le_succ _)⟩
end Go.Proofs.YtiihgpgpbgafiaaDoor.Fl

/- Rounds of relaxing from labels 0, plain. -/
set_option linter.unusedSimpArgs false
set_option linter.unusedVariables false
namespace Go.Proofs.YtiihgpgpbgafiaaDoor.Fl

/-- In round k (k rounds are done), j steps having been looked at. -/
structure CyS (V : Nat) (A : List Ark) (f : List Int) (L : List (Nat × Bool)) (d : List Int) (k j : Nat) (changed : Bool) : Prop where
  len : d.length = V
  bd : ∀ v, v < V → -(1000 * ((k : Int) * 4096 + j)) ≤ ge d v ∧ ge d v ≤ 1000 * ((k : Int) * 4096 + j)
  un : changed = false → ∀ t, t < j → ∀ i b, L[t]? = some (i, b) → ge d (sT A i b) ≤ ge d (sF A i b) + sC A i b
  gh : ∀ π, Pot A f π → ∃ ch, BF V 1152921504606846976 π d ch ∧ Rd A L d ch (k + 1) j ∧ (changed = true → ∃ v, v < V ∧ k + 2 ≤ (ch v).length)
/-- k rounds are done, each of which has changed something. -/
structure CyO (V : Nat) (A : List Ark) (f : List Int) (L : List (Nat × Bool)) (d : List Int) (k : Nat) : Prop where
  len : d.length = V
  bd : ∀ v, v < V → -(1000 * ((k : Int) * 4096)) ≤ ge d v ∧ ge d v ≤ 1000 * ((k : Int) * 4096)
  gh : ∀ π, Pot A f π → ∃ ch, BF V 1152921504606846976 π d ch ∧ Rd A L d ch (k + 1) 0 ∧ (0 < k → ∃ v, v < V ∧ k + 1 ≤ (ch v).length)
theorem CyO.begin (V : Nat) (A : List Ark) (f : List Int) (L : List (Nat × Bool)) : CyO V A f L (List.replicate V 0) 0 := by
  have h0 : ∀ v, ge (List.replicate V 0) v = 0 := fun v => by
    unfold ge
    rw [List.getD_eq_getElem?_getD, List.getElem?_replicate]
    split <;> rfl
  exact ⟨by simp, fun v _ => by rw [h0]; omega, fun π _ => ⟨_, BF.zero V _ π (by decide), Rd.begin (fun t i b _ => by simp), fun h => by omega⟩⟩
theorem CyO.start {V : Nat} {A : List Ark} {f : List Int} {L : List (Nat × Bool)} {d : List Int} {k : Nat} (h : CyO V A f L d k) : CyS V A f L d k 0 false :=
  ⟨h.len, fun v hv => by have := h.bd v hv; omega, fun _ t ht => by omega, fun π hp => by obtain ⟨ch, h1, h2, _⟩ := h.gh π hp; exact ⟨ch, h1, h2, fun e => by cases e⟩⟩
theorem CyS.same {V : Nat} {A : List Ark} {f : List Int} {L : List (Nat × Bool)} {d : List Int} {k j : Nat} {changed : Bool} (h : CyS V A f L d k j changed) {i : Nat} {b : Bool} (hj : L[j]? = some (i, b)) (hle : ge d (sT A i b) ≤ ge d (sF A i b) + sC A i b) : CyS V A f L d k (j + 1) changed := by
  refine ⟨h.len, fun v hv => by have := h.bd v hv; omega, fun hc t ht i' b' he => ?_, fun π hp => ?_⟩
  · by_cases e : t = j
    · subst e
      rw [hj] at he
      cases he
      exact hle
    · exact h.un hc t (by omega) i' b' he
  · obtain ⟨ch, h1, h2, h3⟩ := h.gh π hp
    exact ⟨ch, h1, h2.same hj hle, h3⟩
theorem CyS.relax {s : List Int} {A : List Ark} {f : List Int} {d : List Int} {k j : Nat} {changed : Bool} (hV : vN s A) (hk : k ≤ 256) (hjl : j ≤ 4096) (h : CyS s.length A f (resL A f A.length) d k j changed) {i : Nat} {b : Bool} (hj : (resL A f A.length)[j]? = some (i, b))
    (hlt : ge d (sF A i b) + sC A i b < ge d (sT A i b)) : CyS s.length A f (resL A f A.length) (d.set (sT A i b) (ge d (sF A i b) + sC A i b)) k (j + 1) true := by
  have hm := mem_resL.1 (List.mem_of_getElem? hj)
  have hi := hm.1
  have hu := sF_lt hV hi b
  have hv := sT_lt hV hi b
  have hc := sC_bd hV hi b
  have hbu := h.bd _ hu
  refine ⟨by rw [List.length_set]; exact h.len, fun v hv' => ?_, fun e => (by cases e), fun π hp => ?_⟩
  · rw [ge_set d (by rw [h.len]; exact hv)]
    have := h.bd v hv'
    split <;> omega
  · obtain ⟨ch, h1, h2, h3⟩ := h.gh π hp
    have hr := hp i b ⟨hi, hm.2⟩
    have hne : sF A i b ≠ sT A i b := fun e => by rw [e] at hlt hr; omega
    obtain ⟨g1, _⟩ := h1.relax hu hv hc hr (by omega) (Or.inr hlt) (by omega)
    obtain ⟨g2, g3⟩ := h2.relax hj hlt (by rw [h.len]; exact hv) hne
    refine ⟨_, g1, g2, fun _ => ⟨_, hv, ?_⟩⟩
    unfold upd1
    rw [if_pos rfl]
    omega
theorem CyS.next {V : Nat} {A : List Ark} {f : List Int} {L : List (Nat × Bool)} {d : List Int} {k : Nat} (h : CyS V A f L d k L.length true) (hl : L.length ≤ 4096) : CyO V A f L d (k + 1) := by
  refine ⟨h.len, fun v hv => by have := h.bd v hv; omega, fun π hp => ?_⟩
  obtain ⟨ch, h1, h2, h3⟩ := h.gh π hp
  exact ⟨ch, h1, h2.next, fun _ => h3 rfl⟩
theorem CyS.pot {s : List Int} {A : List Ark} {f : List Int} {d : List Int} {k : Nat} (h : CyS s.length A f (resL A f A.length) d k (resL A f A.length).length false) : ∃ π, Pot A f π := by
  refine ⟨fun v => ge d v, fun i b hR => ?_⟩
  obtain ⟨t, ht⟩ := List.getElem?_of_mem ((mem_resL (A := A) (f := f) (i := i) (b := b) (k := A.length)).2 ⟨hR.1, hR.2⟩)
  have := h.un rfl t (List.getElem?_eq_some_iff.1 ht).1 i b ht
  show 0 ≤ sC A i b + ge d (sF A i b) - ge d (sT A i b)
  omega
theorem CyO.none {V : Nat} {A : List Ark} {f : List Int} {L : List (Nat × Bool)} {d : List Int} {k : Nat} (h : CyO V A f L d k) (hk : V ≤ k) (h0 : 0 < k) : ¬ ∃ π, Pot A f π := by
  rintro ⟨π, hp⟩
  obtain ⟨ch, h1, _, h3⟩ := h.gh π hp
  obtain ⟨v, hv, hl⟩ := h3 h0
  have := h1.chain hv
  omega
/-- The round that follows V rounds does not matter. -/
theorem CyS.none {V : Nat} {A : List Ark} {f : List Int} {L : List (Nat × Bool)} {d : List Int} {k j : Nat} (h : CyS V A f L d k j true) (hk : V ≤ k + 1) : ¬ ∃ π, Pot A f π := by
  rintro ⟨π, hp⟩
  obtain ⟨ch, h1, _, h3⟩ := h.gh π hp
  obtain ⟨v, hv, hl⟩ := h3 rfl
  have := h1.chain hv
  omega
end Go.Proofs.YtiihgpgpbgafiaaDoor.Fl

/- cycle and Optimal of the program. -/
set_option linter.unusedSimpArgs false
set_option linter.unusedVariables false
namespace Go.Proofs.YtiihgpgpbgafiaaDoor.Fl
open Go.RowKit
attribute [local go_sem ↓] Go.wp_at_zero Go.wp_at_succ

/-- The steps in memory. -/
def Stps (w : World) (p : Option Addr) (A : List Ark) (f : List Int) (L : List (Nat × Bool)) : Prop :=
  ∃ g, (0 < L.length → p = some ⟨g, 0, none⟩ ∧ g < w.heap.size) ∧ ∀ t i b, L[t]? = some (i, b) → w.cell? ⟨g, t * 6, none⟩ = some (.int .i64 (sF A i b : Int)) ∧ w.cell? ⟨g, t * 6 + 1, none⟩ = some (.int .i64 (sT A i b : Int)) ∧
    w.cell? ⟨g, t * 6 + 2, none⟩ = some (.int .i64 (cst A i)) ∧ w.cell? ⟨g, t * 6 + 3, none⟩ = some (.int .i64 (sR A f i b)) ∧ w.cell? ⟨g, t * 6 + 4, none⟩ = some (.int .i64 (i : Int)) ∧ w.cell? ⟨g, t * 6 + 5, none⟩ = some (.bool b)
theorem Stps.grew {w w' : World} {p : Option Addr} {A : List Ark} {f : List Int} {L : List (Nat × Bool)} (h : Stps w p A f L) (hg : Grew w w') : Stps w' p A f L := by
  obtain ⟨g, h1, h2⟩ := h
  refine ⟨g, fun h0 => ⟨(h1 h0).1, Nat.lt_of_lt_of_le (h1 h0).2 hg.below.size⟩, fun t i b ht => ?_⟩
  obtain ⟨a, b, c, d, e, f⟩ := h2 t i b ht
  exact ⟨hg.cellEq a, hg.cellEq b, hg.cellEq c, hg.cellEq d, hg.cellEq e, hg.cellEq f⟩
theorem own_stps {w : World} {B : Nat} {rs : List Row} {k : Nat} {v : Value} {A : List Ark} {f : List Int} {L : List (Nat × Bool)} (h : Owns w B rs) (hk : rs[k]? = some (stRow v A f L)) : ∃ p c, v = .slice p L.length c ∧ Stps w p A f L := by
  rcases (h.get hk).2 with ⟨g1, g2⟩ | ⟨g, cap, g1, g2, g3, g4, _, _, g6⟩
  · refine ⟨none, 0, by rw [g1, g2], 0, fun h0 => by omega, fun t i b ht => ?_⟩
    have := (List.getElem?_eq_some_iff.1 ht).1
    omega
  · refine ⟨_, cap, g1, g, fun _ => ⟨rfl, g3⟩, fun t i b ht => ?_⟩
    have key : ∀ j x, j < 6 → (st1 A f i b)[j]? = some x → w.cell? ⟨g, t * 6 + j, none⟩ = some x := fun j x hj hx => g6 (t * 6 + j) x (by rw [stVs_get A f ht j hj]; exact hx)
    exact ⟨key 0 _ (by omega) rfl, key 1 _ (by omega) rfl, key 2 _ (by omega) rfl, key 3 _ (by omega) rfl, key 4 _ (by omega) rfl, key 5 _ (by omega) rfl⟩
theorem price_e {fr te co ro ar c : Int} {b : Bool} {w : World} (h : (if b then -co else co) = c) (hc : -1000 ≤ co ∧ co ≤ 1000) :
    Calls Tryd.prog 91 #[.agg #[.int .i64 fr, .int .i64 te, .int .i64 co, .int .i64 ro, .int .i64 ar, .bool b]] w fun e w' => e = .returned (.int .i64 c) ∧ Grew w w' := h ▸ price_p fr te co ro ar b w hc

end Go.Proofs.YtiihgpgpbgafiaaDoor.Fl

/- Optimal of the program. -/
set_option linter.unusedSimpArgs false
set_option linter.unusedVariables false
namespace Go.Proofs.YtiihgpgpbgafiaaDoor.Fl
open Go.RowKit
attribute [local go_sem ↓] Go.wp_at_zero Go.wp_at_succ

end Go.Proofs.YtiihgpgpbgafiaaDoor.Fl

/- The residual network of the reference. -/
set_option linter.unusedSimpArgs false
set_option linter.unusedVariables false
namespace Go.Proofs.YtiihgpgpbgafiaaDoor.Fl
open Go.RowKit
attribute [local go_sem ↓] Go.wp_at_zero Go.wp_at_succ

theorem Tryd.infoStepR : (Tryd.prog.info? 126).map (fun i => (i.zero, i.size, i.bytes)) = some (some (.agg #[.int .i64 0, .bool false, .int .i64 0, .int .i64 0, .int .i64 0, .int .i64 0]), 6, 48) := by kernel_rfl
theorem cell_lt {w : World} {b i : Nat} {v : Value} (h : w.cell? ⟨b, i, none⟩ = some v) : b < w.heap.size := by
  rcases Nat.lt_or_ge b w.heap.size with h' | h'
  · exact h'
  · exfalso
    simp only [World.cell?] at h
    rw [Array.getElem?_eq_none h'] at h
    cases h
/-- The steps of the reference in memory. -/
def StpR (w : World) (p : Option Addr) (A : List Ark) (f : List Int) (L : List (Nat × Bool)) : Prop :=
  ∃ g, (0 < L.length → p = some ⟨g, 0, none⟩ ∧ g < w.heap.size) ∧ ∀ (t i : Nat) (b : Bool), L[t]? = some (i, b) → w.cell? ⟨g, t * 6, none⟩ = some (.int .i64 (i : Int)) ∧ w.cell? ⟨g, t * 6 + 1, none⟩ = some (.bool b) ∧
    w.cell? ⟨g, t * 6 + 2, none⟩ = some (.int .i64 (sF A i b : Int)) ∧ w.cell? ⟨g, t * 6 + 3, none⟩ = some (.int .i64 (sT A i b : Int)) ∧ w.cell? ⟨g, t * 6 + 4, none⟩ = some (.int .i64 (sC A i b)) ∧ w.cell? ⟨g, t * 6 + 5, none⟩ = some (.int .i64 (sR A f i b))
theorem StpR.grew {w w' : World} {p : Option Addr} {A : List Ark} {f : List Int} {L : List (Nat × Bool)} (h : StpR w p A f L) (hg : Grew w w') : StpR w' p A f L := by
  obtain ⟨g, h1, h2⟩ := h
  refine ⟨g, fun h0 => ⟨(h1 h0).1, Nat.lt_of_lt_of_le (h1 h0).2 hg.below.size⟩, fun t i b ht => ?_⟩
  obtain ⟨a, b, c, d, e, f⟩ := h2 t i b ht
  exact ⟨hg.cellEq a, hg.cellEq b, hg.cellEq c, hg.cellEq d, hg.cellEq e, hg.cellEq f⟩
end Go.Proofs.YtiihgpgpbgafiaaDoor.Fl

/- Optimal of the reference. -/
set_option linter.unusedSimpArgs false
set_option linter.unusedVariables false
namespace Go.Proofs.YtiihgpgpbgafiaaDoor.Fl
open Go.RowKit
attribute [local go_sem ↓] Go.wp_at_zero Go.wp_at_succ

end Go.Proofs.YtiihgpgpbgafiaaDoor.Fl

/- The search of the program, plain part and walk. -/
set_option linter.unusedSimpArgs false
set_option linter.unusedVariables false
namespace Go.Proofs.YtiihgpgpbgafiaaDoor.Fl
open Go.RowKit
attribute [local go_sem ↓] Go.wp_at_zero Go.wp_at_succ

abbrev farP : Int := 1152921504606846976
/-- The state of a round of the search. -/
def InS (V : Nat) (far : Int) (src : Nat → Prop) (A : List Ark) (L : List (Nat × Bool)) (π : Nat → Int) (d pr : List Int) (j : Nat) (more : Bool) (M : Nat) : Prop :=
  ∃ ch, Se V far src A L π d pr ch ∧ (more = false → ∀ (t i : Nat) (b : Bool), t < j → L[t]? = some (i, b) → ge d (sF A i b) = far ∨ (ge d (sT A i b) ≠ far ∧ ge d (sT A i b) ≤ ge d (sF A i b) + sC A i b)) ∧ mea V d ≤ M ∧ (more = true → mea V d < M)
theorem InS.lo {V : Nat} {far : Int} {src : Nat → Prop} {A : List Ark} {L : List (Nat × Bool)} {π : Nat → Int} {d pr : List Int} {j : Nat} {more : Bool} {M : Nat} (h : InS V far src A L π d pr j more M) (hV : V ≤ 256) (hf : 1000000 < far) {v : Nat} (hv : v < V) :
    ge d v = far ∨ (-256000 ≤ ge d v ∧ ge d v ≤ 256000) := by
  obtain ⟨ch, h1, _⟩ := h
  by_cases e : ge d v = far
  · exact Or.inl e
  · have := h1.bf.bound hv e
    exact Or.inr (by omega)
theorem InS.same {V : Nat} {far : Int} {src : Nat → Prop} {A : List Ark} {L : List (Nat × Bool)} {π : Nat → Int} {d pr : List Int} {j : Nat} {more : Bool} {M : Nat} (h : InS V far src A L π d pr j more M) {i : Nat} {b : Bool} (hj : L[j]? = some (i, b))
    (hle : ge d (sF A i b) = far ∨ (ge d (sT A i b) ≠ far ∧ ge d (sT A i b) ≤ ge d (sF A i b) + sC A i b)) : InS V far src A L π d pr (j + 1) more M := by
  obtain ⟨ch, h1, h2, h3, h4⟩ := h
  refine ⟨ch, h1, fun hm t i' b' ht he => ?_, h3, h4⟩
  by_cases e : t = j
  · subst e
    rw [hj] at he
    cases he
    exact hle
  · exact h2 hm t i' b' (by omega) he
theorem InS.relax {s : List Int} {far : Int} {src : Nat → Prop} {A : List Ark} {f : List Int} {π : Nat → Int} {d pr : List Int} {j : Nat} {more : Bool} {M : Nat} (hV : vN s A) (hp : Pot A f π) (hfar : 1000000 < far) (h : InS s.length far src A (resL A f A.length) π d pr j more M)
    {i : Nat} {b : Bool} (hj : (resL A f A.length)[j]? = some (i, b)) (hf : ge d (sF A i b) ≠ far) (hlt : ge d (sF A i b) + sC A i b < ge d (sT A i b)) :
    InS s.length far src A (resL A f A.length) π (d.set (sT A i b) (ge d (sF A i b) + sC A i b)) (pr.set (sT A i b) (j : Int)) (j + 1) true M := by
  have h256 := hV.n
  have hlo := fun v (hv : v < s.length) => h.lo h256 hfar hv
  obtain ⟨ch, h1, h2, h3, h4⟩ := h
  have hm := mem_resL.1 (List.mem_of_getElem? hj)
  have hi := hm.1
  have hu := sF_lt hV hi b
  have hv := sT_lt hV hi b
  have hc := sC_bd hV hi b
  have hbu := (hlo _ hu).resolve_left hf
  have g := h1.relax hj hu hv hc (hp i b ⟨hi, hm.2⟩) hf (Or.inr hlt) (by omega)
  have hme := mea_lt (V := s.length) (d := d) h1.bf.len (fun v hv' => by have := hlo v hv'; omega) hv hlt (by omega)
  exact ⟨_, g, fun e => (by cases e), by omega, fun _ => by omega⟩
/-- The search has come to its end. -/
def OutS (V : Nat) (far : Int) (src : Nat → Prop) (A : List Ark) (L : List (Nat × Bool)) (π : Nat → Int) (d pr : List Int) : Prop := ∃ ch, Se V far src A L π d pr ch ∧ Settled far A L d
theorem InS.done {V : Nat} {far : Int} {src : Nat → Prop} {A : List Ark} {L : List (Nat × Bool)} {π : Nat → Int} {d pr : List Int} {M : Nat} (h : InS V far src A L π d pr L.length false M) : OutS V far src A L π d pr := by
  obtain ⟨ch, h1, h2, _⟩ := h
  exact ⟨ch, h1, fun t i b ht => h2 rfl t i b (List.getElem?_eq_some_iff.1 ht).1 ht⟩
/-- The loop that begins the search. -/
structure Di (V : Nat) (xs d pr : List Int) (v : Nat) : Prop where
  dl : d.length = V
  pl : pr.length = V
  dv : ∀ u, u < V → ge d u = if u < v ∧ ge xs u ≤ 0 then farP else 0
  pv : ∀ u, u < V → u < v → ge pr u = -1
theorem Di.begin (V : Nat) (xs : List Int) : Di V xs (List.replicate V 0) (List.replicate V 0) 0 :=
  ⟨by simp, by simp, fun u hu => by rw [if_neg (by omega), ge_eq _ (by simpa using hu)]; simp, fun u _ h => by omega⟩
theorem Di.pos {V : Nat} {xs d pr : List Int} {v : Nat} (h : Di V xs d pr v) (hv : v < V) (hx : ¬ ge xs v ≤ 0) : Di V xs d (pr.set v (-1)) (v + 1) := by
  refine ⟨h.dl, by rw [List.length_set]; exact h.pl, fun u hu => ?_, fun u hu huv => ?_⟩
  · rw [h.dv u hu]
    by_cases e : u = v
    · subst e; rw [if_neg (by omega), if_neg (by omega)]
    · by_cases e2 : u < v ∧ ge xs u ≤ 0
      · rw [if_pos e2, if_pos (by omega)]
      · rw [if_neg e2, if_neg (by omega)]
  · rw [ge_set pr (by rw [h.pl]; exact hv)]
    split
    · rfl
    · exact h.pv u hu (by omega)
theorem Di.non {V : Nat} {xs d pr : List Int} {v : Nat} (h : Di V xs d pr v) (hv : v < V) (hx : ge xs v ≤ 0) : Di V xs (d.set v farP) (pr.set v (-1)) (v + 1) := by
  refine ⟨by rw [List.length_set]; exact h.dl, by rw [List.length_set]; exact h.pl, fun u hu => ?_, fun u hu huv => ?_⟩
  · rw [ge_set d (by rw [h.dl]; exact hv), h.dv u hu]
    by_cases e : u = v
    · subst e; rw [if_pos rfl, if_pos (by omega)]
    · rw [if_neg e]
      by_cases e2 : u < v ∧ ge xs u ≤ 0
      · rw [if_pos e2, if_pos (by omega)]
      · rw [if_neg e2, if_neg (by omega)]
  · rw [ge_set pr (by rw [h.pl]; exact hv)]
    split
    · rfl
    · exact h.pv u hu (by omega)
theorem Di.done {V : Nat} {xs d pr : List Int} (h : Di V xs d pr V) (A : List Ark) (L : List (Nat × Bool)) (π : Nat → Int) : ∃ ch, Se V farP (fun v => 0 < ge xs v) A L π d pr ch :=
  ⟨_, Se.begin (by decide) h.dl h.pl (fun v hv => ⟨fun hs => by rw [h.dv v hv, if_neg (by omega)], fun hs => by rw [h.dv v hv, if_pos (by omega)]⟩) (fun v hv => h.pv v hv hv)⟩
/-- At the head of the search's outer loop. -/
def HdS (V : Nat) (far : Int) (src : Nat → Prop) (A : List Ark) (L : List (Nat × Bool)) (π : Nat → Int) (d pr : List Int) (more : Bool) (gk : Nat) : Prop :=
  (more = true ∧ (∃ ch, Se V far src A L π d pr ch) ∧ mea V d + 1 ≤ gk) ∨ (more = false ∧ OutS V far src A L π d pr)
theorem HdS.start {V : Nat} {far : Int} {src : Nat → Prop} {A : List Ark} {L : List (Nat × Bool)} {π : Nat → Int} {d pr : List Int} {gk : Nat} (h : HdS V far src A L π d pr true gk) : InS V far src A L π d pr 0 false (mea V d) ∧ mea V d + 1 ≤ gk := by
  rcases h with ⟨_, ⟨ch, h1⟩, h2⟩ | ⟨h1, _⟩
  · exact ⟨⟨ch, h1, fun _ t _ _ ht => (by omega), Nat.le_refl _, fun e => (by cases e)⟩, h2⟩
  · cases h1
theorem HdS.out {V : Nat} {far : Int} {src : Nat → Prop} {A : List Ark} {L : List (Nat × Bool)} {π : Nat → Int} {d pr : List Int} {gk : Nat} (h : HdS V far src A L π d pr false gk) : OutS V far src A L π d pr := by
  rcases h with ⟨h1, _⟩ | ⟨_, h1⟩
  · cases h1
  · exact h1
theorem InS.next {V : Nat} {far : Int} {src : Nat → Prop} {A : List Ark} {L : List (Nat × Bool)} {π : Nat → Int} {d pr : List Int} {M : Nat} {more : Bool} {gk : Nat} (h : InS V far src A L π d pr L.length more M) (hM : M + 1 ≤ gk) :
    ∃ g, g < gk ∧ HdS V far src A L π d pr more g := by
  cases more
  · exact ⟨0, by omega, Or.inr ⟨rfl, h.done⟩⟩
  · obtain ⟨ch, h1, _, _, h2⟩ := h
    exact ⟨mea V d + 1, by have := h2 rfl; omega, Or.inl ⟨rfl, ⟨ch, h1⟩, Nat.le_refl _⟩⟩
theorem Owns.ne01 {w : World} {B : Nat} {g g' n n' : Nat} {xs ys : List Int} (h : Owns w B [rI g n xs, rI g' n' ys]) : g ≠ g' := by
  have := h.2 0 1 _ _ rfl rfl (by decide) g rfl
  intro e
  subst e
  exact this rfl
theorem own_two {w : World} {B : Nat} (hB : B ≤ w.heap.size) (a c : Nat) (ha : a ≤ 1000) (hc : c ≤ 1000) :
    Owns ((w.alloc (.cells (Array.replicate a (.int .i64 0)) 3)).alloc (.cells (Array.replicate c (.int .i64 0)) 3)) B [rI w.heap.size a (List.replicate a 0), rI (w.heap.size + 1) c (List.replicate c 0)] ∧
    Owns ((w.alloc (.cells (Array.replicate c (.int .i64 0)) 3)).alloc (.cells (Array.replicate a (.int .i64 0)) 3)) B [rI (w.heap.size + 1) a (List.replicate a 0), rI w.heap.size c (List.replicate c 0)] := by
  refine ⟨?_, ?_⟩
  · exact (own_newI (own_newI (Owns.nil w B) hB a _ (by omega) rfl) (by simp; omega) c _ (by omega) (by simp)).perm (List.Perm.swap _ _ _)
  · exact own_newI (own_newI (Owns.nil w B) hB c _ (by omega) rfl) (by simp; omega) a _ (by omega) (by simp)

set_option maxHeartbeats 16000000 in
theorem search_p (pv r : Option Addr) (nl cv V cr : Nat) (s xs : List Int) (A : List Ark) (f : List Int) (π : Nat → Int) (w : World) (hV : vN s A) (hp : Pot A f π) (hS : Stps w pv A f (resL A f A.length)) (hX : Ints w r xs) (hl : (resL A f A.length).length = nl) (hn : s.length = V) (hx : xs.length = V) :
    Calls Tryd.prog 92 #[.agg #[.slice pv nl cv, .func (.func 91) #[] #[]], .slice r V cr] w fun e w' => Grew w w' ∧ ∃ g6 g7 d pr, e = .returned (.tuple #[.slice (some ⟨g6, 0, none⟩) V V, .slice (some ⟨g7, 0, none⟩) V V]) ∧
      Owns w' w.heap.size [rI g6 V d, rI g7 V pr] ∧ OutS V farP (fun v => 0 < ge xs v) A (resL A f A.length) π d pr := by
  subst hl hn
  have h256 := hV.n
  have hl4096 : (resL A f A.length).length ≤ 4096 := by have := resL_len A f A.length; have := hV.m; omega
  have HV := Lib.hid hV
  have HP := Lib.hid hp
  have HS := Lib.hid hS
  have HX := Lib.hid hX
  have Hx := Lib.hid hx
  obtain ⟨L, hL⟩ : ∃ L, resL A f A.length = L := ⟨_, rfl⟩
  rw [hL] at HS hl4096 ⊢
  have HL := Lib.hid hL
  have hmk := make_ints s.length (by omega)
  have Hm : Hid (∀ (t i : Nat) (b : Bool), L[t]? = some (i, b) → i < A.length) := Lib.hid (fun t i b ht => by rw [← HL.out] at ht; exact (mem_resL.1 (List.mem_of_getElem? ht)).1)
  clear hV hp hS hX hL hx
  go_enter Tryd.func92, Tryd.ntmps92
  go_upto_region 1 with fail
  obtain ⟨wz, hwz⟩ : ∃ wz, w.alloc (.cells #[.slice pv L.length cv, .func (.func 91) #[] #[]] 116) = wz := ⟨_, rfl⟩
  have x0 : wz.cell? ⟨w.heap.size, 0, none⟩ = some (.slice pv L.length cv) := by rw [← hwz]; simp [go_sem]
  have x1 : wz.cell? ⟨w.heap.size, 1, none⟩ = some (.func (.func 91) #[] #[]) := by rw [← hwz]; simp [go_sem]
  have Hgz : Hid (Grew w wz) := Lib.hid (by rw [← hwz]; (repeat (first | exact gR _ | refine gO ?_ _ | refine gA ?_ _ | refine gD ?_ | refine gN ?_ _)))
  have hbz : w.heap.size < wz.heap.size := by rw [← hwz]; simp
  rw [hwz]
  clear hwz
  go_cut [6, 7] (fun v6 v7 wx => ∃ g6 g7 : Nat, v6 = .slice (some ⟨g6, 0, none⟩) s.length s.length ∧ v7 = .slice (some ⟨g7, 0, none⟩) s.length s.length ∧ Grew wz wx ∧ Owns wx wz.heap.size [rI g6 s.length (List.replicate s.length 0), rI g7 s.length (List.replicate s.length 0)])
  case first =>
    go_region
    · go_wp2_with fail
      go_meet
      exact ⟨_, _, rfl, rfl, by (repeat (first | exact gR _ | refine gO ?_ _ | refine gA ?_ _ | refine gD ?_ | refine gN ?_ _)), (own_two (Nat.le_refl _) s.length s.length (by omega) (by omega)).1.grew (by (repeat (first | exact gR _ | refine gO ?_ _ | refine gA ?_ _ | refine gD ?_ | refine gN ?_ _)))⟩
    · go_wp2_with fail
      go_meet
      exact ⟨_, _, rfl, rfl, by (repeat (first | exact gR _ | refine gO ?_ _ | refine gA ?_ _ | refine gD ?_ | refine gN ?_ _)), (own_two (Nat.le_refl _) s.length s.length (by omega) (by omega)).2.grew (by (repeat (first | exact gR _ | refine gO ?_ _ | refine gA ?_ _ | refine gD ?_ | refine gN ?_ _)))⟩
  case rest =>
    obtain ⟨g6, g7, rfl, rfl, hg1, hO1⟩ := hcut
    have HO1 := Lib.hid hO1
    have Hg1 := Lib.hid hg1
    have Hx0 := Lib.hid x0
    have Hx1 := Lib.hid x1
    clear hO1 hg1 x0 x1 hmk
    have Hgw0 : Hid (w.heap.size < wz.heap.size) := Lib.hid hbz
    clear hbz
    go_wp2
    go_loopw [22] (fun v22 wr => ∃ (v : Nat) (d pr : List Int), v ≤ s.length ∧ v22 = .int .i64 v ∧ Di s.length xs d pr v ∧ Owns wr wz.heap.size [rI g6 s.length d, rI g7 s.length pr] ∧ Grew wz wr) (fun v22 _ => s.length - (intOf v22).toNat)
    case atStart => exact ⟨0, _, _, Nat.zero_le _, rfl, Di.begin _ _, HO1.out, Hg1.out⟩
    case round =>
      clear HO1 Hg1
      obtain ⟨v, d, pr, hv, rfl, hD, hO, hg⟩ := hrel
      have HD := Lib.hid hD
      have HO := Lib.hid hO
      have Hg := Lib.hid hg
      clear hD hO hg
      by_cases hlt : v < s.length
      · obtain ⟨bx, ox, hx3, hx4⟩ := (HX.out.grew (Hgz.out.trans Hg.out)).open
        obtain ⟨rfl, hbx⟩ := hx3 (by have := Hx.out; omega)
        have cx := hx4 v (by have := Hx.out; omega)
        have e7 := own_atI HO.out (j := 1) rfl (i := v) hlt
        have b7 := own_lt HO.out (j := 1) rfl
        have f7 := own_fr HO.out (j := 1) rfl v
        have HO2 := Lib.hid (own_setI HO.out (j := 1) rfl v (-1))
        have Hg2 := Lib.hid (HO.out.setGrew (w0 := wz) (Nat.le_refl _) Hg.out (k := 1) rfl v (.int .i64 (-1)))
        obtain ⟨xv, hxv⟩ : ∃ x, ge xs v = x := ⟨_, rfl⟩
        rw [hxv] at cx
        clear hx3 hx4
        have Hxv := Lib.hid hxv
        clear hxv
        go_upto_region 6 with fail
        obtain ⟨w2, hw2⟩ : ∃ w2, wr.setCell ⟨g7, v, none⟩ (.int .i64 (-1)) = w2 := ⟨_, rfl⟩
        have HO2' : Hid (Owns w2 wz.heap.size [rI g6 s.length d, rI g7 s.length (pr.set v (-1))]) := Lib.hid (by rw [← hw2]; exact HO2.out)
        have Hg2' : Hid (Grew wz w2) := Lib.hid (by rw [← hw2]; exact Hg2.out)
        rw [hw2]
        clear hw2 HO2 Hg2 HO Hg cx b7 f7 e7
        have e6 := own_atI HO2'.out (j := 0) rfl (i := v) hlt
        have b6 := own_lt HO2'.out (j := 0) rfl
        have f6 := own_fr HO2'.out (j := 0) rfl
        replace f6 := f6 v
        have HO3 := Lib.hid (own_setI HO2'.out (j := 0) rfl v farP)
        have Hg3 := Lib.hid (HO2'.out.setGrew (w0 := wz) (Nat.le_refl _) Hg2'.out (k := 0) rfl v (.int .i64 farP))
        by_cases hx0 : xv ≤ 0
        · have HD2 := Lib.hid (HD.out.non hlt (by rw [Hxv.out]; exact hx0))
          go_wp2
          go_roundw
          case rel => exact ⟨v + 1, _, _, by omega, by go_num, HD2.out, HO3.out, Hg3.out⟩
          case measure => simp [intOf]; omega
        · have HD2 := Lib.hid (HD.out.pos hlt (by rw [Hxv.out]; exact hx0))
          go_wp2
          go_roundw
          case rel => exact ⟨v + 1, _, _, by omega, by go_num, HD2.out, HO2'.out, Hg2'.out⟩
          case measure => simp [intOf]; omega
      · have hve : v = s.length := by omega
        subst hve
        obtain ⟨ch0, hch0⟩ := HD.out.done A L π
        have HH0 : Hid (HdS s.length farP (fun v => 0 < ge xs v) A L π d pr true (mea s.length d + 1)) := Lib.hid (Or.inl ⟨rfl, ⟨ch0, hch0⟩, Nat.le_refl _⟩)
        clear HD hch0
        go_wp2
        go_loopg [10] (mea s.length d + 1) (fun gk v10 wr => ∃ (more : Bool) (d pr : List Int), v10 = .bool more ∧ HdS s.length farP (fun v => 0 < ge xs v) A L π d pr more gk ∧ Owns wr wz.heap.size [rI g6 s.length d, rI g7 s.length pr] ∧ Grew wz wr)
        case atStart => exact ⟨true, d, pr, rfl, HH0.out, HO.out, Hg.out⟩
        case round =>
          clear HH0 HO Hg
          obtain ⟨more, d, pr, rfl, hH, hO, hg⟩ := hrel
          have HO := Lib.hid hO
          have Hg := Lib.hid hg
          clear hO hg
          cases more
          · have HH := Lib.hid hH.out
            clear hH
            go_wp2
            go_ret2
            exact ⟨Hgz.out.trans Hg.out, g6, g7, d, pr, rfl, HO.out.base (Nat.le_of_lt Hgw0.out), HH.out⟩
          · obtain ⟨hI, hM⟩ := hH.start
            have HI := Lib.hid hI
            have HM := Lib.hid hM
            clear hI hM hH
            obtain ⟨M, hMe⟩ : ∃ M, mea s.length d = M := ⟨_, rfl⟩
            rw [hMe] at HI HM
            clear hMe
            have x0 := Hg.out.cellEq Hx0.out
            go_wp2
            go_loopw [10, 40] (fun v10 v40 wr => ∃ (j : Nat) (d pr : List Int) (c : Bool), j ≤ L.length ∧ v40 = .int .i64 j ∧ v10 = .bool c ∧ InS s.length farP (fun v => 0 < ge xs v) A L π d pr j c M ∧ Owns wr wz.heap.size [rI g6 s.length d, rI g7 s.length pr] ∧ Grew wz wr) (fun _ v40 _ => L.length - (intOf v40).toNat)
            case atStart => exact ⟨0, d, pr, false, Nat.zero_le _, rfl, rfl, HI.out, HO.out, Hg.out⟩
            case round =>
              clear HI HO Hg x0
              obtain ⟨j, d, pr, c, hj, rfl, rfl, hI, hO, hg⟩ := hrel
              have HI := Lib.hid hI
              have HO := Lib.hid hO
              have Hg := Lib.hid hg
              clear hI hO hg
              by_cases hlt : j < L.length
              · obtain ⟨⟨i, b⟩, hib⟩ : ∃ x, L[j]? = some x := ⟨_, List.getElem?_eq_getElem hlt⟩
                have hi := Hm.out j i b hib
                have hibL := hib
                rw [← HL.out] at hibL
                obtain ⟨gS, g1, g2⟩ := HS.out.grew (Hgz.out.trans Hg.out)
                obtain ⟨rfl, hgS⟩ := g1 (by omega)
                obtain ⟨c0, c1, c2, c3, c4, c5⟩ := g2 j i b hib
                have x0 := Hg.out.cellEq Hx0.out
                have x1 := Hg.out.cellEq Hx1.out
                have hu := sF_lt HV.out hi b
                have hv := sT_lt HV.out hi b
                have hcb := (HV.out.a i hi).2.2.2
                have hsc := sC_bd HV.out hi b
                have hbu := HI.out.lo h256 (by decide) hu
                obtain ⟨u, eu⟩ : ∃ u, sF A i b = u := ⟨_, rfl⟩
                obtain ⟨v, ev⟩ : ∃ v, sT A i b = v := ⟨_, rfl⟩
                obtain ⟨co, eco⟩ : ∃ x, cst A i = x := ⟨_, rfl⟩
                obtain ⟨sc, esc⟩ : ∃ x, sC A i b = x := ⟨_, rfl⟩
                obtain ⟨ro, ero⟩ : ∃ x, sR A f i b = x := ⟨_, rfl⟩
                have hpr : (if b then -co else co) = sc := by rw [← eco, ← esc]; rfl
                have Hpr := Lib.hid hpr
                obtain ⟨du, edu⟩ : ∃ x, ge d u = x := ⟨_, rfl⟩
                obtain ⟨dv, edv⟩ : ∃ x, ge d v = x := ⟨_, rfl⟩
                have hbv := HI.out.lo h256 (by decide) hv
                have hsame := fun h => HI.out.same hib h
                have hrel2 := fun (h1 : ge d (sF A i b) ≠ farP) (h2 : ge d (sF A i b) + sC A i b < ge d (sT A i b)) => (by
                  have h := HI.out
                  rw [← HL.out] at h
                  have := h.relax HV.out HP.out (by decide) hibL h1 h2
                  rw [HL.out] at this
                  exact this : InS s.length farP (fun v => 0 < ge xs v) A L π (d.set (sT A i b) (ge d (sF A i b) + sC A i b)) (pr.set (sT A i b) (j : Int)) (j + 1) true M)
                rw [eu] at c0 hu hbu
                rw [ev] at c1 hv hbv
                rw [eco] at c2 hcb
                rw [ero] at c3
                rw [esc] at hsc
                rw [eu, ev, esc, edu, edv] at hsame hrel2
                rw [edu] at hbu
                rw [edv] at hbv
                have Hedv := Lib.hid edv
                have Hsame := Lib.hid hsame
                have Hrel2 := Lib.hid hrel2
                have Hbv := Lib.hid hbv
                have e0 := own_atI HO.out (j := 0) rfl (i := u) hu
                rw [edu] at e0
                clear hsame hrel2 eu ev eco esc ero hpr edu edv hib hibL g1 g2 hbv
                go_upto_region 15 with fail
                obtain ⟨w3, hw3⟩ : ∃ w3, wr.alloc (.cells #[.int .i64 (u : Int), .int .i64 (v : Int), .int .i64 co, .int .i64 ro, .int .i64 (i : Int), .bool b] 120) = w3 := ⟨_, rfl⟩
                obtain ⟨aw, haw⟩ : ∃ aw, wr.heap.size = aw := ⟨_, rfl⟩
                have z0 : w3.cell? ⟨aw, 0, none⟩ = some (.int .i64 (u : Int)) := by rw [← hw3, ← haw]; simp [go_sem]
                have z1 : w3.cell? ⟨aw, 1, none⟩ = some (.int .i64 (v : Int)) := by rw [← hw3, ← haw]; simp [go_sem]
                have z2 : w3.cell? ⟨aw, 2, none⟩ = some (.int .i64 co) := by rw [← hw3, ← haw]; simp [go_sem]
                have z3 : w3.cell? ⟨aw, 3, none⟩ = some (.int .i64 ro) := by rw [← hw3, ← haw]; simp [go_sem]
                have z4 : w3.cell? ⟨aw, 4, none⟩ = some (.int .i64 (i : Int)) := by rw [← hw3, ← haw]; simp [go_sem]
                have z5 : w3.cell? ⟨aw, 5, none⟩ = some (.bool b) := by rw [← hw3, ← haw]; simp [go_sem]
                have hg3 : Grew wr w3 := by rw [← hw3]; (repeat (first | exact gR _ | refine gO ?_ _ | refine gA ?_ _ | refine gD ?_ | refine gN ?_ _))
                have ha3 : aw < w3.heap.size := by rw [← hw3, ← haw]; simp
                have hga : g6 < aw := by have := own_lt HO.out (j := 0) rfl; omega
                have hga7 : g7 < aw := by have := own_lt HO.out (j := 1) rfl; omega
                have HO3 := Lib.hid (HO.out.grew hg3)
                have Hg3 := Lib.hid (Hg.out.trans hg3)
                replace x0 := hg3.cellEq x0
                replace x1 := hg3.cellEq x1
                replace e0 := hg3.cellEq e0
                rw [hw3, haw]
                clear hw3 haw hg3 c0 c1 c2 c3 c4 c5 HO Hg hgS
                by_cases hfa : du = farP
                · subst hfa
                  have HI2 := Lib.hid (Hsame.out (Or.inl rfl))
                  go_wp2
                  go_roundw
                  case rel => exact ⟨j + 1, d, pr, c, by omega, by go_num, rfl, HI2.out, HO3.out, Hg3.out⟩
                  case measure => simp [intOf]; omega
                obtain ⟨hb1, hb2⟩ := hbu.resolve_left hfa
                have hq1 : (du == 1152921504606846976) = false := by rw [beq_eq_false_iff_ne]; exact hfa
                have hq2 : ¬ du = 1152921504606846976 := hfa
                have hwr : IntKind.i64.wrap (du + sc) = du + sc := IntWalk.i64_in _ ⟨by omega, by omega⟩
                clear hbu hfa
                have hbw := Nat.lt_of_lt_of_le Hgw0.out Hg3.out.below.size
                go_upto_region 16 with fail
                refine wp_region_over (by kernel_rfl) (by kernel_rfl) ?_; (repeat (go_big_quiet_step ((go_at_call 91; apply over_call; with_reducible exact price_e Hpr.out hcb)))); refine wpQuiet_nil ?_; intro w4 hW; replace hW : Grew _ w4 := hW
                have HO4 := Lib.hid (HO3.out.grew hW)
                have Hg4 := Lib.hid (Hg3.out.trans hW)
                replace z1 := hW.cellEq z1
                have ha4 := Nat.lt_of_lt_of_le ha3 hW.below.size
                clear hW z0 z2 z3 z4 z5 e0 x0 x1 HO3 Hg3 ha3
                have e1 := own_atI HO4.out (j := 0) rfl (i := v) hv
                rw [Hedv.out] at e1
                by_cases hlt2 : du + sc < dv
                · have HI5 := Lib.hid (Hrel2.out hq2 hlt2)
                  have b6 := own_lt HO4.out (j := 0) rfl
                  have f6 := own_fr HO4.out (j := 0) rfl v
                  have HO5 := Lib.hid (own_setI HO4.out (j := 0) rfl v (du + sc))
                  have Hg5 := Lib.hid (HO4.out.setGrew (w0 := wz) (Nat.le_refl _) Hg4.out (k := 0) rfl v (.int .i64 (du + sc)))
                  have b7 := own_lt HO4.out (j := 1) rfl
                  have f7 := own_fr HO4.out (j := 1) rfl v
                  have HO6 := Lib.hid (own_setI HO5.out (j := 1) rfl v (j : Int))
                  have Hg6 := Lib.hid (HO5.out.setGrew (w0 := wz) (Nat.le_refl _) Hg5.out (k := 1) rfl v (.int .i64 (j : Int)))
                  have e2 := own_atI HO4.out (j := 1) rfl (i := v) hv
                  have n67 : g6 ≠ g7 := (Owns.ne01 HO4.out)
                  have n76 : g7 ≠ g6 := Ne.symm n67
                  have n6a : g6 ≠ aw := by omega
                  have n7a : g7 ≠ aw := by omega
                  have na6 : aw ≠ g6 := by omega
                  have na7 : aw ≠ g7 := by omega
                  go_upto_region 18 with fail
                  refine wp_region_lex (Two 9 11 (fun b c => if c then (w4.setCell ⟨g6, v, none⟩ (.int .i64 (du + sc))).setCell ⟨g7, v, none⟩ (.int .i64 (j : Int)) else if b then w4.setCell ⟨g6, v, none⟩ (.int .i64 (du + sc)) else w4)) (by kernel_rfl) (by kernel_rfl) ?_ ?_
                  · (repeat (first | exact Grew.refl _ | refine Grew.over ?_ _ | refine Grew.alloc ?_ _ | refine Grew.drew ?_ | refine Grew.drewN ?_ _))
                  repeat (first
                    | (refine lex_skip rfl ?_ ?_
                       · exact Two.keep (by decide) (by decide)
                       (try simp only [Act.put, List.setIfInBounds_toArray, List.set_cons_zero, List.set_cons_succ]))
                    | (refine lex_pure (v := ?_) rfl ?_ (fun d w hd hr hC => ?_) ?_
                       rotate_left
                       · exact Two.keep (by decide) (by decide)
                       · (first
                           | (have hs1 := closed_undone (s := 9) hr.2 rfl (by decide +kernel) hd; have hs2 := closed_undone (s := 11) hr.2 rfl (by decide +kernel) hd; unfold Two at hC; rw [hs1, hs2] at hC; obtain ⟨x, rfl⟩ := hC; simp [go_sem, ↓IntWalk.iteOmega, z1, e1, e2, f6, f7, n67, n76, n6a, n7a, na6, na7, Nat.not_le.2 b6, Nat.not_le.2 b7]; try rfl)
                           | (have hs2 := closed_undone (s := 11) hr.2 rfl (by decide +kernel) hd; unfold Two at hC; rw [hs2] at hC; cases hs1 : d 9 <;> rw [hs1] at hC <;> obtain ⟨x, rfl⟩ := hC <;> simp [go_sem, ↓IntWalk.iteOmega, z1, e1, e2, f6, f7, n67, n76, n6a, n7a, na6, na7, Nat.not_le.2 b6, Nat.not_le.2 b7] <;> (try rfl))
                           | (obtain ⟨x, rfl⟩ := hC; simp [go_sem, ↓IntWalk.iteOmega, z1, e1, e2, f6, f7, n67, n76, n6a, n7a, na6, na7, Nat.not_le.2 b6, Nat.not_le.2 b7]; try rfl))
                       (try simp only [Act.put, List.setIfInBounds_toArray, List.set_cons_zero, List.set_cons_succ]))
                    | (refine lex_store rfl (fun d w hd hr hC => ?_) ?_
                       · (first
                           | (have hs2 := closed_undone (s := 11) hr.2 rfl (by decide +kernel) hd; unfold Two at hC ⊢; rw [mark_same, mark_other _ (by decide), hs2]; rw [hd, hs2] at hC; obtain ⟨x, rfl⟩ := hC; refine ⟨?_, ?_, ?_⟩; rotate_left; (simp [go_sem, ↓IntWalk.iteOmega, z1, e1, e2, f6, f7, n67, n76, n6a, n7a, na6, na7, Nat.not_le.2 b6, Nat.not_le.2 b7]; try rfl); (simp; exact ⟨_, rfl⟩))
                           | (have hs1 := ready_done (k := 9) hr.1 (by decide +kernel); unfold Two at hC ⊢; rw [mark_same, mark_other _ (by decide), hs1]; rw [hd, hs1] at hC; obtain ⟨x, rfl⟩ := hC; refine ⟨?_, ?_, ?_⟩; rotate_left; (simp [go_sem, ↓IntWalk.iteOmega, z1, e1, e2, f6, f7, n67, n76, n6a, n7a, na6, na7, Nat.not_le.2 b6, Nat.not_le.2 b7]; try rfl); (simp; exact ⟨_, rfl⟩)))
                       (try simp only [Act.put, List.setIfInBounds_toArray, List.set_cons_zero, List.set_cons_succ])))
                  refine lex_nil ?_
                  intro dLx w hd hC
                  unfold Two at hC; rw [hd 9 (by decide), hd 11 (by decide)] at hC; obtain ⟨x, rfl⟩ := hC; simp only [if_true]
                  go_wp2
                  go_roundw
                  case rel => exact ⟨j + 1, _, _, true, by omega, by go_num, rfl, HI5.out, HO6.out.grew (by (repeat (first | exact gR _ | refine gO ?_ _ | refine gA ?_ _ | refine gD ?_ | refine gN ?_ _))), Hg6.out.trans (by (repeat (first | exact gR _ | refine gO ?_ _ | refine gA ?_ _ | refine gD ?_ | refine gN ?_ _)))⟩
                  case measure => simp [intOf]; omega
                · have HI5 := Lib.hid (Hsame.out (Or.inr ⟨fun e => (by rw [e] at hlt2; exact hlt2 (by have : (1152921504606846976 : Int) = farP := rfl; omega)), by omega⟩))
                  go_wp2
                  go_roundw
                  case rel => exact ⟨j + 1, d, pr, c, by omega, by go_num, rfl, HI5.out, HO4.out, Hg4.out⟩
                  case measure => simp [intOf]; omega
              · have hje : j = L.length := by omega
                subst hje
                obtain ⟨g', hg', hH'⟩ := HI.out.next HM.out
                have HH' := Lib.hid hH'
                clear hH' HI
                go_wp2
                go_roundg g'
                case rel => exact ⟨c, d, pr, rfl, HH'.out, HO.out, Hg.out⟩
                case measure => omega
end Go.Proofs.YtiihgpgpbgafiaaDoor.Fl

/- slices.Reverse on steps. -/
set_option linter.unusedSimpArgs false
set_option linter.unusedVariables false
namespace Go.Proofs.YtiihgpgpbgafiaaDoor.Fl
open Go.RowKit
attribute [local go_sem ↓] Go.wp_at_zero Go.wp_at_succ

def lg (L : List (Nat × Bool)) (t : Nat) : Nat × Bool := L.getD t (0, false)
theorem lg_get (L : List (Nat × Bool)) {t : Nat} (h : t < L.length) : L[t]? = some (lg L t) := by simp [lg, h]
/-- What has been turned round when the first i and the last i have changed places. -/
def revL (L : List (Nat × Bool)) (i : Nat) : List (Nat × Bool) := (List.range L.length).map fun t => if t < i ∨ L.length ≤ t + i then lg L (L.length - 1 - t) else lg L t
theorem revL_len (L : List (Nat × Bool)) (i : Nat) : (revL L i).length = L.length := by simp [revL]
theorem revL_get (L : List (Nat × Bool)) (i : Nat) {t : Nat} (h : t < L.length) : (revL L i)[t]? = some (if t < i ∨ L.length ≤ t + i then lg L (L.length - 1 - t) else lg L t) := by
  simp [revL, h]
theorem list_ext? {α : Type} {xs ys : List α} (n : Nat) (h1 : xs.length = n) (h2 : ys.length = n) (h : ∀ t, t < n → xs[t]? = ys[t]?) : xs = ys := by
  refine List.ext_getElem? fun t => ?_
  by_cases e : t < n
  · exact h t e
  · rw [List.getElem?_eq_none (by omega), List.getElem?_eq_none (by omega)]
theorem revL_zero (L : List (Nat × Bool)) : L = revL L 0 := list_ext? L.length rfl (revL_len L 0) fun t ht => by
  rw [revL_get L 0 ht, if_neg (by omega), lg_get L ht]
theorem revL_mid (L : List (Nat × Bool)) {i t : Nat} (ht : t < L.length) (h1 : ¬ t < i) (h2 : ¬ L.length ≤ t + i) : (revL L i)[t]? = some (lg L t) := by
  rw [revL_get L i ht, if_neg (by omega)]
theorem revL_step (L : List (Nat × Bool)) {i j : Nat} (hj : j + i + 1 = L.length) (hij : i < j) : ((revL L i).set i (lg L j)).set j (lg L i) = revL L (i + 1) := by
  refine list_ext? L.length (by simp [revL_len]) (revL_len _ _) fun t ht => ?_
  rw [revL_get L (i + 1) ht, List.getElem?_set, List.getElem?_set, revL_get L i ht]
  simp only [List.length_set, revL_len]
  by_cases h1 : j = t
  · rw [if_pos h1, if_pos (by omega), if_pos (by omega)]; congr 2; omega
  · rw [if_neg h1]
    by_cases h2 : i = t
    · rw [if_pos h2, if_pos (by omega), if_pos (by omega)]; congr 2; omega
    · rw [if_neg h2]
      by_cases h3 : t < i ∨ L.length ≤ t + i
      · rw [if_pos h3, if_pos (by omega)]
      · rw [if_neg h3, if_neg (by omega)]
theorem revL_all (L : List (Nat × Bool)) {i : Nat} (hi : L.length ≤ 2 * i + 1) (hi2 : 2 * i ≤ L.length) : revL L i = L.reverse := by
  refine list_ext? L.length (revL_len _ _) List.length_reverse fun t ht => ?_
  rw [revL_get L i ht, List.getElem?_reverse ht, lg_get L (by omega)]
  split
  · rfl
  · congr 2; omega
theorem stVs_set (A : List Ark) (f : List Int) (i : Nat) (b : Bool) : ∀ (L : List (Nat × Bool)) (t : Nat), t < L.length → stVs A f (L.set t (i, b)) =
    ((((((stVs A f L).set (t * 6) (.int .i64 (sF A i b : Int))).set (t * 6 + 1) (.int .i64 (sT A i b : Int))).set (t * 6 + 2) (.int .i64 (cst A i))).set (t * 6 + 3) (.int .i64 (sR A f i b))).set (t * 6 + 4) (.int .i64 (i : Int))).set (t * 6 + 5) (.bool b)
  | [], t, h => by simp at h
  | x :: L, 0, _ => by
    simp only [stVs, List.set_cons_zero, List.flatMap_cons, st1, Nat.zero_mul, Nat.zero_add, List.cons_append, List.nil_append, List.set_cons_succ]
  | x :: L, t + 1, h => by
    have ih := stVs_set A f i b L t (by simpa using h)
    have e : ∀ (M : List Value) k u, (st1 A f x.1 x.2 ++ M).set ((t + 1) * 6 + k) u = st1 A f x.1 x.2 ++ M.set (t * 6 + k) u := fun M k u => by
      rw [List.set_append_right _ _ (by simp [st1]; omega)]
      congr 2
      simp [st1]; omega
    show st1 A f x.1 x.2 ++ stVs A f (L.set t (i, b)) = ((((((st1 A f x.1 x.2 ++ stVs A f L).set ((t + 1) * 6 + 0) _).set _ _).set _ _).set _ _).set _ _).set _ _
    rw [e, e, e, e, e, e, ih]
    simp only [Nat.add_zero]
abbrev stRn (g n cap : Nat) (A : List Ark) (f : List Int) (L : List (Nat × Bool)) : Row := ⟨.slice (some ⟨g, 0, none⟩) n cap, 120, 6, n, stVs A f L⟩
theorem own_setSt {w : World} {B g n cap : Nat} {A : List Ark} {f : List Int} {L : List (Nat × Bool)} (h : Owns w B [stRn g n cap A f L]) {t : Nat} (ht : t < L.length) (i : Nat) (b : Bool) :
    Owns ((((((w.setCell ⟨g, t * 6, none⟩ (.int .i64 (sF A i b : Int))).setCell ⟨g, t * 6 + 1, none⟩ (.int .i64 (sT A i b : Int))).setCell ⟨g, t * 6 + 2, none⟩ (.int .i64 (cst A i))).setCell ⟨g, t * 6 + 3, none⟩ (.int .i64 (sR A f i b))).setCell ⟨g, t * 6 + 4, none⟩ (.int .i64 (i : Int))).setCell ⟨g, t * 6 + 5, none⟩ (.bool b)) B [stRn g n cap A f (L.set t (i, b))] := by
  have h1 := (((((h.set (k := 0) rfl (t * 6) (.int .i64 (sF A i b : Int))).set (k := 0) rfl (t * 6 + 1) (.int .i64 (sT A i b : Int))).set (k := 0) rfl (t * 6 + 2) (.int .i64 (cst A i))).set (k := 0) rfl (t * 6 + 3) (.int .i64 (sR A f i b))).set (k := 0) rfl (t * 6 + 4) (.int .i64 (i : Int))).set (k := 0) rfl (t * 6 + 5) (.bool b)
  simp only [List.set_cons_zero] at h1
  rw [← stVs_set A f i b L t ht] at h1
  exact h1

theorem own_blk6 {w : World} {B g n cap : Nat} {A : List Ark} {f : List Int} {L : List (Nat × Bool)} (h : Owns w B [stRn g n cap A f L]) :
    (stVs A f L).length = n * 6 ∧ B ≤ g ∧ g < w.heap.size ∧ (∀ i, w.frozen? ⟨g, i, none⟩ = false) ∧ ∀ i u, (stVs A f L)[i]? = some u → w.cell? ⟨g, i, none⟩ = some u := by
  obtain ⟨h1, h2⟩ := h.get (k := 0) rfl
  rcases h2 with ⟨h2, _⟩ | ⟨g', cap', hv, h3, h4, _, _, h5, h6⟩
  · cases h2
  · have hg : g' = g := by
      simp only [Value.slice.injEq, Option.some.injEq, Addr.mk.injEq] at hv
      exact hv.1.1.symm
    subst hg
    exact ⟨h1, h3, h4, h5, h6⟩

set_option maxRecDepth 8000 in
set_option maxHeartbeats 16000000 in
theorem reverse_s (g n cap B : Nat) (A : List Ark) (f : List Int) (L : List (Nat × Bool)) (w w0 : World) (hO : Owns w B [stRn g n cap A f L]) (hn : L.length = n) (hn1 : n ≤ 4096) (h0 : 0 < n) (hB : w0.heap.size ≤ B) (hg : Grew w0 w) :
    Calls Tryd.prog 93 #[.slice (some ⟨g, 0, none⟩) n cap] w fun e w' => e = .returned (.tuple #[]) ∧ Grew w0 w' ∧ Owns w' B [stRn g n cap A f L.reverse] := by
  subst hn
  obtain ⟨g', c', eg, hBg, hgl, _⟩ := hO.some (k := 0) rfl h0
  simp only [Value.slice.injEq, Option.some.injEq, Addr.mk.injEq, and_true, true_and] at eg
  obtain ⟨rfl, rfl⟩ := eg
  have HO := Lib.hid hO
  have Hg := Lib.hid hg
  obtain ⟨n, hn⟩ : ∃ n, L.length = n := ⟨_, rfl⟩
  have Hn := Lib.hid hn
  rw [hn] at HO hn1 h0 ⊢
  clear hO hg hn
  go_enter Tryd.func93, Tryd.ntmps93
  go_wp2
  go_loopw [2, 3] (fun v2 v3 wq => ∃ i : Nat, 2 * i ≤ n ∧ v2 = .int .i64 i ∧ v3 = .int .i64 ((n : Int) - 1 - i) ∧ Grew w0 wq ∧ Owns wq B [stRn g n cap A f (revL L i)]) (fun v2 _ _ => n - (intOf v2).toNat)
  case atStart =>
    refine ⟨0, by omega, rfl, by simp, Hg.out, ?_⟩
    rw [← revL_zero]
    exact HO.out
  case round =>
    obtain ⟨i, hi, rfl, rfl, hgq, hOq⟩ := hrel
    have Hgq := Lib.hid hgq
    have HOq := Lib.hid hOq
    clear hgq hOq
    by_cases hlt : 2 * i + 1 < n
    · obtain ⟨j, hj⟩ : ∃ j, j + i + 1 = n := ⟨n - 1 - i, by omega⟩
      have hij : i < j := by omega
      have ej : (n : Int) - 1 - i = j := by omega
      have hlen := Hn.out
      have ri := revL_mid L (i := i) (t := i) (by omega) (by omega) (by omega)
      have rj := revL_mid L (i := i) (t := j) (by omega) (by omega) (by omega)
      have Hst := Lib.hid (revL_step L (i := i) (j := j) (by omega) hij)
      obtain ⟨⟨a1, b1⟩, h1⟩ : ∃ x, lg L i = x := ⟨_, rfl⟩
      obtain ⟨⟨a2, b2⟩, h2⟩ : ∃ x, lg L j = x := ⟨_, rfl⟩
      rw [h1] at ri Hst
      rw [h2] at rj Hst
      obtain ⟨_, _, hgl2, nG, mG⟩ := own_blk6 HOq.out
      have c10 := mG (i * 6) _ (by rw [← Nat.add_zero (i * 6)]; exact (stVs_get A f ri 0 (by omega)).trans rfl)
      have c11 := mG (i * 6 + 1) _ ((stVs_get A f ri 1 (by omega)).trans rfl)
      have c12 := mG (i * 6 + 2) _ ((stVs_get A f ri 2 (by omega)).trans rfl)
      have c13 := mG (i * 6 + 3) _ ((stVs_get A f ri 3 (by omega)).trans rfl)
      have c14 := mG (i * 6 + 4) _ ((stVs_get A f ri 4 (by omega)).trans rfl)
      have c15 := mG (i * 6 + 5) _ ((stVs_get A f ri 5 (by omega)).trans rfl)
      have c20 := mG (j * 6) _ (by rw [← Nat.add_zero (j * 6)]; exact (stVs_get A f rj 0 (by omega)).trans rfl)
      have c21 := mG (j * 6 + 1) _ ((stVs_get A f rj 1 (by omega)).trans rfl)
      have c22 := mG (j * 6 + 2) _ ((stVs_get A f rj 2 (by omega)).trans rfl)
      have c23 := mG (j * 6 + 3) _ ((stVs_get A f rj 3 (by omega)).trans rfl)
      have c24 := mG (j * 6 + 4) _ ((stVs_get A f rj 4 (by omega)).trans rfl)
      have c25 := mG (j * 6 + 5) _ ((stVs_get A f rj 5 (by omega)).trans rfl)
      have hne : i ≠ j := by omega
      have hne2 : j ≠ i := by omega
      have hin : i < n := by omega
      have hjn : j < n := by omega
      rw [ej]
      have f1 := fun k => nG k
      clear mG ri rj h1 h2 hlen nG
      go_upto_region 3 with fail
      refine wp_region_lex (Two 13 15 (fun b c => if c then ((((((((((((wr.setCell ⟨g, i * 6, none⟩ (.int .i64 (sF A a2 b2 : Int))).setCell ⟨g, i * 6 + 1, none⟩ (.int .i64 (sT A a2 b2 : Int))).setCell ⟨g, i * 6 + 2, none⟩ (.int .i64 (cst A a2))).setCell ⟨g, i * 6 + 3, none⟩ (.int .i64 (sR A f a2 b2))).setCell ⟨g, i * 6 + 4, none⟩ (.int .i64 (a2 : Int))).setCell ⟨g, i * 6 + 5, none⟩ (.bool b2)).setCell ⟨g, j * 6, none⟩ (.int .i64 (sF A a1 b1 : Int))).setCell ⟨g, j * 6 + 1, none⟩ (.int .i64 (sT A a1 b1 : Int))).setCell ⟨g, j * 6 + 2, none⟩ (.int .i64 (cst A a1))).setCell ⟨g, j * 6 + 3, none⟩ (.int .i64 (sR A f a1 b1))).setCell ⟨g, j * 6 + 4, none⟩ (.int .i64 (a1 : Int))).setCell ⟨g, j * 6 + 5, none⟩ (.bool b1)) else if b then ((((((wr.setCell ⟨g, i * 6, none⟩ (.int .i64 (sF A a2 b2 : Int))).setCell ⟨g, i * 6 + 1, none⟩ (.int .i64 (sT A a2 b2 : Int))).setCell ⟨g, i * 6 + 2, none⟩ (.int .i64 (cst A a2))).setCell ⟨g, i * 6 + 3, none⟩ (.int .i64 (sR A f a2 b2))).setCell ⟨g, i * 6 + 4, none⟩ (.int .i64 (a2 : Int))).setCell ⟨g, i * 6 + 5, none⟩ (.bool b2)) else wr)) (by kernel_rfl) (by kernel_rfl) ?_ ?_
      · (repeat (first | exact Grew.refl _ | refine Grew.over ?_ _ | refine Grew.alloc ?_ _ | refine Grew.drew ?_ | refine Grew.drewN ?_ _))
      repeat (first
        | (refine lex_skip rfl ?_ ?_
           · exact Two.keep (by decide) (by decide)
           (try simp only [Act.put, List.setIfInBounds_toArray, List.set_cons_zero, List.set_cons_succ]))
        | (refine lex_pure (v := ?_) rfl ?_ (fun d w hd hr hC => ?_) ?_
           rotate_left
           · exact Two.keep (by decide) (by decide)
           · (first
               | (have hs1 := closed_undone (s := 13) hr.2 rfl (by decide +kernel) hd; have hs2 := closed_undone (s := 15) hr.2 rfl (by decide +kernel) hd; unfold Two at hC; rw [hs1, hs2] at hC; obtain ⟨x, rfl⟩ := hC; simp [go_sem, ↓IntWalk.iteOmega, c10, c11, c12, c13, c14, c15, c20, c21, c22, c23, c24, c25, f1, hne, hne2, hin, hjn, Nat.not_le.2 hgl2]; try rfl)
               | (have hs2 := closed_undone (s := 15) hr.2 rfl (by decide +kernel) hd; unfold Two at hC; rw [hs2] at hC; cases hs1 : d 13 <;> rw [hs1] at hC <;> obtain ⟨x, rfl⟩ := hC <;> simp [go_sem, ↓IntWalk.iteOmega, c10, c11, c12, c13, c14, c15, c20, c21, c22, c23, c24, c25, f1, hne, hne2, hin, hjn, Nat.not_le.2 hgl2] <;> (try rfl))
               | (obtain ⟨x, rfl⟩ := hC; simp [go_sem, ↓IntWalk.iteOmega, c10, c11, c12, c13, c14, c15, c20, c21, c22, c23, c24, c25, f1, hne, hne2, hin, hjn, Nat.not_le.2 hgl2]; try rfl))
           (try simp only [Act.put, List.setIfInBounds_toArray, List.set_cons_zero, List.set_cons_succ]))
        | (refine lex_store rfl (fun d w hd hr hC => ?_) ?_
           · (first
               | (have hs2 := closed_undone (s := 15) hr.2 rfl (by decide +kernel) hd; unfold Two at hC ⊢; rw [mark_same, mark_other _ (by decide), hs2]; rw [hd, hs2] at hC; obtain ⟨x, rfl⟩ := hC; refine ⟨?_, ?_, ?_⟩; rotate_left; (simp [go_sem, ↓IntWalk.iteOmega, c10, c11, c12, c13, c14, c15, c20, c21, c22, c23, c24, c25, f1, hne, hne2, hin, hjn, Nat.not_le.2 hgl2]; try rfl); (simp; exact ⟨_, rfl⟩))
               | (have hs1 := ready_done (k := 13) hr.1 (by decide +kernel); unfold Two at hC ⊢; rw [mark_same, mark_other _ (by decide), hs1]; rw [hd, hs1] at hC; obtain ⟨x, rfl⟩ := hC; refine ⟨?_, ?_, ?_⟩; rotate_left; (simp [go_sem, ↓IntWalk.iteOmega, c10, c11, c12, c13, c14, c15, c20, c21, c22, c23, c24, c25, f1, hne, hne2, hin, hjn, Nat.not_le.2 hgl2]; try rfl); (simp; exact ⟨_, rfl⟩)))
           (try simp only [Act.put, List.setIfInBounds_toArray, List.set_cons_zero, List.set_cons_succ])))
      refine lex_nil ?_
      intro dLx w hd hC
      unfold Two at hC; rw [hd 13 (by decide), hd 15 (by decide)] at hC; obtain ⟨x, rfl⟩ := hC; simp only [if_true]
      obtain ⟨w5, hw5⟩ : ∃ w5, ((((((((((((wr.setCell ⟨g, i * 6, none⟩ (.int .i64 (sF A a2 b2 : Int))).setCell ⟨g, i * 6 + 1, none⟩ (.int .i64 (sT A a2 b2 : Int))).setCell ⟨g, i * 6 + 2, none⟩ (.int .i64 (cst A a2))).setCell ⟨g, i * 6 + 3, none⟩ (.int .i64 (sR A f a2 b2))).setCell ⟨g, i * 6 + 4, none⟩ (.int .i64 (a2 : Int))).setCell ⟨g, i * 6 + 5, none⟩ (.bool b2)).setCell ⟨g, j * 6, none⟩ (.int .i64 (sF A a1 b1 : Int))).setCell ⟨g, j * 6 + 1, none⟩ (.int .i64 (sT A a1 b1 : Int))).setCell ⟨g, j * 6 + 2, none⟩ (.int .i64 (cst A a1))).setCell ⟨g, j * 6 + 3, none⟩ (.int .i64 (sR A f a1 b1))).setCell ⟨g, j * 6 + 4, none⟩ (.int .i64 (a1 : Int))).setCell ⟨g, j * 6 + 5, none⟩ (.bool b1)) = w5 := ⟨_, rfl⟩
      have HO5 : Hid (Owns w5 B [stRn g n cap A f (revL L (i + 1))]) := Lib.hid (by
        have hl := Hn.out
        have h1 := own_setSt HOq.out (t := i) (by rw [revL_len]; omega) a2 b2
        have h2 := own_setSt h1 (t := j) (by rw [List.length_set, revL_len]; omega) a1 b1
        rw [Hst.out, hw5] at h2
        exact h2)
      have Hg5 : Hid (Grew w0 w5) := Lib.hid (by
        rw [← hw5]
        have hB2 := Nat.le_trans hB hBg
        exact Hgq.out.setCell hB2 _ |>.setCell hB2 _ |>.setCell hB2 _ |>.setCell hB2 _ |>.setCell hB2 _ |>.setCell hB2 _ |>.setCell hB2 _ |>.setCell hB2 _ |>.setCell hB2 _ |>.setCell hB2 _ |>.setCell hB2 _ |>.setCell hB2 _)
      rw [hw5]
      clear hw5
      go_wp2
      go_roundw
      case rel => exact ⟨i + 1, by omega, by go_num, by go_num, Hg5.out.trans (by (repeat (first | exact gR _ | refine gO ?_ _ | refine gA ?_ _ | refine gD ?_ | refine gN ?_ _))), HO5.out.grew (by (repeat (first | exact gR _ | refine gO ?_ _ | refine gA ?_ _ | refine gD ?_ | refine gN ?_ _)))⟩
      case measure => simp [intOf]; omega
    · have He : Hid (revL L i = L.reverse) := Lib.hid (revL_all L (by rw [Hn.out]; omega) (by rw [Hn.out]; omega))
      go_wp2
      refine bodyPost_end (results_none rfl _ _ _) rfl ?_
      exact ⟨rfl, Hgq.out.trans (by (repeat (first | exact gR _ | refine gO ?_ _ | refine gA ?_ _ | refine gD ?_ | refine gN ?_ _))), by rw [← He.out]; exact HOq.out.grew (by (repeat (first | exact gR _ | refine gO ?_ _ | refine gA ?_ _ | refine gD ?_ | refine gN ?_ _)))⟩
end Go.Proofs.YtiihgpgpbgafiaaDoor.Fl

/- The route of the program. -/
set_option linter.unusedSimpArgs false
set_option linter.unusedVariables false
namespace Go.Proofs.YtiihgpgpbgafiaaDoor.Fl
open Go.RowKit
attribute [local go_sem ↓] Go.wp_at_zero Go.wp_at_succ

/-- The vertex with demand that has been found. -/
def ToS (xs d : List Int) (far : Int) (v : Nat) (tv : Int) : Prop := (tv = -1 ∧ ∀ u, u < v → ge xs u < 0 → ge d u = far) ∨ ∃ t : Nat, tv = (t : Int) ∧ t < v ∧ ge xs t < 0 ∧ ge d t ≠ far
theorem ToS.zero (xs d : List Int) (far : Int) : ToS xs d far 0 (-1) := Or.inl ⟨rfl, fun u h => by omega⟩
theorem ToS.keep {xs d : List Int} {far : Int} {v : Nat} {tv : Int} (h : ToS xs d far v tv) (hn : 0 ≤ tv ∨ ¬ ge xs v < 0 ∨ ge d v = far) : ToS xs d far (v + 1) tv := by
  rcases h with ⟨h1, h2⟩ | ⟨t, h1, h2, h3⟩
  · refine Or.inl ⟨h1, fun u hu hx => ?_⟩
    by_cases e : u = v
    · subst e
      rcases hn with g | g | g
      · omega
      · exact absurd hx g
      · exact g
    · exact h2 u (by omega) hx
  · exact Or.inr ⟨t, h1, by omega, h3⟩
theorem ToS.here {xs d : List Int} {far : Int} {v : Nat} (h1 : ge xs v < 0) (h2 : ge d v ≠ far) : ToS xs d far (v + 1) (v : Int) := Or.inr ⟨v, rfl, by omega, h1, h2⟩
/-- No vertex with demand can be reached. -/
def NoWay (V : Nat) (far : Int) (src : Nat → Prop) (A : List Ark) (L : List (Nat × Bool)) (xs : List Int) : Prop := ∃ d, Settled far A L d ∧ (∀ v, v < V → src v → ge d v ≠ far) ∧ ∀ v, v < V → ge xs v < 0 → ge d v = far
/-- A cheapest way. -/
def WayTo (V : Nat) (far : Int) (src : Nat → Prop) (A : List Ark) (L : List (Nat × Bool)) (xs : List Int) (P : List (Nat × Bool)) : Prop :=
  ∃ d ch a t, Settled far A L d ∧ Wy V A L far d ch P a t ∧ src a ∧ t < V ∧ ge xs t < 0

set_option maxRecDepth 8000 in
set_option maxHeartbeats 16000000 in
theorem route_p (pv r : Option Addr) (nl cv V cr : Nat) (s xs : List Int) (A : List Ark) (f : List Int) (π : Nat → Int) (w : World) (hV : vN s A) (hp : Pot A f π) (hS : Stps w pv A f (resL A f A.length)) (hX : Ints w r xs) (hl : (resL A f A.length).length = nl) (hn : s.length = V) (hx : xs.length = V) :
    Calls Tryd.prog 85 #[.agg #[.slice pv nl cv, .func (.func 91) #[] #[]], .slice r V cr] w fun e w' => Grew w w' ∧ ((e = .returned (.slice none 0 0) ∧ NoWay V farP (fun v => 0 < ge xs v) A (resL A f A.length) xs) ∨
      ∃ g n c P, e = .returned (.slice (some ⟨g, 0, none⟩) n c) ∧ P.length = n ∧ 0 < n ∧ Owns w' w.heap.size [stRn g n c A f P] ∧ WayTo V farP (fun v => 0 < ge xs v) A (resL A f A.length) xs P) := by
  have h256 := hV.n
  have Hse := Lib.hid (fun (W : World) (hg : Grew w W) => search_p pv r nl cv V cr s xs A f π W hV hp (hS.grew hg) (hX.grew hg) hl hn hx)
  subst hl hn
  have hl4096 : (resL A f A.length).length ≤ 4096 := by have := resL_len A f A.length; have := hV.m; omega
  have HV := Lib.hid hV
  have HS := Lib.hid hS
  have HX := Lib.hid hX
  have Hx := Lib.hid hx
  obtain ⟨L, hL⟩ : ∃ L, resL A f A.length = L := ⟨_, rfl⟩
  rw [hL] at HS hl4096 Hse ⊢
  have HL := Lib.hid hL
  have Hm : Hid (∀ (t i : Nat) (b : Bool), L[t]? = some (i, b) → i < A.length) := Lib.hid (fun t i b ht => by rw [← HL.out] at ht; exact (mem_resL.1 (List.mem_of_getElem? ht)).1)
  clear hV hp hS hX hL hx
  go_enter Tryd.func85, Tryd.ntmps85
  go_upto_region 1 with fail
  obtain ⟨wz, hwz⟩ : ∃ wz, w.alloc (.cells #[.slice pv L.length cv, .func (.func 91) #[] #[]] 116) = wz := ⟨_, rfl⟩
  have x0 : wz.cell? ⟨w.heap.size, 0, none⟩ = some (.slice pv L.length cv) := by rw [← hwz]; simp [go_sem]
  have x1 : wz.cell? ⟨w.heap.size, 1, none⟩ = some (.func (.func 91) #[] #[]) := by rw [← hwz]; simp [go_sem]
  have Hgz : Hid (Grew w wz) := Lib.hid (by rw [← hwz]; (repeat (first | exact gR _ | refine gO ?_ _ | refine gA ?_ _ | refine gD ?_ | refine gN ?_ _)))
  have hbz : w.heap.size < wz.heap.size := by rw [← hwz]; simp
  rw [hwz]
  clear hwz
  go_wp2_with (go_at_call 92; apply Calls.mono; (with_reducible exact Hse.out _ Hgz.out); rintro e w1 ⟨hg1, g6, g7, d, pr, rfl, hO1, hOut⟩; have Hg1 := Lib.hid hg1; have HO1 := Lib.hid hO1; have HOut := Lib.hid hOut; clear hg1 hO1 hOut)
  obtain ⟨ch, hSe, hSt⟩ := HOut.out
  have HSe := Lib.hid hSe
  have HSt := Lib.hid hSt
  have Hlo : Hid (∀ v, v < s.length → ge d v = farP ∨ ge d v ≤ 256000) := Lib.hid (fun v hv => by
    by_cases e : ge d v = farP
    · exact Or.inl e
    · exact Or.inr (by have := hSe.bf.bound hv e; omega))
  clear hSe hSt HOut
  have Hgw1 := Lib.hid (Hgz.out.trans Hg1.out)
  go_loopw [7, 20] (fun v7 v20 wr => ∃ (v : Nat) (tv : Int), v ≤ s.length ∧ v20 = .int .i64 v ∧ v7 = .int .i64 tv ∧ ToS xs d farP v tv ∧ Grew w1 wr) (fun _ v20 _ => s.length - (intOf v20).toNat)
  case atStart => exact ⟨0, -1, Nat.zero_le _, rfl, rfl, ToS.zero _ _ _, Grew.refl _⟩
  case round =>
    obtain ⟨v, tv, hv, rfl, rfl, hT, hg⟩ := hrel
    have HT := Lib.hid hT
    have Hg := Lib.hid hg
    clear hT hg
    by_cases hlt : v < s.length
    · obtain ⟨bx, ox, hx3, hx4⟩ := (HX.out.grew (Hgw1.out.trans Hg.out)).open
      obtain ⟨rfl, hbx⟩ := hx3 (by have := Hx.out; omega)
      have cx := hx4 v (by have := Hx.out; omega)
      have e6 := own_atI (HO1.out.grew Hg.out) (j := 0) rfl (i := v) hlt
      have b6 := own_lt (HO1.out.grew Hg.out) (j := 0) rfl
      have hlo := Hlo.out v hlt
      have HTk := Lib.hid (fun h => HT.out.keep h)
      have HTh := Lib.hid (fun (h1 : ge xs v < 0) (h2 : ge d v ≠ farP) => (ToS.here h1 h2 : ToS xs d farP (v + 1) v))
      obtain ⟨xv, hxv⟩ : ∃ x, ge xs v = x := ⟨_, rfl⟩
      obtain ⟨dv, hdv⟩ : ∃ x, ge d v = x := ⟨_, rfl⟩
      rw [hxv] at cx HTk HTh
      rw [hdv] at e6 hlo HTk HTh
      clear hx3 hx4 hxv hdv
      go_upto_region 6 with fail
      by_cases hx0 : xv < 0
      · by_cases hd0 : dv < 1152921504606846976
        · have hdf : dv ≠ farP := fun e => by rw [e] at hd0; exact absurd hd0 (by decide)
          rcases HT.out with ⟨rfl, _⟩ | ⟨t, rfl, htv, _, _⟩
          · have HT2 := Lib.hid (HTh.out hx0 hdf)
            refine wp_region_over (by kernel_rfl) (by kernel_rfl) ?_; (repeat (go_big_quiet_step (fail))); refine wpQuiet_nil ?_; intro w4 hW; replace hW : Grew _ w4 := hW
            have Hg4 := Lib.hid (Hg.out.trans hW)
            clear hW
            go_wp2
            go_roundw
            case rel => exact ⟨v + 1, v, by omega, by go_num, rfl, HT2.out, Hg4.out⟩
            case measure => simp [intOf]; omega
          · have et := own_atI (HO1.out.grew Hg.out) (j := 0) rfl (i := t) (by omega)
            obtain ⟨dt, hdt⟩ : ∃ x, ge d t = x := ⟨_, rfl⟩
            rw [hdt] at et
            clear hdt
            have htl : t < s.length := by omega
            have ht0 : ¬ (t : Int) < 0 := by omega
            by_cases hdd : dv < dt
            · have HT2 := Lib.hid (HTh.out hx0 hdf)
              refine wp_region_over (by kernel_rfl) (by kernel_rfl) ?_; (repeat (go_big_quiet_step (fail))); refine wpQuiet_nil ?_; intro w4 hW; replace hW : Grew _ w4 := hW
              have Hg4 := Lib.hid (Hg.out.trans hW)
              clear hW
              go_wp2
              go_roundw
              case rel => exact ⟨v + 1, v, by omega, by go_num, rfl, HT2.out, Hg4.out⟩
              case measure => simp [intOf]; omega
            · have HT2 := Lib.hid (HTk.out (Or.inl (by omega)))
              refine wp_region_over (by kernel_rfl) (by kernel_rfl) ?_; (repeat (go_big_quiet_step (fail))); refine wpQuiet_nil ?_; intro w4 hW; replace hW : Grew _ w4 := hW
              have Hg4 := Lib.hid (Hg.out.trans hW)
              clear hW
              go_wp2
              go_roundw
              case rel => exact ⟨v + 1, t, by omega, by go_num, rfl, HT2.out, Hg4.out⟩
              case measure => simp [intOf]; omega
        · have HT2 := Lib.hid (HTk.out (Or.inr (Or.inr (by rcases hlo with g | g; exact g; omega))))
          refine wp_region_over (by kernel_rfl) (by kernel_rfl) ?_; (repeat (go_big_quiet_step (fail))); refine wpQuiet_nil ?_; intro w4 hW; replace hW : Grew _ w4 := hW
          have Hg4 := Lib.hid (Hg.out.trans hW)
          clear hW
          go_wp2
          go_roundw
          case rel => exact ⟨v + 1, tv, by omega, by go_num, rfl, HT2.out, Hg4.out⟩
          case measure => simp [intOf]; omega
      · have HT2 := Lib.hid (HTk.out (Or.inr (Or.inl hx0)))
        refine wp_region_over (by kernel_rfl) (by kernel_rfl) ?_; (repeat (go_big_quiet_step (fail))); refine wpQuiet_nil ?_; intro w4 hW; replace hW : Grew _ w4 := hW
        have Hg4 := Lib.hid (Hg.out.trans hW)
        clear hW
        go_wp2
        go_roundw
        case rel => exact ⟨v + 1, tv, by omega, by go_num, rfl, HT2.out, Hg4.out⟩
        case measure => simp [intOf]; omega
    · have hve : v = s.length := by omega
      subst hve
      rcases HT.out with ⟨rfl, hno⟩ | ⟨t, rfl, htv, hxt, hdt⟩
      · have Hno : Hid (NoWay s.length farP (fun v => 0 < ge xs v) A L xs) := Lib.hid ⟨d, HSt.out, HSe.out.srcf, hno⟩
        go_wp2
        go_ret
        exact ⟨Hgw1.out.trans (Hg.out.trans (by (repeat (first | exact gR _ | refine gO ?_ _ | refine gA ?_ _ | refine gD ?_ | refine gN ?_ _)))), Or.inl ⟨rfl, Hno.out⟩⟩
      · have HW0 : Hid (Wy s.length A L farP d ch [] t t) := Lib.hid (Wy.nil htv)
        obtain ⟨Bb, hBb⟩ : ∃ Bb, w1.heap.size = Bb := ⟨_, rfl⟩
        have hbB : w.heap.size < Bb := by have := Nat.lt_of_lt_of_le hbz Hg1.out.below.size; omega
        have h6B : g6 < Bb := by have := own_lt HO1.out (j := 0) rfl; omega
        have h7B : g7 < Bb := by have := own_lt HO1.out (j := 1) rfl; omega
        have Hxt := Lib.hid hxt
        have Hdt := Lib.hid hdt
        have HBb := Lib.hid hBb
        have ht0 : ¬ (t : Int) < 0 := by omega
        clear hBb hxt hdt HT
        go_wp2
        go_loopg [10, 11] (ch t).length (fun gk v10 v11 wk => ∃ (P : List (Nat × Bool)) (v : Nat) (pl : Option Addr) (cl : Nat), v11 = .int .i64 (v : Int) ∧ v10 = .slice pl P.length cl ∧ Wy s.length A L farP d ch P v t ∧ ge d v ≠ farP ∧ (ch v).length = gk ∧ Owns wk Bb [⟨.slice pl P.length cl, 120, 6, P.length, stVs A f P.reverse⟩] ∧ Grew w1 wk)
        case atStart => exact ⟨[], t, none, 0, rfl, rfl, HW0.out, Hdt.out, rfl, (Owns.nil _ Bb).none _ _, Hg.out⟩
        case round =>
          clear Hg HW0
          obtain ⟨P, v, pl, cl, rfl, rfl, hW, hdv, hgk, hO, hg⟩ := hrel
          have HW := Lib.hid hW
          have Hdv := Lib.hid hdv
          have HO := Lib.hid hO
          have Hg := Lib.hid hg
          have hvV := hW.vs
          have hPl := hW.len
          clear hO hg hdv
          have e7 := own_atI (HO1.out.grew Hg.out) (j := 1) rfl (i := v) hvV
          have hsw : Bb ≤ wr.heap.size := by have := Hg.out.below.size; rw [HBb.out] at this; exact this
          by_cases hpr : ge pr v = -1
          · have hsrc := HSe.out.root v hvV Hdv.out hpr
            have h0 : 0 < P.length := by
              cases P with
              | nil =>
                have e : v = t := hW.way
                rw [e] at hsrc
                have := Hxt.out
                omega
              | cons x P => simp
            obtain ⟨g, c', eg, hBg, _⟩ := HO.out.some (k := 0) rfl h0
            simp only [Value.slice.injEq] at eg
            obtain ⟨rfl, _, rfl⟩ := eg
            have Hwt : Hid (WayTo s.length farP (fun v => 0 < ge xs v) A L xs P) := Lib.hid ⟨d, ch, v, t, HSt.out, HW.out, hsrc, htv, Hxt.out⟩
            have Hrv := Lib.hid (fun (W : World) (hg : Grew wr W) => reverse_s g P.length cl Bb A f P.reverse W w1 (HO.out.grew hg) List.length_reverse (by omega) h0 (by rw [HBb.out]; exact Nat.le_refl _) (Hg.out.trans hg))
            rw [hpr] at e7
            go_wp2_with (go_at_call 93; apply Calls.mono; (with_reducible exact Hrv.out _ (by (repeat (first | exact gR _ | refine gO ?_ _ | refine gA ?_ _ | refine gD ?_ | refine gN ?_ _)))); rintro e w8 ⟨rfl, hg8, hO8⟩; have Hg8 := Lib.hid hg8; have HO8 := Lib.hid hO8; clear hg8 hO8)
            go_ret
            refine ⟨Hgw1.out.trans (Hg8.out.trans (by (repeat (first | exact gR _ | refine gO ?_ _ | refine gA ?_ _ | refine gD ?_ | refine gN ?_ _)))), Or.inr ⟨g, P.length, cl, P, rfl, rfl, h0, ?_, Hwt.out⟩⟩
            have h := HO8.out
            rw [List.reverse_reverse] at h
            exact (h.grew (by (repeat (first | exact gR _ | refine gO ?_ _ | refine gA ?_ _ | refine gD ?_ | refine gN ?_ _)))).base (Nat.le_of_lt hbB)
          · obtain ⟨j, i, b, hprj, hjL, hW2, hch2, hdv2⟩ := HSe.out.back HSt.out HW.out hpr (fun i b hm => by
              obtain ⟨t', ht'⟩ := List.getElem?_of_mem hm
              exact sF_lt HV.out (Hm.out t' i b ht') b)
            have HW2 := Lib.hid hW2
            have Hdv2 := Lib.hid hdv2
            have hjl : j < L.length := (List.getElem?_eq_some_iff.1 hjL).1
            have hi := Hm.out j i b hjL
            have hPl2 := hW2.len
            obtain ⟨gS, g1, g2⟩ := HS.out
            obtain ⟨rfl, hgS⟩ := g1 (by omega)
            obtain ⟨c0, c1, c2, c3, c4, c5⟩ := g2 j i b hjL
            have hgr := Hgw1.out.trans Hg.out
            replace c0 := hgr.cellEq c0
            replace c1 := hgr.cellEq c1
            replace c2 := hgr.cellEq c2
            replace c3 := hgr.cellEq c3
            replace c4 := hgr.cellEq c4
            replace c5 := hgr.cellEq c5
            have x0w := (Hg1.out.trans Hg.out).cellEq x0
            rw [hprj] at e7
            have hu := sF_lt HV.out hi b
            have Hvs : Hid (stVs A f ((i, b) :: P).reverse = stVs A f P.reverse ++ [.int .i64 (sF A i b : Int), .int .i64 (sT A i b : Int), .int .i64 (cst A i), .int .i64 (sR A f i b), .int .i64 (i : Int), .bool b]) := Lib.hid (by rw [List.reverse_cons, stVs_app]; show _ ++ (st1 A f i b ++ []) = _; rw [List.append_nil]; rfl)
            obtain ⟨u, eu⟩ : ∃ u, sF A i b = u := ⟨_, rfl⟩
            obtain ⟨v2, ev⟩ : ∃ v, sT A i b = v := ⟨_, rfl⟩
            obtain ⟨co, eco⟩ : ∃ x, cst A i = x := ⟨_, rfl⟩
            obtain ⟨ro, ero⟩ : ∃ x, sR A f i b = x := ⟨_, rfl⟩
            rw [eu] at c0 hu HW2 Hdv2 hch2
            rw [ev] at c1
            rw [eco] at c2
            rw [ero] at c3
            rw [eu, ev, eco, ero] at Hvs
            clear g1 g2 hgr hpr hprj hjL hW2 hdv2 hW ev eco ero eu
            go_upto_region 15 with fail
            refine wp_region_T (s := 11) (S := fun w' => w'.cell? ⟨w.heap.size, 0, none⟩ = some (.slice (some ⟨gS, 0, none⟩) L.length cv) ∧ w'.cell? ⟨g7, v, none⟩ = some (.int .i64 (j : Int)) ∧ w'.cell? ⟨gS, j * 6, none⟩ = some (.int .i64 (u : Int)) ∧ w'.cell? ⟨gS, j * 6 + 1, none⟩ = some (.int .i64 (v2 : Int)) ∧ w'.cell? ⟨gS, j * 6 + 2, none⟩ = some (.int .i64 co) ∧ w'.cell? ⟨gS, j * 6 + 3, none⟩ = some (.int .i64 ro) ∧ w'.cell? ⟨gS, j * 6 + 4, none⟩ = some (.int .i64 (i : Int)) ∧ w'.cell? ⟨gS, j * 6 + 5, none⟩ = some (.bool b)) (by kernel_rfl) ⟨x0w, e7, c0, c1, c2, c3, c4, c5⟩ (fun hH => ?_)
            refine wpAnyT_takeL (i := 0) (v := ?_) rfl (by kernel_rfl) (by kernel_rfl) (by kernel_rfl) (by kernel_rfl) (fun _ _ _ h => h) (Or.inl ⟨by rfl, ?_⟩) (by assumption) ?_
            rotate_left
            · (intro w hSw; (try dsimp only at hSw); go_simp; (try with_reducible rfl))
            (try simp only [Act.put, List.setIfInBounds_toArray, List.set_cons_zero, List.set_cons_succ])
            refine wpAnyT_takeL (i := 1) (v := ?_) rfl (by kernel_rfl) (by kernel_rfl) (by kernel_rfl) (by kernel_rfl) (fun _ _ _ h => h) (Or.inl ⟨by rfl, ?_⟩) (by assumption) ?_
            rotate_left
            · (intro w hSw; (try dsimp only at hSw); go_simp; (try with_reducible rfl))
            (try simp only [Act.put, List.setIfInBounds_toArray, List.set_cons_zero, List.set_cons_succ])
            refine wpAnyT_takeL (i := 2) (v := ?_) rfl (by kernel_rfl) (by kernel_rfl) (by kernel_rfl) (by kernel_rfl) (fun _ _ _ h => h) (Or.inl ⟨by rfl, ?_⟩) (by assumption) ?_
            rotate_left
            · (intro w hSw; (try dsimp only at hSw); go_simp; (try with_reducible rfl))
            (try simp only [Act.put, List.setIfInBounds_toArray, List.set_cons_zero, List.set_cons_succ])
            refine wpAnyT_takeL (i := 3) (v := ?_) rfl (by kernel_rfl) (by kernel_rfl) (by kernel_rfl) (by kernel_rfl) (fun _ _ _ h => h) (Or.inl ⟨by rfl, ?_⟩) (by assumption) ?_
            rotate_left
            · (intro w hSw; (try dsimp only at hSw); go_simp; (try with_reducible rfl))
            (try simp only [Act.put, List.setIfInBounds_toArray, List.set_cons_zero, List.set_cons_succ])
            refine wpAnyT_takeL (i := 4) (v := ?_) rfl (by kernel_rfl) (by kernel_rfl) (by kernel_rfl) (by kernel_rfl) (fun _ _ _ h => h) (Or.inl ⟨by rfl, ?_⟩) (by assumption) ?_
            rotate_left
            · (intro w hSw; (try dsimp only at hSw); go_simp; (try with_reducible rfl))
            (try simp only [Act.put, List.setIfInBounds_toArray, List.set_cons_zero, List.set_cons_succ])
            refine wpAnyT_takeL (i := 5) (v := ?_) rfl (by kernel_rfl) (by kernel_rfl) (by kernel_rfl) (by kernel_rfl) (fun _ _ _ h => h) (Or.inl ⟨by rfl, ?_⟩) (by assumption) ?_
            rotate_left
            · (intro w hSw; (try dsimp only at hSw); go_simp; (try with_reducible rfl))
            (try simp only [Act.put, List.setIfInBounds_toArray, List.set_cons_zero, List.set_cons_succ])
            refine wpAnyT_takeL (i := 6) (v := ?_) rfl (by kernel_rfl) (by kernel_rfl) (by kernel_rfl) (by kernel_rfl) (fun _ _ _ h => h) (Or.inl ⟨by rfl, ?_⟩) (by assumption) ?_
            rotate_left
            · (intro w hSw; (try dsimp only at hSw); go_simp; (try with_reducible rfl))
            (try simp only [Act.put, List.setIfInBounds_toArray, List.set_cons_zero, List.set_cons_succ])
            refine wpAnyT_takeL (i := 7) (v := ?_) rfl (by kernel_rfl) (by kernel_rfl) (by kernel_rfl) (by kernel_rfl) (fun _ _ _ h => h) (Or.inl ⟨by rfl, ?_⟩) (by assumption) ?_
            rotate_left
            · (intro w hSw; (try dsimp only at hSw); go_simp; (try with_reducible rfl))
            (try simp only [Act.put, List.setIfInBounds_toArray, List.set_cons_zero, List.set_cons_succ])
            refine wpAnyT_takeL (i := 8) (v := ?_) rfl (by kernel_rfl) (by kernel_rfl) (by kernel_rfl) (by kernel_rfl) (fun _ _ _ h => h) (Or.inl ⟨by rfl, ?_⟩) (by assumption) ?_
            rotate_left
            · (intro w hSw; (try dsimp only at hSw); go_simp; (try with_reducible rfl))
            (try simp only [Act.put, List.setIfInBounds_toArray, List.set_cons_zero, List.set_cons_succ])
            refine wpAnyT_all (rs := [9]) (by kernel_rfl) (by simp) (AllT.consL (i := 9) rfl (fun K hK => ?_) AllT.nil)
            go_simp
            refine hK.out _ _ ?_ (fun hH => ?_)
            · (first | (simp [go_sem, ↓IntWalk.iteOmega, *]; done) | go_keep)
            clear hK K
            (try simp only [Act.put, List.setIfInBounds_toArray, List.set_cons_zero, List.set_cons_succ])
            refine wpAnyT_all (rs := [10]) (by kernel_rfl) (by simp) (AllT.consL (i := 10) rfl (fun K hK => ?_) AllT.nil)
            refine step_append_owns rfl _ _ 113 (by rfl) 120 6 48 (.agg #[.int .i64 0, .int .i64 0, .int .i64 0, .int .i64 0, .int .i64 0, .bool false]) Tryd.underlying113 Tryd.infoStep rfl (by decide) Bb _ 0 _ _ _ (HO.out.grew (by (repeat (first | exact gR _ | refine gO ?_ _ | refine gA ?_ _ | refine gD ?_ | refine gN ?_ _)))) rfl (by rfl) _ 1 1 (by rfl) [.int .i64 (u : Int), .int .i64 (v2 : Int), .int .i64 co, .int .i64 ro, .int .i64 (i : Int), .bool b] rfl (fun h => by cases h) (six_news (by (simp [go_sem, ↓IntWalk.iteOmega])) (by (simp [go_sem, ↓IntWalk.iteOmega])) (by (simp [go_sem, ↓IntWalk.iteOmega])) (by (simp [go_sem, ↓IntWalk.iteOmega])) (by (simp [go_sem, ↓IntWalk.iteOmega])) (by (simp [go_sem, ↓IntWalk.iteOmega]))) (by simp [Value.oneCell']) (by simp only [maxLen]; omega) (by omega) (by first | rfl | omega | (simp <;> omega)) ?_
            intro v1 w6 hO1 hg1 hb1 _
            obtain ⟨p1, c1', rfl⟩ := own_form hO1 (k := 0) rfl
            have hold : ∀ (b i : Nat) x, b < Bb → wr.cell? ⟨b, i, none⟩ = some x → w6.cell? ⟨b, i, none⟩ = some x := fun b i x hb h => by
              rw [grownBy_cell hg1 i (by simp; omega) (fun g hg e => by have := hb1 g hg; omega)]
              exact Grew.cellEq (by (repeat (first | exact gR _ | refine gO ?_ _ | refine gA ?_ _ | refine gD ?_ | refine gN ?_ _))) h
            have q1 := hold _ _ _ (by omega) x0w
            have q2 := hold _ _ _ (by omega) e7
            have q3 := hold _ _ _ (by omega) c0
            have q4 := hold _ _ _ (by omega) c1
            have q5 := hold _ _ _ (by omega) c2
            have q6 := hold _ _ _ (by omega) c3
            have q7 := hold _ _ _ (by omega) c4
            have q8 := hold _ _ _ (by omega) c5
            refine hK.out _ _ ⟨q1, q2, q3, q4, q5, q6, q7, q8⟩ (fun hH => ?_)
            clear hK K
            (try simp only [Act.put, List.setIfInBounds_toArray, List.set_cons_zero, List.set_cons_succ])
            have Hg6 := Lib.hid (Grew.grownBy (w0 := w1) (Hg.out.trans (by (repeat (first | exact gR _ | refine gO ?_ _ | refine gA ?_ _ | refine gD ?_ | refine gN ?_ _)))) hg1 (fun k hk => by have := hb1 k hk; have := HBb.out; omega))
            have HO6 := Lib.hid hO1
            clear hO1 hg1 hb1 hold x0w e7 c0 c1 c2 c3 c4 c5
            refine wpAnyT_all (rs := [11]) (by kernel_rfl) (by simp) (AllT.lastL rfl (fun K hK => ?_))
            go_simp
            refine hK.out _ _ ?_
            clear hK K
            (try simp only [Act.put, List.setIfInBounds_toArray, List.set_cons_zero, List.set_cons_succ])
            refine wpAnyT_done (by kernel_rfl) ?_ _
            have hs6 : Bb ≤ w6.heap.size := by have := Hg6.out.below.size; rw [HBb.out] at this; exact this
            have b1 : w.heap.size < w6.heap.size := by omega
            have b2 : g7 < w6.heap.size := by omega
            have b3 : gS < w6.heap.size := by omega
            have HlA : Hid (P.reverse.length = P.length) := Lib.hid List.length_reverse
            clear q4 q5 q6 q7 q8
            go_upto_region 14 with fail
            refine wp_region_over (by kernel_rfl) (by kernel_rfl) ?_; (repeat (go_big_quiet_step (fail))); refine wpQuiet_nil ?_; intro w7 hW; replace hW : Grew _ w7 := hW
            have Hg7 := Lib.hid (Hg6.out.trans hW)
            have HO7 := Lib.hid (HO6.out.grew hW)
            clear hW
            go_wp2
            go_roundg (ch u).length
            case rel =>
              refine ⟨(i, b) :: P, u, p1, c1', rfl, by rw [List.length_cons], HW2.out, Hdv2.out, rfl, ?_, Hg7.out⟩
              have h := HO7.out
              rw [List.length_cons, Hvs.out]
              exact h
            case measure => omega
end Go.Proofs.YtiihgpgpbgafiaaDoor.Fl
