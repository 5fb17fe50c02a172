/- Tidy drawings: what the program keeps of a part (the extents of its depths, the positions in one list), and how one step changes it. No program in sight. -/
import Derived.Test.YtgodoeefgmfpfaaTidyN
set_option linter.unusedSimpArgs false
set_option linter.unusedVariables false
namespace Go.Proofs.Ytgodoeefgmfpfaa

abbrev Ext := List (Int × Int)
def ex (E : Ext) (d : Nat) : Int × Int := E.getD d (0, 0)
theorem ex_lt (E : Ext) {d : Nat} (h : d < E.length) : ex E d = E[d] := by simp [ex, h]
theorem ex_cons_succ (x : Int × Int) (E : Ext) (d : Nat) : ex (x :: E) (d + 1) = ex E d := by simp [ex]
theorem ex_cons_zero (x : Int × Int) (E : Ext) : ex (x :: E) 0 = x := by simp [ex]
theorem ex_set (E : Ext) {j : Nat} (hj : j < E.length) (x : Int × Int) (d : Nat) : ex (E.set j x) d = if d = j then x else ex E d := by
  unfold ex
  rw [List.getD_eq_getElem?_getD, List.getElem?_set]
  by_cases h : j = d
  · subst h; rw [if_pos rfl, if_pos hj, if_pos rfl]; rfl
  · rw [if_neg h, if_neg (Ne.symm h), List.getD_eq_getElem?_getD]
theorem ex_snoc (E : Ext) (x : Int × Int) (d : Nat) : ex (E ++ [x]) d = if d < E.length then ex E d else if d = E.length then x else (0, 0) := by
  unfold ex
  rw [List.getD_eq_getElem?_getD, List.getElem?_append]
  by_cases h : d < E.length
  · rw [if_pos h, if_pos h, List.getD_eq_getElem?_getD]
  · rw [if_neg h, if_neg h]
    by_cases h2 : d = E.length
    · subst h2; simp
    · rw [if_neg h2, List.getElem?_eq_none (by simp; omega)]; rfl

/-- E tells, for each depth from base on, the least left and the greatest right end of the boxes of s, moved by t. -/
def IsExt (P W : List Int) (s : Dr) (base : Nat) (t : Int) (E : Ext) : Prop :=
  (∀ q ∈ s, base ≤ dep P q.1 ∧ dep P q.1 < base + E.length) ∧
  ∀ d, d < E.length → (∀ q ∈ s, dep P q.1 = base + d → (ex E d).1 ≤ lfE W q + t ∧ rtE W q + t ≤ (ex E d).2) ∧
    (∃ q ∈ s, dep P q.1 = base + d ∧ lfE W q + t = (ex E d).1) ∧ (∃ q ∈ s, dep P q.1 = base + d ∧ rtE W q + t = (ex E d).2)
theorem IsExt.nil (P W : List Int) (base : Nat) (t : Int) : IsExt P W [] base t [] := ⟨(fun q h => by cases h), (fun d h => by simp at h)⟩
theorem IsExt.bd {P W : List Int} {sep : Int} (hW : wOK W sep) {s : Dr} {base : Nat} {t : Int} {E : Ext} (h : IsExt P W s base t E) (hz : SpanZ W s t) (hl : s.length ≤ 64) {d : Nat} (hd : d < E.length) :
    (-134217728 ≤ (ex E d).1 ∧ (ex E d).1 ≤ 134217728) ∧ -134217728 ≤ (ex E d).2 ∧ (ex E d).2 ≤ 134217728 := by
  obtain ⟨_, ⟨p, hp, _, h1⟩, ⟨q, hq, _, h2⟩⟩ := h.2 d hd
  have := hz.bd hW hl p hp
  have := hz.bd hW hl q hq
  omega
theorem IsExt.len {P W : List Int} (hP : vFor P) {s : Dr} {base : Nat} {t : Int} {E : Ext} (h : IsExt P W s base t E) (hs : ∀ q ∈ s, q.1 < P.length) : E.length ≤ 64 := by
  rcases Nat.eq_zero_or_pos E.length with h0 | h0
  · omega
  · obtain ⟨_, ⟨p, hp, h1, _⟩, _⟩ := h.2 (E.length - 1) (by omega)
    have h2 := dep_le hP p.1 (hs p hp)
    have h3 := hs p hp
    have := hP.1
    omega

/-- The shift, as the program finds it in the first j extents. -/
def shP (A O : Ext) (sep : Int) : Nat → Int
  | 0 => 0
  | j + 1 => if j < A.length then (if j = 0 ∨ shP A O sep j < (ex A j).2 + sep - (ex O j).1 then (ex A j).2 + sep - (ex O j).1 else shP A O sep j) else shP A O sep j
theorem shP_spec (A O : Ext) (sep : Int) (hA : 0 < A.length) : ∀ j, 0 < j → (∃ d, d < j ∧ d < A.length ∧ shP A O sep j = (ex A d).2 + sep - (ex O d).1) ∧ ∀ d, d < j → d < A.length → (ex A d).2 + sep - (ex O d).1 ≤ shP A O sep j := by
  intro j
  induction j with
  | zero => intro h; omega
  | succ j ih =>
    intro _
    rcases Nat.eq_zero_or_pos j with h0 | h0
    · subst h0
      simp only [shP, if_pos hA, true_or, if_true]
      exact ⟨⟨0, by omega, hA, rfl⟩, fun d hd _ => by
        have : d = 0 := by omega
        subst this; exact Int.le_refl _⟩
    · obtain ⟨⟨e, he1, he2, he3⟩, h2⟩ := ih h0
      simp only [shP]
      by_cases hj : j < A.length
      · rw [if_pos hj]
        by_cases hb : j = 0 ∨ shP A O sep j < (ex A j).2 + sep - (ex O j).1
        · rw [if_pos hb]
          refine ⟨⟨j, by omega, hj, rfl⟩, fun d hd hdA => ?_⟩
          by_cases e : d = j
          · subst e; exact Int.le_refl _
          · have := h2 d (by omega) hdA; omega
        · rw [if_neg hb]
          refine ⟨⟨e, by omega, he2, he3⟩, fun d hd hdA => ?_⟩
          by_cases e : d = j
          · subst e; omega
          · exact h2 d (by omega) hdA
      · rw [if_neg hj]
        refine ⟨⟨e, by omega, he2, he3⟩, fun d hd hdA => h2 d (by omega) hdA⟩

/-- The extents of both, as the program merges them, behind the first j. -/
def mgP (A O : Ext) (sh : Int) : Nat → Ext
  | 0 => A
  | j + 1 => if j < (mgP A O sh j).length then (mgP A O sh j).set j (min (ex (mgP A O sh j) j).1 ((ex O j).1 + sh), max (ex (mgP A O sh j) j).2 ((ex O j).2 + sh))
      else mgP A O sh j ++ [((ex O j).1 + sh, (ex O j).2 + sh)]
theorem mgP_spec (A O : Ext) (sh : Int) : ∀ j, (mgP A O sh j).length = max A.length j ∧ ∀ d, ex (mgP A O sh j) d =
    if d < j then (if d < A.length then (min (ex A d).1 ((ex O d).1 + sh), max (ex A d).2 ((ex O d).2 + sh)) else ((ex O d).1 + sh, (ex O d).2 + sh)) else ex A d := by
  intro j
  induction j with
  | zero => exact ⟨by simp [mgP], fun d => by simp [mgP]⟩
  | succ j ih =>
    obtain ⟨h1, h2⟩ := ih
    have h3 := h2 j
    rw [if_neg (by omega)] at h3
    simp only [mgP]
    by_cases hj : j < (mgP A O sh j).length
    · rw [if_pos hj]
      refine ⟨by rw [List.length_set]; omega, fun d => ?_⟩
      rw [ex_set _ hj, h2 d, h3]
      by_cases e : d = j
      · subst e
        rw [if_pos rfl, if_pos (by omega), if_pos (by omega)]
      · rw [if_neg e]
        by_cases hd : d < j
        · rw [if_pos hd, if_pos (show d < j + 1 by omega)]
        · rw [if_neg hd, if_neg (show ¬ d < j + 1 by omega)]
    · rw [if_neg hj]
      refine ⟨by rw [List.length_append]; simp; omega, fun d => ?_⟩
      rw [ex_snoc, h2 d]
      by_cases hd : d < j
      · rw [if_pos (show d < (mgP A O sh j).length by omega), if_pos hd, if_pos (show d < j + 1 by omega)]
      · rw [if_neg (c := d < j) hd]
        by_cases e : d = j
        · subst e
          rw [if_neg hj, if_pos (show d = (mgP A O sh d).length by omega), if_pos (show d < d + 1 by omega), if_neg (show ¬ d < A.length by omega)]
        · rw [if_neg (show ¬ d < (mgP A O sh j).length by omega), if_neg (show ¬ d = (mgP A O sh j).length by omega), if_neg (show ¬ d < j + 1 by omega)]
          unfold ex
          rw [List.getD_eq_getElem?_getD, List.getElem?_eq_none (by omega)]
          rfl

theorem needs_nil (P W : List Int) (sep : Int) (s : Dr) : shD P W sep [] s = 0 := rfl

/-- One subtree more in a row: the shift is the chapter's, the extents are those of the row. -/
theorem row_step {P W : List Int} {sep : Int} {out s : Dr} {base : Nat} {t t' : Int} {A O : Ext} (hA : IsExt P W out base t A) (hO : IsExt P W s base t' O) (hs : 0 < O.length) {sh : Int}
    (hsh : sh = if A = [] then 0 else shP A O sep O.length) : ∃ b, sh + t' = shD P W sep out s + b ∧ (out ≠ [] → b = t) ∧ (out = [] → b = t') ∧ (A ≠ [] ↔ out ≠ []) ∧
      IsExt P W (out ++ mvD s (shD P W sep out s)) base b (mgP A O sh O.length) := by
  have hAo : A ≠ [] ↔ out ≠ [] := by
    constructor
    · intro h e
      have hl : 0 < A.length := by cases A; exact absurd rfl h; simp
      obtain ⟨_, ⟨p, hp, _⟩, _⟩ := hA.2 0 hl
      rw [e] at hp; cases hp
    · intro h e
      cases out with
      | nil => exact h rfl
      | cons q out =>
        have := hA.1 q List.mem_cons_self
        rw [e] at this
        simp at this
        omega
  have main : ∀ b, sh + t' = shD P W sep out s + b → (out ≠ [] → b = t) → IsExt P W (out ++ mvD s (shD P W sep out s)) base b (mgP A O sh O.length) := by
    intro b hb hbt
    obtain ⟨m1, m2⟩ := mgP_spec A O sh O.length
    have hq : ∀ q ∈ mvD s (shD P W sep out s), ∃ r ∈ s, r.1 = q.1 ∧ lfE W q + b = lfE W r + t' + sh ∧ rtE W q + b = rtE W r + t' + sh := fun q hq => by
      obtain ⟨r, hr, e1, e2, e3, _⟩ := lfE_mem (W := W) hq
      exact ⟨r, hr, e1, by omega, by omega⟩
    have hq' : ∀ r ∈ s, ∃ q ∈ mvD s (shD P W sep out s), r.1 = q.1 ∧ lfE W q + b = lfE W r + t' + sh ∧ rtE W q + b = rtE W r + t' + sh := fun r hr => by
      refine ⟨(r.1, r.2 + shD P W sep out s), List.mem_map.2 ⟨r, hr, rfl⟩, rfl, ?_, ?_⟩
      · have := lfE_mv W r.1 r.2 (shD P W sep out s)
        rw [this]
        show lfE W r + _ + b = _
        omega
      · have := rtE_mv W r.1 r.2 (shD P W sep out s)
        rw [this]
        show rtE W r + _ + b = _
        omega
    refine ⟨fun q hqm => ?_, fun d hd => ?_⟩
    · rw [m1]
      rcases List.mem_append.1 hqm with h | h
      · have := hA.1 q h; omega
      · obtain ⟨r, hr, e1, _, _⟩ := hq q h
        have := hO.1 r hr
        rw [e1] at this
        omega
    · rw [m1] at hd
      rw [m2 d]
      have hoA : ∀ q ∈ out, t = b := fun q hq => (hbt (by intro e; rw [e] at hq; cases hq)).symm
      by_cases h1 : d < O.length
      · rw [if_pos h1]
        obtain ⟨o1, ⟨ol, ol1, ol2, ol3⟩, ⟨or, or1, or2, or3⟩⟩ := hO.2 d h1
        by_cases h2 : d < A.length
        · rw [if_pos h2]
          obtain ⟨a1, ⟨al, al1, al2, al3⟩, ⟨ar, ar1, ar2, ar3⟩⟩ := hA.2 d h2
          have hbt' := hoA al al1
          subst hbt'
          refine ⟨fun q hqm hdq => ?_, ?_, ?_⟩
          · rcases List.mem_append.1 hqm with h | h
            · have := a1 q h hdq; dsimp only; omega
            · obtain ⟨r, hr, e1, e2, e3⟩ := hq q h
              have := o1 r hr (by rw [e1]; exact hdq)
              dsimp only; omega
          · by_cases hmin : (ex A d).1 ≤ (ex O d).1 + sh
            · exact ⟨al, List.mem_append_left _ al1, al2, by dsimp only; omega⟩
            · obtain ⟨q, hqm, e1, e2, e3⟩ := hq' ol ol1
              exact ⟨q, List.mem_append_right _ hqm, by rw [← e1]; exact ol2, by dsimp only; omega⟩
          · by_cases hmax : (ex O d).2 + sh ≤ (ex A d).2
            · exact ⟨ar, List.mem_append_left _ ar1, ar2, by dsimp only; omega⟩
            · obtain ⟨q, hqm, e1, e2, e3⟩ := hq' or or1
              exact ⟨q, List.mem_append_right _ hqm, by rw [← e1]; exact or2, by dsimp only; omega⟩
        · rw [if_neg h2]
          refine ⟨fun q hqm hdq => ?_, ?_, ?_⟩
          · rcases List.mem_append.1 hqm with h | h
            · have := hA.1 q h; omega
            · obtain ⟨r, hr, e1, e2, e3⟩ := hq q h
              have := o1 r hr (by rw [e1]; exact hdq)
              dsimp only; omega
          · obtain ⟨q, hqm, e1, e2, e3⟩ := hq' ol ol1
            exact ⟨q, List.mem_append_right _ hqm, by rw [← e1]; exact ol2, by dsimp only; omega⟩
          · obtain ⟨q, hqm, e1, e2, e3⟩ := hq' or or1
            exact ⟨q, List.mem_append_right _ hqm, by rw [← e1]; exact or2, by dsimp only; omega⟩
      · rw [if_neg h1]
        have h2 : d < A.length := by omega
        obtain ⟨a1, ⟨al, al1, al2, al3⟩, ⟨ar, ar1, ar2, ar3⟩⟩ := hA.2 d h2
        have hbt' := hoA al al1
        subst hbt'
        refine ⟨fun q hqm hdq => ?_, ⟨al, List.mem_append_left _ al1, al2, al3⟩, ⟨ar, List.mem_append_left _ ar1, ar2, ar3⟩⟩
        rcases List.mem_append.1 hqm with h | h
        · exact a1 q h hdq
        · obtain ⟨r, hr, e1, _, _⟩ := hq q h
          have := hO.1 r hr
          rw [e1] at this
          omega
  by_cases hA0 : A = []
  · rw [if_pos hA0] at hsh
    have ho : out = [] := by
      by_cases e : out = []
      · exact e
      · exact absurd hA0 (hAo.2 e)
    refine ⟨t', ?_, fun h => absurd ho h, fun _ => rfl, hAo, main t' ?_ (fun h => absurd ho h)⟩
    all_goals rw [ho, needs_nil]; omega
  · rw [if_neg hA0] at hsh
    have hl : 0 < A.length := by cases A; exact absurd rfl hA0; simp
    have key : sh + t' = shD P W sep out s + t := by
      obtain ⟨⟨d, d1, d2, d3⟩, hmax⟩ := shP_spec A O sep hl O.length hs
      obtain ⟨_, _, ⟨ar, ar1, ar2, ar3⟩⟩ := hA.2 d d2
      obtain ⟨_, ⟨ol, ol1, ol2, ol3⟩, _⟩ := hO.2 d d1
      obtain ⟨⟨p, hp, q, hq, hd, he⟩, hmax2⟩ := shD_spec (W := W) (sep := sep) ar1 ol1 (by rw [ar2, ol2])
      have h1 := hmax2 ar ar1 ol ol1 (by rw [ar2, ol2])
      have h2 := hA.1 p hp
      have h3 := hO.1 q hq
      have h4 := hmax (dep P p.1 - base) (by omega) (by omega)
      have h5 := (hA.2 (dep P p.1 - base) (by omega)).1 p hp (by omega)
      have h6 := (hO.2 (dep P p.1 - base) (by omega)).1 q hq (by omega)
      unfold need at h1 he
      omega
    refine ⟨t, key, fun _ => rfl, fun e => absurd e (hAo.1 hA0), hAo, main t key (fun _ => rfl)⟩

/-- The extents of a subtree: its root's box, and those of the row of its children. -/
theorem ext_parent {P W : List Int} (hP : vFor P) {s : Dr} {v : Nat} {t m : Int} {E : Ext} (hv : v < P.length) (hE : IsExt P W s (dep P v + 1) t E) :
    IsExt P W (mvD s (-m) ++ [(v, 0)]) (dep P v) (m + t) ((m + t - ge W v / 2, m + t - ge W v / 2 + ge W v) :: E) := by
  have hl : lfE W (v, 0) = -(ge W v / 2) := by unfold lfE; simp
  have hr : rtE W (v, 0) = -(ge W v / 2) + ge W v := by unfold rtE; rw [hl]
  refine ⟨fun q hq => ?_, fun d hd => ?_⟩
  · rw [List.length_cons]
    rcases List.mem_append.1 hq with h | h
    · obtain ⟨r, hr, e1, _⟩ := lfE_mem (W := W) h
      have := hE.1 r hr
      rw [e1] at this
      omega
    · simp at h; subst h
      dsimp only; omega
  · cases d with
    | zero =>
      rw [ex_cons_zero]
      refine ⟨fun q hq hdq => ?_, ⟨(v, 0), by simp, rfl, by dsimp only; omega⟩, ⟨(v, 0), by simp, rfl, by dsimp only; omega⟩⟩
      rcases List.mem_append.1 hq with h | h
      · obtain ⟨r, hr, e1, _⟩ := lfE_mem (W := W) h
        have := hE.1 r hr
        rw [e1] at this
        omega
      · simp at h; subst h
        dsimp only; omega
    | succ d =>
      rw [ex_cons_succ]
      simp only [List.length_cons] at hd
      obtain ⟨a1, ⟨al, al1, al2, al3⟩, ⟨ar, ar1, ar2, ar3⟩⟩ := hE.2 d (by omega)
      refine ⟨fun q hq hdq => ?_, ?_, ?_⟩
      · rcases List.mem_append.1 hq with h | h
        · obtain ⟨r, hr, e1, e2, e3, _⟩ := lfE_mem (W := W) h
          have := a1 r hr (by rw [e1]; omega)
          omega
        · simp at h; subst h
          simp at hdq
      · refine ⟨(al.1, al.2 + -m), List.mem_append_left _ (List.mem_map.2 ⟨al, al1, rfl⟩), by dsimp only; omega, ?_⟩
        rw [lfE_mv]
        show lfE W al + -m + (m + t) = _
        omega
      · refine ⟨(ar.1, ar.2 + -m), List.mem_append_left _ (List.mem_map.2 ⟨ar, ar1, rfl⟩), by dsimp only; omega, ?_⟩
        rw [rtE_mv]
        show rtE W ar + -m + (m + t) = _
        omega

/-! ### The list of positions -/
/-- X is X0 but for the vertices of s, whose positions are those of s moved by t. -/
def WrAt (X0 : List Int) (s : Dr) (t : Int) (X : List Int) : Prop := X.length = X0.length ∧ (∀ q ∈ s, ge X q.1 = q.2 + t) ∧ ∀ u, u ∉ verts s → ge X u = ge X0 u
/-- X' is X with the subtree of v moved. -/
def MvAt (P : List Int) (X : List Int) (v : Nat) (b : Int) (X' : List Int) : Prop := X'.length = X.length ∧ (∀ u, Bel P v u → ge X' u = ge X u + b) ∧ ∀ u, ¬ Bel P v u → ge X' u = ge X u
theorem WrAt.nil (X : List Int) (t : Int) : WrAt X [] t X := ⟨rfl, (fun q h => by cases h), fun _ _ => rfl⟩
/-- One subtree more, moved. -/
theorem WrAt.snoc {P W : List Int} {sep : Int} {X0 X X1 X2 : List Int} {out s : Dr} {t t' b sh : Int} {v : Nat} (h1 : WrAt X0 out t X) (h2 : WrAt X s t' X1) (h3 : MvAt P X1 v sh X2) (hv : ∀ u, u ∈ verts s ↔ Bel P v u)
    (hdis : ∀ u, u ∈ verts out → u ∈ verts s → False) (hb : sh + t' = shD P W sep out s + b) (hbt : out ≠ [] → b = t) : WrAt X0 (out ++ mvD s (shD P W sep out s)) b X2 := by
  refine ⟨by rw [h3.1, h2.1, h1.1], fun q hq => ?_, fun u hu => ?_⟩
  · rcases List.mem_append.1 hq with h | h
    · have hm : q.1 ∈ verts out := mem_verts.2 ⟨q.2, h⟩
      rw [h3.2.2 q.1 (fun hb => hdis _ hm ((hv _).2 hb)), h2.2.2 q.1 (fun hb => hdis _ hm hb), h1.2.1 q h, hbt (by intro e; rw [e] at h; cases h)]
    · obtain ⟨r, hr, rfl⟩ := List.mem_map.1 h
      dsimp only
      rw [h3.2.1 r.1 ((hv _).1 (mem_verts.2 ⟨r.2, hr⟩)), h2.2.1 r hr]
      omega
  · rw [verts_append, verts_mvD, List.mem_append, not_or] at hu
    rw [h3.2.2 u (fun hb => hu.2 ((hv u).2 hb)), h2.2.2 u hu.2, h1.2.2 u hu.1]
theorem ge_set (X : List Int) {i : Nat} (hi : i < X.length) (x : Int) (u : Nat) : ge (X.set i x) u = if u = i then x else ge X u := by
  unfold ge
  rw [List.getD_eq_getElem?_getD, List.getElem?_set]
  by_cases h : i = u
  · subst h; rw [if_pos rfl, if_pos hi, if_pos rfl]; rfl
  · rw [if_neg h, if_neg (Ne.symm h), List.getD_eq_getElem?_getD]
/-- A root above its row. -/
theorem WrAt.parent {X0 X : List Int} {s : Dr} {t m : Int} {v : Nat} (h : WrAt X0 s t X) (hv : v < X0.length) (hnot : v ∉ verts s) : WrAt X0 (mvD s (-m) ++ [(v, 0)]) (m + t) (X.set v (m + t)) := by
  have hl : v < X.length := by rw [h.1]; exact hv
  refine ⟨by rw [List.length_set, h.1], fun q hq => ?_, fun u hu => ?_⟩
  · rw [ge_set X hl]
    rcases List.mem_append.1 hq with hq | hq
    · obtain ⟨r, hr, rfl⟩ := List.mem_map.1 hq
      dsimp only
      rw [if_neg (fun e : r.1 = v => hnot (by rw [← e]; exact mem_verts.2 ⟨r.2, hr⟩)), h.2.1 r hr]
      omega
    · simp at hq; subst hq
      rw [if_pos rfl]
      simp
  · rw [verts_append, verts_mvD, List.mem_append, not_or] at hu
    have hne : u ≠ v := fun e => hu.2 (by simp [verts, e])
    rw [ge_set X hl, if_neg hne, h.2.2 u hu.1]

end Go.Proofs.Ytgodoeefgmfpfaa
