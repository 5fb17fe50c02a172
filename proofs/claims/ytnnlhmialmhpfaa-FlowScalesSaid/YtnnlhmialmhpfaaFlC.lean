/- The search for a cheapest way, plain; the cut. -/
import Derived.Test.YtnnlhmialmhpfaaFlB
set_option linter.unusedSimpArgs false
set_option linter.unusedVariables false
namespace Go.Proofs.Ytnnlhmialmhpfaa

/-- The state of the search. -/
structure Se (V : Nat) (far : Int) (src : Nat → Prop) (A : List Ark) (L : List (Nat × Bool)) (π : Nat → Int) (d : List Int) (pr : List Int) (ch : Nat → List Nat) : Prop where
  bf : BF V far π d ch
  pl : pr.length = V
  root : ∀ v, v < V → ge d v ≠ far → ge pr v = -1 → src v
  srcf : ∀ v, v < V → src v → ge d v ≠ far
  pred : ∀ v, v < V → ge pr v = -1 ∨ ∃ (j i : Nat) (b : Bool), ge pr v = (j : Int) ∧ L[j]? = some (i, b) ∧ sT A i b = v ∧ ge d v ≠ far ∧ ge d (sF A i b) ≠ far ∧ ge d (sF A i b) + sC A i b ≤ ge d v ∧
    (ge d v = ge d (sF A i b) + sC A i b → (ch v).length = (ch (sF A i b)).length + 1)
theorem Se.begin {V : Nat} {far : Int} {src : Nat → Prop} {A : List Ark} {L : List (Nat × Bool)} {π : Nat → Int} {d pr : List Int} (hf : far ≠ 0) (hd : d.length = V) (hp : pr.length = V)
    (h1 : ∀ v, v < V → (src v → ge d v = 0) ∧ (¬ src v → ge d v = far)) (h2 : ∀ v, v < V → ge pr v = -1) : Se V far src A L π d pr (fun v => [v]) := by
  have hs : ∀ v, v < V → ge d v ≠ far → src v ∧ ge d v = 0 := fun v hv h => by
    by_cases e : src v
    · exact ⟨e, (h1 v hv).1 e⟩
    · exact absurd ((h1 v hv).2 e) h
  refine ⟨⟨hd, fun v _ => by simp, fun v hv x hx => by simp at hx; omega, fun v hv h => ?_, fun v hv h x hx => ?_⟩, hp, fun v hv h _ => (hs v hv h).1, fun v hv h => ?_, fun v hv => Or.inl (h2 v hv)⟩
  · rw [(hs v hv h).2]; simp
  · simp at hx; subst hx; exact ⟨h, Int.le_refl _⟩
  · rw [(h1 v hv).1 h]; exact Ne.symm hf
theorem Se.relax {V : Nat} {far : Int} {src : Nat → Prop} {A : List Ark} {L : List (Nat × Bool)} {π : Nat → Int} {d pr : List Int} {ch : Nat → List Nat} (h : Se V far src A L π d pr ch) {j i : Nat} {b : Bool} (hj : L[j]? = some (i, b))
    (hu : sF A i b < V) (hv : sT A i b < V) (hc : -1000 ≤ sC A i b ∧ sC A i b ≤ 1000) (hr : 0 ≤ sC A i b + π (sF A i b) - π (sT A i b)) (hf : ge d (sF A i b) ≠ far) (hlt : ge d (sT A i b) = far ∨ ge d (sF A i b) + sC A i b < ge d (sT A i b))
    (hfar : ge d (sF A i b) + sC A i b ≠ far) :
    Se V far src A L π (d.set (sT A i b) (ge d (sF A i b) + sC A i b)) (pr.set (sT A i b) (j : Int)) (upd1 ch (sT A i b) (sT A i b :: ch (sF A i b))) := by
  obtain ⟨hb, hn⟩ := h.bf.relax hu hv hc hr hf hlt hfar
  have hge : ∀ w, ge (d.set (sT A i b) (ge d (sF A i b) + sC A i b)) w = if w = sT A i b then ge d (sF A i b) + sC A i b else ge d w := fun w => ge_set d (by rw [h.bf.len]; exact hv) _ w
  have hgp : ∀ w, ge (pr.set (sT A i b) (j : Int)) w = if w = sT A i b then (j : Int) else ge pr w := fun w => ge_set pr (by rw [h.pl]; exact hv) _ w
  have hne : sF A i b ≠ sT A i b := fun e => by
    rcases hlt with g | g
    · rw [← e] at g; exact hf g
    · rw [e] at g hr; omega
  refine ⟨hb, by rw [List.length_set]; exact h.pl, fun v hv' g1 g2 => ?_, fun v hv' hs => ?_, fun v hv' => ?_⟩
  · rw [hgp] at g2
    rw [hge] at g1
    by_cases e : v = sT A i b
    · rw [if_pos e] at g2; omega
    · rw [if_neg e] at g1 g2
      exact h.root v hv' g1 g2
  · rw [hge]
    split
    · exact hfar
    · exact h.srcf v hv' hs
  · rw [hgp, hge]
    by_cases e : v = sT A i b
    · rw [if_pos e, if_pos e]
      refine Or.inr ⟨j, i, b, rfl, hj, e.symm, hfar, ?_, ?_, fun _ => ?_⟩
      · rw [hge, if_neg hne]; exact hf
      · rw [hge, if_neg hne]; exact Int.le_refl _
      · unfold upd1
        rw [if_pos e, if_neg hne, List.length_cons]
    · rw [if_neg e, if_neg e]
      rcases h.pred v hv' with g | ⟨j', i', b', p1, p2, p3, p4, p5, p6, p7⟩
      · exact Or.inl g
      · refine Or.inr ⟨j', i', b', p1, p2, p3, p4, ?_, ?_, ?_⟩
        · rw [hge]; split
          · exact hfar
          · exact p5
        · rw [hge]
          split
          · rename_i e2
            rw [e2] at p5 p6
            rcases hlt with g | g
            · exact absurd g p5
            · omega
          · exact p6
        · rw [hge]
          unfold upd1
          rw [if_neg e]
          by_cases e2 : sF A i' b' = sT A i b
          · rw [if_pos e2, if_pos e2]
            intro e3
            rw [e2] at p5 p6
            rcases hlt with g | g
            · exact absurd g p5
            · omega
          · rw [if_neg e2, if_neg e2]
            exact p7
/-- No step makes a label smaller. -/
def Settled (far : Int) (A : List Ark) (L : List (Nat × Bool)) (d : List Int) : Prop := ∀ (t i : Nat) (b : Bool), L[t]? = some (i, b) → ge d (sF A i b) = far ∨ (ge d (sT A i b) ≠ far ∧ ge d (sT A i b) ≤ ge d (sF A i b) + sC A i b)

/-! ### Ways -/
def Way (A : List Ark) : List (Nat × Bool) → Nat → Nat → Prop
  | [], s, t => s = t
  | x :: P, s, t => sF A x.1 x.2 = s ∧ Way A P (sT A x.1 x.2) t
/-- A way of tight steps; hop: the length of the chains. -/
structure Wy (V : Nat) (A : List Ark) (L : List (Nat × Bool)) (far : Int) (d : List Int) (ch : Nat → List Nat) (P : List (Nat × Bool)) (s t : Nat) : Prop where
  way : Way A P s t
  stp : ∀ x ∈ P, x ∈ L ∧ ge d (sT A x.1 x.2) = ge d (sF A x.1 x.2) + sC A x.1 x.2 ∧ (ch (sT A x.1 x.2)).length = (ch (sF A x.1 x.2)).length + 1 ∧ ge d (sF A x.1 x.2) ≠ far ∧ ge d (sT A x.1 x.2) ≠ far
  up : ∀ x ∈ P, (ch s).length < (ch (sT A x.1 x.2)).length
  pw : P.Pairwise fun x y => (ch (sT A x.1 x.2)).length < (ch (sT A y.1 y.2)).length
  vs : s < V
  vP : ∀ x ∈ P, sT A x.1 x.2 < V
theorem Wy.nil {V : Nat} {A : List Ark} {L : List (Nat × Bool)} {far : Int} {d : List Int} {ch : Nat → List Nat} {t : Nat} (ht : t < V) : Wy V A L far d ch [] t t :=
  ⟨rfl, fun x hx => by simp at hx, fun x hx => by simp at hx, List.Pairwise.nil, ht, fun x hx => by simp at hx⟩
theorem Wy.cons {V : Nat} {A : List Ark} {L : List (Nat × Bool)} {far : Int} {d : List Int} {ch : Nat → List Nat} {P : List (Nat × Bool)} {s t : Nat} (h : Wy V A L far d ch P s t) {i : Nat} {b : Bool} (hm : (i, b) ∈ L) (hs : sT A i b = s)
    (ht : ge d (sT A i b) = ge d (sF A i b) + sC A i b) (hl : (ch (sT A i b)).length = (ch (sF A i b)).length + 1) (hf : ge d (sF A i b) ≠ far) (hf2 : ge d (sT A i b) ≠ far) (hv : sF A i b < V) : Wy V A L far d ch ((i, b) :: P) (sF A i b) t := by
  refine ⟨⟨rfl, by rw [hs]; exact h.way⟩, fun x hx => ?_, fun x hx => ?_, List.pairwise_cons.2 ⟨fun y hy => ?_, h.pw⟩, hv, fun x hx => ?_⟩
  · rcases List.mem_cons.1 hx with e | e
    · subst e; exact ⟨hm, ht, hl, hf, hf2⟩
    · exact h.stp x e
  · rcases List.mem_cons.1 hx with e | e
    · subst e; simp only; omega
    · have := h.up x e
      rw [hs] at hl
      omega
  · have := h.up y hy
    simp only [hs]
    exact this
  · rcases List.mem_cons.1 hx with e | e
    · subst e; simp only [hs]; exact h.vs
    · exact h.vP x e
/-- One step back. -/
theorem Se.back {V : Nat} {far : Int} {src : Nat → Prop} {A : List Ark} {L : List (Nat × Bool)} {π : Nat → Int} {d pr : List Int} {ch : Nat → List Nat} (h : Se V far src A L π d pr ch) (hs : Settled far A L d) {P : List (Nat × Bool)} {v t : Nat}
    (hw : Wy V A L far d ch P v t) (hp : ge pr v ≠ -1) (hF : ∀ i b, (i, b) ∈ L → sF A i b < V) :
    ∃ (j i : Nat) (b : Bool), ge pr v = (j : Int) ∧ L[j]? = some (i, b) ∧ Wy V A L far d ch ((i, b) :: P) (sF A i b) t ∧ (ch (sF A i b)).length < (ch v).length ∧ ge d (sF A i b) ≠ far := by
  rcases h.pred v hw.vs with g | ⟨j, i, b, p1, p2, p3, p4, p5, p6, p7⟩
  · exact absurd g hp
  · have hm : (i, b) ∈ L := List.mem_of_getElem? p2
    have hst := (hs j i b p2).resolve_left p5
    rw [p3] at hst
    have e : ge d v = ge d (sF A i b) + sC A i b := by omega
    have hl := p7 e
    refine ⟨j, i, b, p1, p2, hw.cons hm p3 (by rw [p3]; exact e) (by rw [p3]; exact hl) p5 (by rw [p3]; exact p4) (hF i b hm), by omega, p5⟩
theorem Wy.len {V : Nat} {A : List Ark} {L : List (Nat × Bool)} {far : Int} {d : List Int} {ch : Nat → List Nat} {P : List (Nat × Bool)} {s t : Nat} (h : Wy V A L far d ch P s t) : P.length ≤ V := by
  have h1 : (P.map fun x => sT A x.1 x.2).Nodup := by
    unfold List.Nodup
    rw [List.pairwise_map]
    exact h.pw.imp fun hlt e => by rw [e] at hlt; omega
  have := nodup_len V h1 (fun u hu => by
    obtain ⟨x, hx, rfl⟩ := List.mem_map.1 hu
    exact h.vP x hx)
  rwa [List.length_map] at this
/-- Each arc is used once. -/
theorem Wy.arcs {V : Nat} {A : List Ark} {L : List (Nat × Bool)} {far : Int} {d : List Int} {ch : Nat → List Nat} {P : List (Nat × Bool)} {s t : Nat} (h : Wy V A L far d ch P s t) : P.Pairwise fun x y => x.1 ≠ y.1 := by
  refine h.pw.imp_of_mem fun {x y} hx hy hlt e => ?_
  obtain ⟨_, _, l1, _⟩ := h.stp x hx
  obtain ⟨_, _, l2, _⟩ := h.stp y hy
  obtain ⟨i, b⟩ := x
  obtain ⟨i', b'⟩ := y
  simp only at e
  subst e
  simp only at l1 l2 hlt
  cases b <;> cases b' <;> simp [sT, sF] at l1 l2 hlt <;> omega

/-! ### More on the arcs of a way -/
def addP (f : List Int) (k : Int) : List (Nat × Bool) → List Int
  | [] => f
  | x :: P => addP (f.set x.1 (if x.2 then ge f x.1 - k else ge f x.1 + k)) k P
theorem addP_length (k : Int) : ∀ (P : List (Nat × Bool)) (f : List Int), (addP f k P).length = f.length
  | [], _ => rfl
  | x :: P, f => by rw [addP, addP_length k P, List.length_set]
theorem ge_addP (k : Int) : ∀ (P : List (Nat × Bool)) (f : List Int), (P.Pairwise fun x y => x.1 ≠ y.1) → (∀ x ∈ P, x.1 < f.length) → ∀ i, ge (addP f k P) i = if (i, false) ∈ P then ge f i + k else if (i, true) ∈ P then ge f i - k else ge f i
  | [], f, _, _, i => by simp [addP]
  | x :: P, f, hp, hl, i => by
    rw [List.pairwise_cons] at hp
    have hx := hl x List.mem_cons_self
    rw [addP, ge_addP k P _ hp.2 (fun y hy => by rw [List.length_set]; exact hl y (List.mem_cons_of_mem _ hy)) i, ge_set f hx]
    obtain ⟨j, b⟩ := x
    by_cases e : i = j
    · subst e
      have n1 : (i, false) ∉ P := fun h => hp.1 _ h rfl
      have n2 : (i, true) ∉ P := fun h => hp.1 _ h rfl
      cases b <;> simp [n1, n2]
    · simp [e]
/-- What an arc's number does to the excesses. -/
theorem inF_set {A : List Ark} {f : List Int} {i : Nat} (hi : i < f.length) (x : Int) (v : Nat) : ∀ k, inF A (f.set i x) v k = inF A f v k + (if i < k then (if vT A i = v then x - ge f i else 0) - (if vF A i = v then x - ge f i else 0) else 0)
  | 0 => by simp [inF, sumN]
  | k + 1 => by
    have ih := inF_set (A := A) hi x v k
    unfold inF at ih ⊢
    rw [sumN, sumN, ih, ge_set f hi]
    by_cases e : k = i
    · subst e
      simp only [if_true, Nat.lt_irrefl, if_false, show k < k + 1 by omega]
      split <;> split <;> omega
    · rw [if_neg e]
      by_cases g : i < k
      · rw [if_pos g, if_pos (show i < k + 1 by omega)]; exact Int.add_right_comm _ _ _
      · rw [if_neg g, if_neg (show ¬ i < k + 1 by omega), Int.add_zero, Int.add_zero]
theorem exc_step (s : List Int) {A : List Ark} {f : List Int} (hl : f.length = A.length) {i : Nat} (hi : i < A.length) (b : Bool) (k : Int) (v : Nat) :
    exc s A (f.set i (if b then ge f i - k else ge f i + k)) v = exc s A f v - (if sF A i b = v then k else 0) + (if sT A i b = v then k else 0) := by
  unfold exc
  rw [inF_set (by omega), if_pos hi]
  unfold sF sT
  cases b <;> simp <;> split <;> split <;> omega
theorem exc_addP (s : List Int) {A : List Ark} (k : Int) : ∀ (P : List (Nat × Bool)) (f : List Int) (a t : Nat), f.length = A.length → (∀ x ∈ P, x.1 < A.length) → Way A P a t → ∀ v, exc s A (addP f k P) v = exc s A f v - (if a = v then k else 0) + (if t = v then k else 0)
  | [], f, a, t, _, _, hw, v => by
    have : a = t := hw
    rw [this, addP]; omega
  | x :: P, f, a, t, hl, hm, hw, v => by
    obtain ⟨h1, h2⟩ := hw
    rw [addP, exc_addP s k P _ _ t (by rw [List.length_set]; exact hl) (fun y hy => hm y (List.mem_cons_of_mem _ hy)) h2 v, exc_step s hl (hm x List.mem_cons_self), h1]
    omega
end Go.Proofs.Ytnnlhmialmhpfaa
