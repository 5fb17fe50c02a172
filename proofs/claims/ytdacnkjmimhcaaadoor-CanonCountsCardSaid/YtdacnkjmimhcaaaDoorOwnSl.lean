/- Slices of the call's own, of elements of any layout, that are appended to: what is read is a list. -/
import Derived.Test.YtdacnkjmimhcaaaDoorMem
import Derived.Test.YtdacnkjmimhcaaaDoorHeld
import Derived.Deep.DeepCutAuto
import Derived.Deep.LoopGhost
import Derived.Deep.DrawnRows
set_option linter.unusedSimpArgs false
set_option linter.unusedVariables false
namespace Go.Proofs.YtdacnkjmimhcaaaDoor
open Go.RowKit

/-- A type of slices and how its elements lie. -/
structure Lay (P : Program) where
  t : TypeId
  e : TypeId
  sz : Nat
  bytes : Nat
  z : Value
  ht : P.underlying t = some (.slice e)
  hinfo : (P.info? e).map (fun i => (i.zero, i.size, i.bytes)) = some (some z, sz, bytes)
  hzs : z.cells.size = sz
  hpos : 0 < sz

/-- An append on a row; the block is the old one or a new one. -/
theorem owp_append_own2 {P : Program} {o : Oper} {a : Act} {K : Act → World → Prop} {Q : Exit → Act → World → Prop} {w : World} (s x : Operand) (t : TypeId)
    (ho : o.op = .call { callee := .builtin .append, args := #[s, x], argTypes := #[t, t] }) (e : TypeId) (sz bytes : Nat) (z : Value) (ht : P.underlying t = some (.slice e))
    (hinfo : (P.info? e).map (fun i => (i.zero, i.size, i.bytes)) = some (some z, sz, bytes)) (hzs : z.cells.size = sz) (hpos : 0 < sz)
    (B : Nat) (rs : List Row) (k : Nat) (v0 : Value) (n0 : Nat) (xs0 : List Value) (hO : Owns w B rs) (hk : rs[k]? = some ⟨v0, e, sz, n0, xs0⟩) (hs : a.eval s = v0)
    (ad : Option Addr) (m c : Nat) (hx : a.eval x = .slice ad m c) (news : List Value) (hn : news.length = m * sz) (hnil : ad = Option.none → m = 0 ∧ c = 0)
    (hnews : ∀ b, ad = some b → ∀ j u, news[j]? = some u → w.cell? (b.add j) = some u) (h1 : ∀ u ∈ news, u.oneCell' = true)
    (hlen : n0 + m ≤ maxLen) (hbytes : (n0 + m) * bytes ≤ 140737488355328) (hB : B ≤ w.heap.size)
    (h : ∀ v' w', Owns w' B (rs.set k ⟨v', e, sz, n0 + m, xs0 ++ news⟩) → w.grownBy w' v0.ownBlock → (∀ k, v0.ownBlock = some k → B ≤ k) → (v' = .slice Option.none 0 0 → m = 0) → (∀ k, v'.ownBlock = some k → v0.ownBlock = some k ∨ w.heap.size ≤ k) → K (a.put o.dst v') w') :
    o.wp P a w K Q := by
  obtain ⟨i0, hi, hz0, hz1, hz2⟩ := info_parts hinfo
  have hown : w.ownsRow B e sz v0 n0 xs0 := hO.1 k _ hk
  have hge : ∀ g, v0.ownBlock = some g → B ≤ g := fun g hg => (hown.lt g hg).1
  cases ad with
  | none =>
    obtain ⟨rfl, rfl⟩ := hnil rfl
    have hnn : news = [] := List.length_eq_zero_iff.1 (by simpa using hn)
    subst hnn
    have hrun := run_append_owned_none (P := P) (w := w) B t o.type e i0 sz ht hi v0 n0 xs0 hown
    unfold Oper.wp
    simp [execOp, ho, resolve, invoke, builtin, hs, hx, hrun, Result.andThen]
    refine h v0 w ?_ (World.grownBy.refl w _) hge (fun _ => rfl) (fun _ hg => Or.inl hg)
    have : rs.set k ⟨v0, e, sz, n0 + 0, xs0 ++ []⟩ = rs := by
      rw [List.append_nil]
      obtain ⟨h3, h4⟩ := List.getElem?_eq_some_iff.1 hk
      rw [Nat.add_zero, ← h4]
      exact List.set_getElem_self h3
    rw [this]
    exact hO
  | some ad =>
  have hnews' := hnews ad rfl
  have hgrown : ∀ v' w', w'.ownsRow w.heap.size e sz v' (n0 + m) (xs0 ++ news) → w.grownBy w' Option.none → 0 < n0 + m → K (a.put o.dst v') w' := by
    intro v' w' g1 g2 hnm
    refine h v' w' (hO.put hk ⟨g2.os, g2.tape, g2.output, g2.size, fun j hj _ => g2.block j hj (by simp)⟩ ?_ ?_) ⟨g2.os, g2.tape, g2.output, g2.size, fun j hj _ => g2.block j hj (by simp)⟩ hge ?_ (fun g hg => Or.inr (World.ownsRow.lt g1 g hg).1)
    · exact ownsRow_base g1 hB
    · intro g hg
      exact Or.inr (World.ownsRow.lt g1 g hg).1
    · rintro rfl
      rcases g1.2 with ⟨_, h0⟩ | ⟨g, cap', cur, hv', _⟩
      · omega
      · cases hv'
  rcases id hown.2 with ⟨h2, h3⟩ | ⟨g, cap, cur, hv, hb, hh, hle, hmx, hsz, htk⟩
  · have hx0 : xs0 = [] := List.length_eq_zero_iff.1 (by rw [hown.1, h3]; simp)
    obtain ⟨v', w', hrun, r1, r2, r3⟩ := run_append_own (P := P) w w.heap.size t o.type e i0 z sz bytes ht hi hz0 hz1 hz2 hzs hpos v0 n0 xs0 (by rw [h2, h3, hx0]; exact World.ownsRow_nil w _ e sz) ad m c news hn hnews' h1 hlen hbytes (Nat.le_refl _)
    unfold Oper.wp
    simp [execOp, ho, resolve, invoke, builtin, hs, hx, hrun, Result.andThen]
    exact h v' w' (hO.put hk r2 (ownsRow_base r1 hB) (fun g hg => Or.inr (World.ownsRow.lt r1 g hg).1)) r2 hge (fun hv' => (r3.1 hv').2) (fun g hg => Or.inr (World.ownsRow.lt r1 g hg).1)
  · by_cases hfit : n0 + m ≤ cap
    · obtain ⟨w', hrun, g1, g2⟩ := run_append_fits (P := P) w B t o.type e i0 sz ht hi hz1 g n0 cap xs0 (by rw [← hv]; exact hown) ad m c news hn hnews' h1 hfit
      unfold Oper.wp
      simp [execOp, ho, resolve, invoke, builtin, hs, hv, hx, hrun, Result.andThen]
      have hvb : v0.ownBlock = some g := by rw [hv]; rfl
      refine h _ w' (hO.put hk (by rw [hvb]; exact g2) g1 (fun g' hg' => ?_)) (by rw [hvb]; exact g2) hge (fun hc => by cases hc) (fun g' hg' => Or.inl (by rw [hvb]; exact hg'))
      rw [hvb]
      exact Or.inl hg'
    · have hnm : 0 < n0 + m := by omega
      obtain ⟨v', w', hrun, r1, r2⟩ := run_append_arg_grows (P := P) w t o.type e i0 z sz bytes ht hi hz0 hz1 hz2 hzs hpos ⟨g, 0, Option.none⟩ n0 cap xs0 hown.1 (fun j u hj => by
        rcases (hO.get hk).2 with ⟨h2, _⟩ | ⟨g', cap', hv', _, _, _, _, _, hc⟩
        · rw [hv] at h2; cases h2
        · rw [hv] at hv'
          cases hv'
          rw [Addr.add_lit, Nat.zero_add]
          exact hc j u hj) ad m c news hn hnews' (by omega) hlen hbytes
      unfold Oper.wp
      simp [execOp, ho, resolve, invoke, builtin, hs, hv, hx, hrun, Result.andThen]
      exact hgrown v' w' r1 r2 hnm


section
variable {α : Type} {P : Program}
/-- The slice v lies in a block of its own from B on, and reads as xs; each element in the relation R to its cells. -/
def OwnSl (L : Lay P) (R : List Value → α → Prop) (w : World) (B : Nat) (v : Value) (xs : List α) : Prop :=
  ∃ vs, Owns w B [⟨v, L.e, L.sz, xs.length, vs⟩] ∧ ∀ i x, xs[i]? = some x → ∃ ce, ce.length = L.sz ∧ R ce x ∧ ∀ j, j < L.sz → vs[i * L.sz + j]? = ce[j]?
theorem OwnSl.grew {L : Lay P} {R : List Value → α → Prop} {w w' : World} {B : Nat} {v : Value} {xs : List α} (h : OwnSl L R w B v xs) (hg : Grew w w') : OwnSl L R w' B v xs := by
  obtain ⟨vs, h1, h2⟩ := h
  exact ⟨vs, h1.grew hg, h2⟩
theorem OwnSl.gr {L : Lay P} {R : List Value → α → Prop} {w w' : World} {B : Nat} {v : Value} {xs : List α} (h : OwnSl L R w B v xs) {X : Nat → Prop} (hg : Gr X w w') (hx : ∀ g, v.ownBlock = some g → ¬ X g) : OwnSl L R w' B v xs := by
  obtain ⟨vs, h1, h2⟩ := h
  refine ⟨vs, ⟨fun k r hk => ?_, h1.2⟩, h2⟩
  obtain ⟨g1, g2⟩ := h1.1 k r hk
  refine ⟨g1, g2.imp id fun ⟨g, cap, cur, hv, hb, hh, y⟩ => ⟨g, cap, cur, hv, hb, ?_, y⟩⟩
  rw [hg.block g (lt_of_block hh) (hx g ?_)]
  · exact hh
  · cases k with
    | zero =>
      cases hk
      rw [show v = _ from hv]; rfl
    | succ k => simp at hk
theorem OwnSl.base {L : Lay P} {R : List Value → α → Prop} {w : World} {B B' : Nat} {v : Value} {xs : List α} (h : OwnSl L R w B v xs) (hB : B' ≤ B) : OwnSl L R w B' v xs := by
  obtain ⟨vs, h1, h2⟩ := h
  exact ⟨vs, h1.base hB, h2⟩
theorem OwnSl.imp {L : Lay P} {R R' : List Value → α → Prop} {w : World} {B : Nat} {v : Value} {xs : List α} (h : OwnSl L R w B v xs) (hR : ∀ ce x, x ∈ xs → R ce x → R' ce x) : OwnSl L R' w B v xs := by
  obtain ⟨vs, h1, h2⟩ := h
  refine ⟨vs, h1, fun i x hx => ?_⟩
  obtain ⟨ce, g1, g2, g3⟩ := h2 i x hx
  exact ⟨ce, g1, hR _ _ (List.mem_of_getElem? hx) g2, g3⟩
/-- A slice that is nil. -/
theorem OwnSl.none (L : Lay P) (R : List Value → α → Prop) (w : World) (B : Nat) : OwnSl L R w B (.slice none 0 0) [] :=
  ⟨[], (Owns.nil w B).none L.e L.sz, fun i x hx => by simp at hx⟩
/-- A new block without elements. -/
theorem OwnSl.made (L : Lay P) (R : List Value → α → Prop) (w : World) (B b : Nat) (hB : B ≤ w.heap.size) (hb : b = w.heap.size) : OwnSl L R (w.alloc (.cells #[] L.e)) B (.slice (some ⟨b, 0, Option.none⟩) 0 0) [] :=
  ⟨[], (Owns.nil w B).made hB #[] L.e L.sz 0 b (by simp) (Nat.zero_le _) hb, fun i x hx => by simp at hx⟩
theorem OwnSl.lt {L : Lay P} {R : List Value → α → Prop} {w : World} {B : Nat} {v : Value} {xs : List α} (h : OwnSl L R w B v xs) {g : Nat} (hg : v.ownBlock = some g) : B ≤ g ∧ g < w.heap.size := by
  obtain ⟨vs, h1, _⟩ := h
  exact (h1.1 0 _ rfl).lt g hg
theorem OwnSl.slat {L : Lay P} {R : List Value → α → Prop} {w : World} {B : Nat} {v : Value} {xs : List α} (h : OwnSl L R w B v xs) : ∃ p cap, v = .slice p xs.length cap ∧ SlAt (fun _ => R) L.sz w p cap xs := by
  obtain ⟨vs, h1, h2⟩ := h
  rcases (h1.at (k := 0) rfl).2 with ⟨hv, hn⟩ | ⟨g, cap, hv, hb, hl, hle, hm, hf, hc⟩
  · have hv' : v = .slice Option.none 0 0 := hv
    have hn' : xs.length = 0 := hn
    obtain rfl : xs = [] := List.length_eq_zero_iff.1 hn'
    exact ⟨Option.none, 0, hv', Nat.le_refl _, Nat.zero_le _, fun _ => rfl, fun i x hx => by simp at hx⟩
  · refine ⟨some ⟨g, 0, Option.none⟩, cap, hv, hle, hm, fun h => (by cases h), fun i x hx => ?_⟩
    obtain ⟨ce, g1, g2, g3⟩ := h2 i x hx
    refine ⟨g, 0, ce, rfl, hl, g1, g2, fun j hj => ?_⟩
    rw [Nat.zero_add, ← g3 j hj]
    have : (vs[i * L.sz + j]?).isSome := by rw [g3 j hj, List.getElem?_eq_getElem (by omega)]; rfl
    obtain ⟨u, hu⟩ := Option.isSome_iff_exists.1 this
    rw [hu]
    exact hc _ _ hu
/-- The same, with where it lies. -/
theorem OwnSl.slatB {L : Lay P} {R : List Value → α → Prop} {w : World} {B : Nat} {v : Value} {xs : List α} (h : OwnSl L R w B v xs) : ∃ p cap, v = .slice p xs.length cap ∧ SlAt (fun _ => R) L.sz w p cap xs ∧ ∀ a, p = some a → B ≤ a.block ∧ a.block < w.heap.size := by
  obtain ⟨p, cap, hv, hs⟩ := h.slat
  exact ⟨p, cap, hv, hs, fun a ha => h.lt (by rw [hv, ha]; rfl)⟩
/-- What is read of a slice whose block is not among those that change. -/
theorem SlAt.gr {R : List Value → α → Prop} {sz : Nat} {X : Nat → Prop} {w w' : World} {p : Option Addr} {cap : Nat} {xs : List α} (h : SlAt (fun _ => R) sz w p cap xs) (hg : Gr X w w') (hx : ∀ a, p = some a → ¬ X a.block) : SlAt (fun _ => R) sz w' p cap xs := by
  obtain ⟨h1, h2, h3, h4⟩ := h
  refine ⟨h1, h2, h3, fun i x hi => ?_⟩
  obtain ⟨b, o, ce, g1, g2, g3, g4, g5⟩ := h4 i x hi
  exact ⟨b, o, ce, g1, Nat.lt_of_lt_of_le g2 hg.size, g3, g4, fun j hj => by rw [hg.cell g2 (hx _ g1)]; exact g5 j hj⟩
theorem Gr.cellEq {X : Nat → Prop} {w w' : World} (h : Gr X w w') {b i : Nat} {v : Value} (hn : ¬ X b) (hc : w.cell? ⟨b, i, none⟩ = some v) : w'.cell? ⟨b, i, none⟩ = some v := by
  rw [h.cell (World.block_lt_of_cell? w _ hc) hn]; exact hc
theorem Gr.comp2 {X X' : Nat → Prop} {a b c : World} (h : Gr X a b) (hx : ∀ k, X' k → X k ∨ a.heap.size ≤ k) (h' : Gr X' b c) : Gr X a c := by
  refine ⟨h'.os.trans h.os, h'.tape.trans h.tape, h'.output.trans h.output, Nat.le_trans h.size h'.size, fun k hk hn => ?_⟩
  rw [h'.block k (Nat.lt_of_lt_of_le hk h.size) (fun e => ?_)]
  · exact h.block k hk hn
  · rcases hx k e with h1 | h1
    · exact hn h1
    · omega
/-- The block of a slice of the call's own. -/
def ownX (v : Value) (k : Nat) : Prop := v.ownBlock = some k
/-- A slice of the call's own that has grown since W0; but for the blocks X nothing of W0 has changed. -/
def Out (L : Lay P) (R : List Value → α → Prop) (W0 : World) (X : Nat → Prop) (B : Nat) (W : World) (v : Value) (xs : List α) : Prop :=
  Gr X W0 W ∧ OwnSl L R W B v xs ∧ ∀ k, v.ownBlock = some k → X k ∨ W0.heap.size ≤ k
theorem Out.start {L : Lay P} {R : List Value → α → Prop} {W0 : World} {B : Nat} {v : Value} {xs : List α} (h : OwnSl L R W0 B v xs) : Out L R W0 (ownX v) B W0 v xs := ⟨Gr.refl _ _, h, fun _ hk => Or.inl hk⟩
theorem Out.grew {L : Lay P} {R : List Value → α → Prop} {W0 W W' : World} {X : Nat → Prop} {B : Nat} {v : Value} {xs : List α} (h : Out L R W0 X B W v xs) (hg : Grew W W') : Out L R W0 X B W' v xs := ⟨h.1.over hg, h.2.1.grew hg, h.2.2⟩
theorem Out.comp {L : Lay P} {R : List Value → α → Prop} {W0 W1 W2 : World} {X : Nat → Prop} {B : Nat} {v1 v2 : Value} {xs ys : List α} (h : Out L R W0 X B W1 v1 xs) (h' : Out L R W1 (ownX v1) B W2 v2 ys) : Out L R W0 X B W2 v2 ys := by
  refine ⟨Gr.comp2 h.1 h.2.2 h'.1, h'.2.1, fun k hk => ?_⟩
  rcases h'.2.2 k hk with h1 | h1
  · exact h.2.2 k h1
  · right; have := h.1.size; omega
theorem Out.app {L : Lay P} {R : List Value → α → Prop} {W0 W W' : World} {X : Nat → Prop} {B : Nat} {v v' : Value} {xs ys : List α} (h : Out L R W0 X B W v xs) (hO : OwnSl L R W' B v' ys) (hg : W.grownBy W' v.ownBlock) (hx : ∀ k, v'.ownBlock = some k → v.ownBlock = some k ∨ W.heap.size ≤ k) : Out L R W0 X B W' v' ys := by
  refine ⟨Gr.comp2 h.1 h.2.2 ((Gr.of_grownBy hg).mono fun k _ e => e.symm), hO, fun k hk => ?_⟩
  rcases hx k hk with h1 | h1
  · exact h.2.2 k h1
  · right; have := h.1.size; omega
/-- The cells of a block from a place on. -/
def cellsAt (w : World) (g : Nat) : Nat → List Value → Prop
  | _, [] => True
  | i, v :: vs => w.cell? ⟨g, i, none⟩ = some v ∧ cellsAt w g (i + 1) vs
theorem cellsAt_get {w : World} {g : Nat} : ∀ {i : Nat} {vs : List Value} (_ : cellsAt w g i vs) (j : Nat), j < vs.length → w.cell? ⟨g, i + j, none⟩ = vs[j]?
  | i, [], _, j, hj => by simp at hj
  | i, v :: vs, h, 0, _ => h.1
  | i, v :: vs, h, j + 1, hj => by
    have := cellsAt_get h.2 j (by simpa using hj)
    rw [show i + (j + 1) = i + 1 + j by omega, this]
    rfl
theorem slat_one {R : List Value → α → Prop} {sz : Nat} {w : World} {g : Nat} (ce : List Value) (x : α) (hc : cellsAt w g 0 ce) (hs : ce.length = sz) (hpos : 0 < sz) (hR : R ce x) : SlAt (fun _ => R) sz w (some ⟨g, 0, none⟩) 1 [x] := by
  refine ⟨Nat.le_refl _, by unfold maxLen; omega, fun h => (by cases h), fun i y hy => ?_⟩
  cases i with
  | succ i => simp at hy
  | zero =>
    cases hy
    refine ⟨g, 0, ce, rfl, ?_, hs, hR, fun j hj => ?_⟩
    · have := cellsAt_get hc 0 (by omega)
      rw [List.getElem?_eq_getElem (by omega)] at this
      exact World.block_lt_of_cell? _ _ this
    · have := cellsAt_get hc j (by omega)
      rw [Nat.zero_add] at this
      rw [Nat.zero_mul, Nat.add_zero, Nat.zero_add]
      exact this

theorem flat_cells {R : List Value → α → Prop} {sz : Nat} (hpos : 0 < sz) {w : World} {p : Option Addr} {cap : Nat} {ys : List α} (h : SlAt (fun _ => R) sz w p cap ys) (hR1 : ∀ ce x, R ce x → ∀ u ∈ ce, u.oneCell' = true) :
    ∃ news : List Value, news.length = ys.length * sz ∧ (∀ b, p = some b → ∀ j u, news[j]? = some u → w.cell? (b.add j) = some u) ∧ (∀ u ∈ news, u.oneCell' = true) ∧
      ∀ i x, ys[i]? = some x → ∃ ce, ce.length = sz ∧ R ce x ∧ ∀ j, j < sz → news[i * sz + j]? = ce[j]? := by
  obtain ⟨h1, h2, h3, h4⟩ := h
  have hch : ∃ C : List (List Value), C.length = ys.length ∧ ∀ i c, C[i]? = some c → ∃ x b o, ys[i]? = some x ∧ p = some ⟨b, o, none⟩ ∧ c.length = sz ∧ R c x ∧ ∀ j, j < sz → w.cell? ⟨b, o + i * sz + j, none⟩ = c[j]? :=
    list_choose fun i hi => by
      obtain ⟨b, o, ce, g1, _, g3, g4, g5⟩ := h4 i _ (List.getElem?_eq_getElem hi)
      exact ⟨ce, _, b, o, List.getElem?_eq_getElem hi, g1, g3, g4, g5⟩
  obtain ⟨C, hCl, hC⟩ := hch
  have hfl : ∀ (C : List (List Value)), (∀ c ∈ C, c.length = sz) → C.flatten.length = C.length * sz ∧ ∀ i j, i < C.length → j < sz → C.flatten[i * sz + j]? = (C[i]?).bind (·[j]?) := by
    intro C
    induction C with
    | nil => intro _; exact ⟨by simp, fun i j hi => by simp at hi⟩
    | cons c C ih =>
      intro hc
      obtain ⟨i1, i2⟩ := ih fun d hd => hc d (by simp [hd])
      have hcl := hc c (by simp)
      refine ⟨by simp [i1, hcl, Nat.add_mul, Nat.add_comm], fun i j hi hj => ?_⟩
      cases i with
      | zero => simp [List.getElem?_append_left (show j < c.length by omega)]
      | succ i =>
        rw [List.flatten_cons, List.getElem?_append_right (by rw [hcl, Nat.succ_mul]; omega), hcl, show (i + 1) * sz + j - sz = i * sz + j by rw [Nat.succ_mul]; omega]
        simpa using i2 i j (by simpa using hi) hj
  have hall : ∀ c ∈ C, c.length = sz := fun c hc => by
    obtain ⟨i, hi, rfl⟩ := List.getElem_of_mem hc
    obtain ⟨_, _, _, _, _, h, _⟩ := hC i _ (List.getElem?_eq_getElem hi)
    exact h
  obtain ⟨f1, f2⟩ := hfl C hall
  refine ⟨C.flatten, by rw [f1, hCl], fun b hb j u hu => ?_, fun u hu => ?_, fun i x hx => ?_⟩
  · have hj : j < C.flatten.length := (List.getElem?_eq_some_iff.1 hu).1
    rw [f1] at hj
    have hq : j / sz < C.length := Nat.div_lt_of_lt_mul (by rw [Nat.mul_comm]; exact hj)
    have hr : j % sz < sz := Nat.mod_lt _ hpos
    have hjj : j / sz * sz + j % sz = j := by rw [Nat.mul_comm]; exact Nat.div_add_mod j sz
    have := f2 (j / sz) (j % sz) hq hr
    rw [hjj, hu] at this
    obtain ⟨x, b', o, _, g2, g3, _, g5⟩ := hC (j / sz) _ (List.getElem?_eq_getElem hq)
    rw [g2] at hb
    cases hb
    have h6 := g5 (j % sz) hr
    rw [List.getElem?_eq_getElem hq] at this
    rw [Addr.add_lit, ← hjj, ← Nat.add_assoc, h6]
    exact this.symm
  · obtain ⟨c, hc, hu'⟩ := List.mem_flatten.1 hu
    obtain ⟨i, hi, rfl⟩ := List.getElem_of_mem hc
    obtain ⟨x, _, _, _, _, _, g4, _⟩ := hC i _ (List.getElem?_eq_getElem hi)
    exact hR1 _ _ g4 u hu'
  · have hi : i < ys.length := (List.getElem?_eq_some_iff.1 hx).1
    obtain ⟨x', b, o, g1, g2, g3, g4, g5⟩ := hC i _ (List.getElem?_eq_getElem (by omega))
    rw [g1] at hx
    cases hx
    refine ⟨_, g3, g4, fun j hj => ?_⟩
    rw [f2 i j (by omega) hj, List.getElem?_eq_getElem (by omega)]
    rfl

/-- An append of a slice to one of the call's own. -/
theorem owp_append_sl {o : Oper} {a : Act} {K : Act → World → Prop} {Q : Exit → Act → World → Prop} {w : World} (L : Lay P) (R : List Value → α → Prop) (hR1 : ∀ ce x, R ce x → ∀ u ∈ ce, u.oneCell' = true) (s x : Operand)
    (ho : o.op = .call { callee := .builtin .append, args := #[s, x], argTypes := #[L.t, L.t] }) (B : Nat) (v0 : Value) (xs ys : List α) (hO : OwnSl L R w B v0 xs) (hB : B ≤ w.heap.size) (hs : a.eval s = v0)
    (ad : Option Addr) (m c : Nat) (hx : a.eval x = .slice ad m c) (hy : SlAt (fun _ => R) L.sz w ad c ys) (hm : ys.length = m) (hlen : xs.length + ys.length ≤ maxLen) (hbytes : (xs.length + ys.length) * L.bytes ≤ 140737488355328)
    (h : ∀ v' w', OwnSl L R w' B v' (xs ++ ys) → w.grownBy w' v0.ownBlock → (∀ k, v0.ownBlock = some k → B ≤ k) → (∀ k, v'.ownBlock = some k → v0.ownBlock = some k ∨ w.heap.size ≤ k) → K (a.put o.dst v') w') : o.wp P a w K Q := by
  subst hm
  obtain ⟨vs, h1, h2⟩ := hO
  obtain ⟨news, n1, n2, n3, n4⟩ := flat_cells L.hpos hy hR1
  have hvl : vs.length = xs.length * L.sz := (h1.at (k := 0) rfl).1
  have hold : ∀ g, v0.ownBlock = some g → g < w.heap.size := fun g hg => ((h1.1 0 _ rfl).lt g hg).2
  obtain ⟨e, he⟩ : ∃ e, v0.ownBlock = e := ⟨_, rfl⟩
  refine owp_append_own2 s x L.t ho L.e L.sz L.bytes L.z L.ht L.hinfo L.hzs L.hpos B _ 0 v0 xs.length vs h1 rfl hs ad ys.length c hx news n1 (fun hn => ?_) n2 n3 hlen hbytes hB ?_
  · have := hy.2.2.1 hn
    have := hy.1
    omega
  · intro v' w' k1 k2 k3 k4 k5
    have hO' : OwnSl L R w' B v' (xs ++ ys) := by
      refine ⟨vs ++ news, by rw [List.length_append]; exact k1, fun i z hz => ?_⟩
      rcases Nat.lt_or_ge i xs.length with hi | hi
      · rw [List.getElem?_append_left hi] at hz
        obtain ⟨ce, g1, g2, g3⟩ := h2 i z hz
        refine ⟨ce, g1, g2, fun j hj => ?_⟩
        rw [List.getElem?_append_left ?_]
        · exact g3 j hj
        · rw [hvl]
          have : (i + 1) * L.sz ≤ xs.length * L.sz := Nat.mul_le_mul_right _ hi
          rw [Nat.succ_mul] at this
          omega
      · rw [List.getElem?_append_right hi] at hz
        obtain ⟨ce, g1, g2, g3⟩ := n4 _ z hz
        refine ⟨ce, g1, g2, fun j hj => ?_⟩
        rw [List.getElem?_append_right ?_, hvl]
        · rw [← g3 j hj]
          congr 1
          rw [Nat.sub_mul]
          have : xs.length * L.sz ≤ i * L.sz := Nat.mul_le_mul_right _ hi
          omega
        · rw [hvl]
          have : xs.length * L.sz ≤ i * L.sz := Nat.mul_le_mul_right _ hi
          omega
    exact h v' w' hO' k2 k3 k5
theorem wp_append_sl {ops : Array Oper} {rest : List Oper} {o : Oper} {a : Act} {Q : Exit → Act → World → Prop} {w : World} (hgd : o.guard = none) (L : Lay P) (R : List Value → α → Prop) (hR1 : ∀ ce x, R ce x → ∀ u ∈ ce, u.oneCell' = true) (s x : Operand)
    (ho : o.op = .call { callee := .builtin .append, args := #[s, x], argTypes := #[L.t, L.t] }) (B : Nat) (v0 : Value) (xs ys : List α) (hO : OwnSl L R w B v0 xs) (hB : B ≤ w.heap.size) (hs : a.eval s = v0)
    (ad : Option Addr) (m c : Nat) (hx : a.eval x = .slice ad m c) (hy : SlAt (fun _ => R) L.sz w ad c ys) (hm : ys.length = m) (hlen : xs.length + ys.length ≤ maxLen) (hbytes : (xs.length + ys.length) * L.bytes ≤ 140737488355328)
    (h : ∀ v' w', OwnSl L R w' B v' (xs ++ ys) → w.grownBy w' v0.ownBlock → (∀ k, v0.ownBlock = some k → B ≤ k) → (∀ k, v'.ownBlock = some k → v0.ownBlock = some k ∨ w.heap.size ≤ k) → wpList P ops Q rest (a.put o.dst v') w') : wpList P ops Q (o :: rest) a w :=
  wpList_plain hgd fun _ hK => owp_append_sl L R hR1 s x ho B v0 xs ys hO hB hs ad m c hx hy hm hlen hbytes fun v' w' g1 g2 g3 g4 => hK _ _ (h v' w' g1 g2 g3 g4)
theorem step_append_sl {ops : Array Oper} {o : Oper} {a : Act} {K : Act → World → Prop} {Q : Exit → Act → World → Prop} {E : Prop} {w : World} (hgd : o.guard = none) (L : Lay P) (R : List Value → α → Prop) (hR1 : ∀ ce x, R ce x → ∀ u ∈ ce, u.oneCell' = true) (s x : Operand)
    (ho : o.op = .call { callee := .builtin .append, args := #[s, x], argTypes := #[L.t, L.t] }) (B : Nat) (v0 : Value) (xs ys : List α) (hO : OwnSl L R w B v0 xs) (hB : B ≤ w.heap.size) (hs : a.eval s = v0)
    (ad : Option Addr) (m c : Nat) (hx : a.eval x = .slice ad m c) (hy : SlAt (fun _ => R) L.sz w ad c ys) (hm : ys.length = m) (hlen : xs.length + ys.length ≤ maxLen) (hbytes : (xs.length + ys.length) * L.bytes ≤ 140737488355328)
    (h : ∀ v' w', OwnSl L R w' B v' (xs ++ ys) → w.grownBy w' v0.ownBlock → (∀ k, v0.ownBlock = some k → B ≤ k) → (∀ k, v'.ownBlock = some k → v0.ownBlock = some k ∨ w.heap.size ≤ k) → K (a.put o.dst v') w') :
    if Region.wanted o (yielded ops a.tmps) = true then Oper.wp P o a w K Q else E := by
  rw [if_pos (by simp [Region.wanted, hgd])]
  exact owp_append_sl L R hR1 s x ho B v0 xs ys hO hB hs ad m c hx hy hm hlen hbytes h
/-- An append onto a slice that has grown. -/
theorem wp_append_out {ops : Array Oper} {rest : List Oper} {o : Oper} {a : Act} {Q : Exit → Act → World → Prop} {w : World} (hgd : o.guard = none) (L : Lay P) (R : List Value → α → Prop) (hR1 : ∀ ce x, R ce x → ∀ u ∈ ce, u.oneCell' = true) (s x : Operand)
    (ho : o.op = .call { callee := .builtin .append, args := #[s, x], argTypes := #[L.t, L.t] }) (W0 : World) (X : Nat → Prop) (B : Nat) (v0 : Value) (xs ys : List α) (hO : Out L R W0 X B w v0 xs) (hB : B ≤ w.heap.size) (hs : a.eval s = v0)
    (ad : Option Addr) (m c : Nat) (hx : a.eval x = .slice ad m c) (hy : SlAt (fun _ => R) L.sz w ad c ys) (hm : ys.length = m) (hlen : xs.length + ys.length ≤ maxLen) (hbytes : (xs.length + ys.length) * L.bytes ≤ 140737488355328)
    (h : ∀ v' w', Out L R W0 X B w' v' (xs ++ ys) → wpList P ops Q rest (a.put o.dst v') w') : wpList P ops Q (o :: rest) a w :=
  wp_append_sl hgd L R hR1 s x ho B v0 xs ys hO.2.1 hB hs ad m c hx hy hm hlen hbytes fun v' w' g1 g2 _ g4 => h v' w' (hO.app g1 g2 g4)
end
end Go.Proofs.YtdacnkjmimhcaaaDoor
