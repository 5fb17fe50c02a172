/- Memory of the call's own: a list of rows, each in a block of its own; what is read, stored, appended, made. -/
import Derived.Test.YtdacnkjmimhcaaaDoorBase
import Derived.Laws.AppendOwnNone
import Derived.ArgAppend
import Derived.OwnWalk
import Derived.Laws.OwnMore
set_option linter.unusedSimpArgs false
set_option linter.unusedVariables false
namespace Go.Proofs.YtdacnkjmimhcaaaDoor
open Go.RowKit

/-- A slice value with what it holds: n elements of sz cells each. -/
structure Row where
  v : Value
  e : TypeId
  sz : Nat
  n : Nat
  vs : List Value

/-- The rows lie in blocks from B on, each in one of its own. -/
def Owns (w : World) (B : Nat) (rs : List Row) : Prop :=
  (∀ (k : Nat) (r : Row), rs[k]? = some r → w.ownsRow B r.e r.sz r.v r.n r.vs) ∧
  ∀ (i j : Nat) (ri rj : Row), rs[i]? = some ri → rs[j]? = some rj → i ≠ j → ∀ g, ri.v.ownBlock = some g → rj.v.ownBlock ≠ some g

theorem lt_of_block {w : World} {S : Nat} {o : Obj} (h : w.heap[S]? = some o) : S < w.heap.size := (Array.getElem?_eq_some_iff.1 h).1

theorem ownsRow_grew {w w' : World} {B : Nat} {e : TypeId} {sz n : Nat} {v : Value} {vs : List Value} (h : w.ownsRow B e sz v n vs) (hg : Grew w w') : w'.ownsRow B e sz v n vs := by
  obtain ⟨h1, h2⟩ := h
  refine ⟨h1, h2.imp id fun ⟨g, cap, cur, hv, hb, hh, r⟩ => ⟨g, cap, cur, hv, hb, ?_, r⟩⟩
  rw [hg.below.block g (lt_of_block hh)]
  exact hh
theorem ownsRow_base {w : World} {B B' : Nat} {e : TypeId} {sz n : Nat} {v : Value} {vs : List Value} (h : w.ownsRow B e sz v n vs) (hB : B' ≤ B) : w.ownsRow B' e sz v n vs := by
  obtain ⟨h1, h2⟩ := h
  exact ⟨h1, h2.imp id fun ⟨g, cap, cur, hv, hb, r⟩ => ⟨g, cap, cur, hv, Nat.le_trans hB hb, r⟩⟩

theorem Owns.nil (w : World) (B : Nat) : Owns w B [] := ⟨fun k r h => by simp at h, fun i j ri rj h => by simp at h⟩
theorem Owns.grew {w w' : World} {B : Nat} {rs : List Row} (h : Owns w B rs) (hg : Grew w w') : Owns w' B rs := ⟨fun k r hk => ownsRow_grew (h.1 k r hk) hg, h.2⟩
theorem Owns.base {w : World} {B B' : Nat} {rs : List Row} (h : Owns w B rs) (hB : B' ≤ B) : Owns w B' rs := ⟨fun k r hk => ownsRow_base (h.1 k r hk) hB, h.2⟩
theorem Owns.tail {w : World} {B : Nat} {r : Row} {rs : List Row} (h : Owns w B (r :: rs)) : Owns w B rs :=
  ⟨fun k x hk => h.1 (k + 1) x (by simpa using hk), fun i j ri rj hi hj hij => h.2 (i + 1) (j + 1) ri rj (by simpa using hi) (by simpa using hj) (by omega)⟩
theorem Owns.head {w : World} {B : Nat} {r : Row} {rs : List Row} (h : Owns w B (r :: rs)) : w.ownsRow B r.e r.sz r.v r.n r.vs := h.1 0 r rfl

theorem Owns.cons {w : World} {B : Nat} {r : Row} {rs : List Row} (h : Owns w B rs) (hr : w.ownsRow B r.e r.sz r.v r.n r.vs)
    (hsep : ∀ (k : Nat) (x : Row), rs[k]? = some x → ∀ g, r.v.ownBlock = some g → x.v.ownBlock ≠ some g) : Owns w B (r :: rs) := by
  refine ⟨fun k x hk => ?_, fun i j ri rj hi hj hij g h1 h2 => ?_⟩
  · cases k with
    | zero => simp at hk; subst hk; exact hr
    | succ k => exact h.1 k x (by simpa using hk)
  · cases i with
    | zero =>
      cases j with
      | zero => exact hij rfl
      | succ j => simp at hi; subst hi; exact hsep j rj (by simpa using hj) g h1 h2
    | succ i =>
      cases j with
      | zero => simp at hj; subst hj; exact hsep i ri (by simpa using hi) g h2 h1
      | succ j => exact h.2 i j ri rj (by simpa using hi) (by simpa using hj) (by omega) g h1 h2

/-- A slice that is nil. -/
theorem Owns.none {w : World} {B : Nat} {rs : List Row} (h : Owns w B rs) (e : TypeId) (sz : Nat) : Owns w B (⟨.slice Option.none 0 0, e, sz, 0, []⟩ :: rs) :=
  h.cons (World.ownsRow_nil w B e sz) (fun k x _ g hg => by simp [Value.ownBlock] at hg)

/-- A new block. -/
theorem Owns.made {w : World} {B : Nat} {rs : List Row} (h : Owns w B rs) (hB : B ≤ w.heap.size) (cs : Array Value) (e : TypeId) (sz n b : Nat) (hn : cs.size = n * sz) (hm : n ≤ maxLen) (hb : b = w.heap.size) :
    Owns (w.alloc (.cells cs e)) B (⟨.slice (some ⟨b, 0, Option.none⟩) n n, e, sz, n, cs.toList⟩ :: rs) := by
  subst hb
  refine (h.grew ((Grew.refl w).alloc _)).cons ⟨by simpa using hn, Or.inr ⟨w.heap.size, n, cs, rfl, hB, ?_, Nat.le_refl _, hm, hn, ?_⟩⟩ ?_
  · rw [heap_alloc_if, if_neg (by omega), if_pos rfl]
  · exact List.take_of_length_le (by simp [hn])
  · intro k x hk g h1 h2
    simp [Value.ownBlock] at h1
    subst h1
    have := ((h.1 k x hk).lt _ h2).2
    omega

/-- What an operation on one row leaves of the others. -/
theorem Owns.put {w w' : World} {B : Nat} {rs : List Row} {k : Nat} {r r' : Row} (h : Owns w B rs) (hk : rs[k]? = some r) (hg : w.grownBy w' r.v.ownBlock) (hr : w'.ownsRow B r'.e r'.sz r'.v r'.n r'.vs)
    (hsep : ∀ g, r'.v.ownBlock = some g → r.v.ownBlock = some g ∨ w.heap.size ≤ g) : Owns w' B (rs.set k r') := by
  have hkl : k < rs.length := (List.getElem?_eq_some_iff.1 hk).1
  have hfar : ∀ (j : Nat) (x : Row), rs[j]? = some x → j ≠ k → w'.ownsRow B x.e x.sz x.v x.n x.vs := fun j x hj hne => by
    refine (h.1 j x hj).kept hg ?_
    cases hx : x.v.ownBlock with
    | none => exact Or.inl rfl
    | some g => exact Or.inr fun e => h.2 j k x r hj hk hne g hx e.symm
  have hsep' : ∀ (j : Nat) (x : Row), rs[j]? = some x → j ≠ k → ∀ g, r'.v.ownBlock = some g → x.v.ownBlock ≠ some g := fun j x hj hne g h1 h2 => by
    rcases hsep g h1 with h3 | h3
    · exact h.2 k j r x hk hj (Ne.symm hne) g h3 h2
    · have := ((h.1 j x hj).lt g h2).2
      omega
  refine ⟨fun j x hj => ?_, fun i j ri rj hi hj hij g h1 h2 => ?_⟩
  · rw [List.getElem?_set] at hj
    by_cases e : k = j
    · rw [if_pos e, if_pos (by omega)] at hj
      cases hj
      exact hr
    · rw [if_neg e] at hj
      exact hfar j x hj (Ne.symm e)
  · rw [List.getElem?_set] at hi hj
    by_cases ei : k = i
    · rw [if_pos ei, if_pos (by omega)] at hi
      cases hi
      rw [if_neg (by omega)] at hj
      exact hsep' j rj hj (by omega) g h1 h2
    · rw [if_neg ei] at hi
      by_cases ej : k = j
      · rw [if_pos ej, if_pos (by omega)] at hj
        cases hj
        exact hsep' i ri hi (Ne.symm ei) g h2 h1
      · rw [if_neg ej] at hj
        exact h.2 i j ri rj hi hj hij g h1 h2

/-- What a walk wants of a row: where it lies and what can be read. -/
theorem Owns.at {w : World} {B : Nat} {rs : List Row} (h : Owns w B rs) {k : Nat} {r : Row} (hk : rs[k]? = some r) :
    r.vs.length = r.n * r.sz ∧ ((r.v = .slice Option.none 0 0 ∧ r.n = 0) ∨ ∃ g cap, r.v = .slice (some ⟨g, 0, Option.none⟩) r.n cap ∧ B ≤ g ∧ g < w.heap.size ∧ r.n ≤ cap ∧ cap ≤ maxLen ∧
      (∀ i, w.frozen? ⟨g, i, Option.none⟩ = false) ∧ ∀ i u, r.vs[i]? = some u → w.cell? ⟨g, i, Option.none⟩ = some u) := by
  obtain ⟨h1, h2⟩ := h.1 k r hk
  refine ⟨h1, h2.imp id fun ⟨g, cap, cur, hv, hb, hh, hle, hm, hs, ht⟩ => ⟨g, cap, hv, hb, lt_of_block hh, hle, hm, fun i => by simp [World.frozen?, hh], fun i u hu => ?_⟩⟩
  rw [← ht, List.getElem?_take] at hu
  split at hu
  · simp only [World.cell?, hh]
    simpa using hu
  · cases hu

theorem Owns.get {w : World} {B : Nat} {rs : List Row} (h : Owns w B rs) {k : Nat} {v : Value} {e : TypeId} {sz n : Nat} {vs : List Value} (hk : rs[k]? = some ⟨v, e, sz, n, vs⟩) :
    vs.length = n * sz ∧ ((v = .slice Option.none 0 0 ∧ n = 0) ∨ ∃ g cap, v = .slice (some ⟨g, 0, Option.none⟩) n cap ∧ B ≤ g ∧ g < w.heap.size ∧ n ≤ cap ∧ cap ≤ maxLen ∧
      (∀ i, w.frozen? ⟨g, i, Option.none⟩ = false) ∧ ∀ i u, vs[i]? = some u → w.cell? ⟨g, i, Option.none⟩ = some u) := h.at hk
/-- A row that is not empty. -/
theorem Owns.some {w : World} {B : Nat} {rs : List Row} (h : Owns w B rs) {k : Nat} {v : Value} {e : TypeId} {sz n : Nat} {vs : List Value} (hk : rs[k]? = some ⟨v, e, sz, n, vs⟩) (hn : 0 < n) :
    ∃ g cap, v = .slice (some ⟨g, 0, Option.none⟩) n cap ∧ B ≤ g ∧ g < w.heap.size ∧ n ≤ cap ∧ cap ≤ maxLen ∧
      (∀ i, w.frozen? ⟨g, i, Option.none⟩ = false) ∧ ∀ i u, vs[i]? = some u → w.cell? ⟨g, i, Option.none⟩ = some u := (h.get hk).2.resolve_left (fun h0 => by omega)

/-- A store into a row. -/
theorem Owns.set {w : World} {B : Nat} {rs : List Row} (h : Owns w B rs) {k : Nat} {e : TypeId} {sz n : Nat} {vs : List Value} {g cap : Nat} (hk : rs[k]? = Option.some ⟨.slice (Option.some ⟨g, 0, Option.none⟩) n cap, e, sz, n, vs⟩) (i : Nat) (u : Value) :
    Owns (w.setCell ⟨g, i, Option.none⟩ u) B (rs.set k ⟨.slice (Option.some ⟨g, 0, Option.none⟩) n cap, e, sz, n, vs.set i u⟩) := by
  have hv : (Value.slice (Option.some ⟨g, 0, Option.none⟩) n cap) = .slice (Option.some ⟨g, 0, Option.none⟩) n cap := rfl
  have hrow : w.ownsRow B e sz (.slice (Option.some ⟨g, 0, Option.none⟩) n cap) n vs := h.1 k _ hk
  obtain ⟨h1, h2⟩ := hrow
  rcases h2 with ⟨h2, _⟩ | ⟨g', cap', cur, hv', hb, hh, hle, hm, hs, ht⟩
  · cases h2
  · cases hv'
    refine h.put hk ?_ ⟨by simpa using h1, Or.inr ⟨g, cap, cur.setIfInBounds i u, hv, hb, ?_, hle, hm, by simpa using hs, ?_⟩⟩ (fun g' hg' => Or.inl hg')
    · refine ⟨rfl, rfl, rfl, by simp [World.setCell], fun j hj hne => ?_⟩
      simp only [World.setCell, Array.getElem?_modify]
      rw [if_neg (fun e => hne (by simp [Value.ownBlock, e]))]
    · simp only [World.setCell, Array.getElem?_modify, hh]
      simp
    · rw [← ht]
      simp [List.take_set]

theorem Grew.grownBy {w0 w w' : World} {row : Option Nat} (h : Grew w0 w) (hg : w.grownBy w' row) (hr : ∀ k, row = some k → w0.heap.size ≤ k) : Grew w0 w' :=
  .of_below (h.below.grown hg h.below.size hr)
/-- A store into a row leaves the old memory. -/
theorem Owns.setGrew {w0 w : World} {B : Nat} {rs : List Row} (h : Owns w B rs) (hB : w0.heap.size ≤ B) (hg : Grew w0 w) {k : Nat} {e : TypeId} {sz n : Nat} {vs : List Value} {g cap : Nat} (hk : rs[k]? = Option.some ⟨.slice (Option.some ⟨g, 0, Option.none⟩) n cap, e, sz, n, vs⟩) (i : Nat) (u : Value) :
    Grew w0 (w.setCell ⟨g, i, Option.none⟩ u) := by
  have := ((h.1 k _ hk).lt g rfl).1
  exact hg.setCell (by show w0.heap.size ≤ g; omega) u

/-- An append on a row. -/
theorem owp_append_owns {P : Program} {o : Oper} {a : Act} {K : Act → World → Prop} {Q : Exit → Act → World → Prop} {w : World} (s x : Operand) (t : TypeId)
    (ho : o.op = .call { callee := .builtin .append, args := #[s, x], argTypes := #[t, t] }) (e : TypeId) (sz bytes : Nat) (z : Value) (ht : P.underlying t = some (.slice e))
    (hinfo : (P.info? e).map (fun i => (i.zero, i.size, i.bytes)) = some (some z, sz, bytes)) (hzs : z.cells.size = sz) (hpos : 0 < sz)
    (B : Nat) (rs : List Row) (k : Nat) (v0 : Value) (n0 : Nat) (xs0 : List Value) (hO : Owns w B rs) (hk : rs[k]? = some ⟨v0, e, sz, n0, xs0⟩) (hs : a.eval s = v0)
    (ad : Option Addr) (m c : Nat) (hx : a.eval x = .slice ad m c) (news : List Value) (hn : news.length = m * sz) (hnil : ad = Option.none → m = 0 ∧ c = 0)
    (hnews : ∀ b, ad = some b → ∀ j u, news[j]? = some u → w.cell? (b.add j) = some u) (h1 : ∀ u ∈ news, u.oneCell' = true)
    (hlen : n0 + m ≤ maxLen) (hbytes : (n0 + m) * bytes ≤ 140737488355328) (hB : B ≤ w.heap.size)
    (h : ∀ v' w', Owns w' B (rs.set k ⟨v', e, sz, n0 + m, xs0 ++ news⟩) → w.grownBy w' v0.ownBlock → (∀ k, v0.ownBlock = some k → B ≤ k) → (v' = .slice Option.none 0 0 → m = 0) → K (a.put o.dst v') w') :
    o.wp P a w K Q := by
  obtain ⟨i0, hi, hz0, hz1, hz2⟩ := info_parts hinfo
  have hown : w.ownsRow B e sz v0 n0 xs0 := hO.1 k _ hk
  have hge : ∀ g, v0.ownBlock = some g → B ≤ g := fun g hg => (hown.lt g hg).1
  cases ad with
  | none =>
    obtain ⟨rfl, rfl⟩ := hnil rfl
    have hnn : news = [] := List.length_eq_zero_iff.1 (by simpa using hn)
    subst hnn
    have hrun := run_append_owned_none (P := P) (w := w) B t o.type e i0 sz ht hi v0 n0 xs0 hown
    unfold Oper.wp
    simp [execOp, ho, resolve, invoke, builtin, hs, hx, hrun, Result.andThen]
    refine h v0 w ?_ (World.grownBy.refl w _) hge (fun _ => rfl)
    have : rs.set k ⟨v0, e, sz, n0 + 0, xs0 ++ []⟩ = rs := by
      rw [List.append_nil]
      obtain ⟨h3, h4⟩ := List.getElem?_eq_some_iff.1 hk
      rw [Nat.add_zero, ← h4]
      exact List.set_getElem_self h3
    rw [this]
    exact hO
  | some ad =>
  have hnews' := hnews ad rfl
  have hgrown : ∀ v' w', w'.ownsRow w.heap.size e sz v' (n0 + m) (xs0 ++ news) → w.grownBy w' Option.none → 0 < n0 + m → K (a.put o.dst v') w' := by
    intro v' w' g1 g2 hnm
    refine h v' w' (hO.put hk ⟨g2.os, g2.tape, g2.output, g2.size, fun j hj _ => g2.block j hj (by simp)⟩ ?_ ?_) ⟨g2.os, g2.tape, g2.output, g2.size, fun j hj _ => g2.block j hj (by simp)⟩ hge ?_
    · exact ownsRow_base g1 hB
    · intro g hg
      exact Or.inr (World.ownsRow.lt g1 g hg).1
    · rintro rfl
      rcases g1.2 with ⟨_, h0⟩ | ⟨g, cap', cur, hv', _⟩
      · omega
      · cases hv'
  rcases id hown.2 with ⟨h2, h3⟩ | ⟨g, cap, cur, hv, hb, hh, hle, hmx, hsz, htk⟩
  · have hx0 : xs0 = [] := List.length_eq_zero_iff.1 (by rw [hown.1, h3]; simp)
    obtain ⟨v', w', hrun, r1, r2, r3⟩ := run_append_own (P := P) w w.heap.size t o.type e i0 z sz bytes ht hi hz0 hz1 hz2 hzs hpos v0 n0 xs0 (by rw [h2, h3, hx0]; exact World.ownsRow_nil w _ e sz) ad m c news hn hnews' h1 hlen hbytes (Nat.le_refl _)
    unfold Oper.wp
    simp [execOp, ho, resolve, invoke, builtin, hs, hx, hrun, Result.andThen]
    exact h v' w' (hO.put hk r2 (ownsRow_base r1 hB) (fun g hg => Or.inr (World.ownsRow.lt r1 g hg).1)) r2 hge (fun hv' => (r3.1 hv').2)
  · by_cases hfit : n0 + m ≤ cap
    · obtain ⟨w', hrun, g1, g2⟩ := run_append_fits (P := P) w B t o.type e i0 sz ht hi hz1 g n0 cap xs0 (by rw [← hv]; exact hown) ad m c news hn hnews' h1 hfit
      unfold Oper.wp
      simp [execOp, ho, resolve, invoke, builtin, hs, hv, hx, hrun, Result.andThen]
      have hvb : v0.ownBlock = some g := by rw [hv]; rfl
      refine h _ w' (hO.put hk (by rw [hvb]; exact g2) g1 (fun g' hg' => ?_)) (by rw [hvb]; exact g2) hge (fun hc => by cases hc)
      rw [hvb]
      exact Or.inl hg'
    · have hnm : 0 < n0 + m := by omega
      obtain ⟨v', w', hrun, r1, r2⟩ := run_append_arg_grows (P := P) w t o.type e i0 z sz bytes ht hi hz0 hz1 hz2 hzs hpos ⟨g, 0, Option.none⟩ n0 cap xs0 hown.1 (fun j u hj => by
        rcases (hO.get hk).2 with ⟨h2, _⟩ | ⟨g', cap', hv', _, _, _, _, _, hc⟩
        · rw [hv] at h2; cases h2
        · rw [hv] at hv'
          cases hv'
          rw [Addr.add_lit, Nat.zero_add]
          exact hc j u hj) ad m c news hn hnews' (by omega) hlen hbytes
      unfold Oper.wp
      simp [execOp, ho, resolve, invoke, builtin, hs, hv, hx, hrun, Result.andThen]
      exact hgrown v' w' r1 r2 hnm

theorem wp_append_owns {P : Program} {ops : Array Oper} {rest : List Oper} {o : Oper} {a : Act} {Q : Exit → Act → World → Prop} {w : World} (hgd : o.guard = Option.none) (s x : Operand) (t : TypeId)
    (ho : o.op = .call { callee := .builtin .append, args := #[s, x], argTypes := #[t, t] }) (e : TypeId) (sz bytes : Nat) (z : Value) (ht : P.underlying t = some (.slice e))
    (hinfo : (P.info? e).map (fun i => (i.zero, i.size, i.bytes)) = some (some z, sz, bytes)) (hzs : z.cells.size = sz) (hpos : 0 < sz)
    (B : Nat) (rs : List Row) (k : Nat) (v0 : Value) (n0 : Nat) (xs0 : List Value) (hO : Owns w B rs) (hk : rs[k]? = some ⟨v0, e, sz, n0, xs0⟩) (hs : a.eval s = v0)
    (ad : Option Addr) (m c : Nat) (hx : a.eval x = .slice ad m c) (news : List Value) (hn : news.length = m * sz) (hnil : ad = Option.none → m = 0 ∧ c = 0)
    (hnews : ∀ b, ad = some b → ∀ j u, news[j]? = some u → w.cell? (b.add j) = some u) (h1 : ∀ u ∈ news, u.oneCell' = true)
    (hlen : n0 + m ≤ maxLen) (hbytes : (n0 + m) * bytes ≤ 140737488355328) (hB : B ≤ w.heap.size)
    (h : ∀ v' w', Owns w' B (rs.set k ⟨v', e, sz, n0 + m, xs0 ++ news⟩) → w.grownBy w' v0.ownBlock → (∀ k, v0.ownBlock = some k → B ≤ k) → (v' = .slice Option.none 0 0 → m = 0) → wpList P ops Q rest (a.put o.dst v') w') :
    wpList P ops Q (o :: rest) a w :=
  wpList_plain hgd fun _ hK => owp_append_owns s x t ho e sz bytes z ht hinfo hzs hpos B rs k v0 n0 xs0 hO hk hs ad m c hx news hn hnil hnews h1 hlen hbytes hB fun v' w' g1 g2 g3 g4 => hK _ _ (h v' w' g1 g2 g3 g4)
/-- The same at a step of a region that draws its order. -/
theorem step_append_owns {P : Program} {ops : Array Oper} {o : Oper} {a : Act} {K : Act → World → Prop} {Q : Exit → Act → World → Prop} {E : Prop} {w : World} (hgd : o.guard = Option.none) (s x : Operand) (t : TypeId)
    (ho : o.op = .call { callee := .builtin .append, args := #[s, x], argTypes := #[t, t] }) (e : TypeId) (sz bytes : Nat) (z : Value) (ht : P.underlying t = some (.slice e))
    (hinfo : (P.info? e).map (fun i => (i.zero, i.size, i.bytes)) = some (some z, sz, bytes)) (hzs : z.cells.size = sz) (hpos : 0 < sz)
    (B : Nat) (rs : List Row) (k : Nat) (v0 : Value) (n0 : Nat) (xs0 : List Value) (hO : Owns w B rs) (hk : rs[k]? = some ⟨v0, e, sz, n0, xs0⟩) (hs : a.eval s = v0)
    (ad : Option Addr) (m c : Nat) (hx : a.eval x = .slice ad m c) (news : List Value) (hn : news.length = m * sz) (hnil : ad = Option.none → m = 0 ∧ c = 0)
    (hnews : ∀ b, ad = some b → ∀ j u, news[j]? = some u → w.cell? (b.add j) = some u) (h1 : ∀ u ∈ news, u.oneCell' = true)
    (hlen : n0 + m ≤ maxLen) (hbytes : (n0 + m) * bytes ≤ 140737488355328) (hB : B ≤ w.heap.size)
    (h : ∀ v' w', Owns w' B (rs.set k ⟨v', e, sz, n0 + m, xs0 ++ news⟩) → w.grownBy w' v0.ownBlock → (∀ k, v0.ownBlock = some k → B ≤ k) → (v' = .slice Option.none 0 0 → m = 0) → K (a.put o.dst v') w') :
    if Region.wanted o (yielded ops a.tmps) = true then Oper.wp P o a w K Q else E := by
  rw [if_pos (by simp [Region.wanted, hgd])]
  exact owp_append_owns s x t ho e sz bytes z ht hinfo hzs hpos B rs k v0 n0 xs0 hO hk hs ad m c hx news hn hnil hnews h1 hlen hbytes hB h

theorem Grew.cellEq {w W : World} (h : Grew w W) {b i : Nat} {v : Value} (hc : w.cell? ⟨b, i, Option.none⟩ = Option.some v) : W.cell? ⟨b, i, Option.none⟩ = Option.some v := by
  rw [h.below.cell (p := ⟨b, i, Option.none⟩) (World.block_lt_of_cell? w _ hc)]
  exact hc
theorem Grew.frozenEq {w W : World} (h : Grew w W) {b i : Nat} (hb : b < w.heap.size) (hc : w.frozen? ⟨b, i, Option.none⟩ = false) : W.frozen? ⟨b, i, Option.none⟩ = false := by
  rw [h.below.frozen (p := ⟨b, i, Option.none⟩) hb]
  exact hc
theorem grownBy_cell {w w' : World} {row : Option Nat} (hg : w.grownBy w' row) {b : Nat} (i : Nat) (hb : b < w.heap.size) (hne : ∀ g, row = some g → g ≠ b) : w'.cell? ⟨b, i, Option.none⟩ = w.cell? ⟨b, i, Option.none⟩ :=
  World.cell?_of_block (hg.block b hb (fun e => hne b e.symm rfl))
theorem grownBy_frozen {w w' : World} {row : Option Nat} (hg : w.grownBy w' row) {b : Nat} (i : Nat) (hb : b < w.heap.size) (hne : ∀ g, row = some g → g ≠ b) : w'.frozen? ⟨b, i, Option.none⟩ = w.frozen? ⟨b, i, Option.none⟩ :=
  World.frozen?_of_block (hg.block b hb (fun e => hne b e.symm rfl))
/-! ### Worlds that differ in some blocks only -/
/-- w' has come out of w; the blocks that were there are as they were, but for those of ex. -/
structure Gr (ex : Nat → Prop) (w w' : World) : Prop where
  os : w'.os = w.os
  tape : w'.tape = w.tape
  output : w'.output = w.output
  size : w.heap.size ≤ w'.heap.size
  block : ∀ k, k < w.heap.size → ¬ ex k → w'.heap[k]? = w.heap[k]?
theorem Gr.refl (ex : Nat → Prop) (w : World) : Gr ex w w := ⟨rfl, rfl, rfl, Nat.le_refl _, fun _ _ _ => rfl⟩
theorem Gr.trans {ex : Nat → Prop} {a b c : World} (h : Gr ex a b) (k : Gr ex b c) : Gr ex a c :=
  ⟨k.os.trans h.os, k.tape.trans h.tape, k.output.trans h.output, Nat.le_trans h.size k.size, fun i hi hx => (k.block i (Nat.lt_of_lt_of_le hi h.size) hx).trans (h.block i hi hx)⟩
theorem Gr.mono {ex ex' : Nat → Prop} {a b : World} (h : Gr ex a b) (hx : ∀ k, k < a.heap.size → ex k → ex' k) : Gr ex' a b :=
  ⟨h.os, h.tape, h.output, h.size, fun i hi hn => h.block i hi (fun e => hn (hx i hi e))⟩
theorem Gr.of_grew (ex : Nat → Prop) {w w' : World} (h : Grew w w') : Gr ex w w' := ⟨h.below.os, h.below.tape, h.below.output, h.below.size, fun k hk _ => h.below.block k hk⟩
theorem Gr.grew {w w' : World} (h : Gr (fun _ => False) w w') : Grew w w' := .of_below ⟨h.os, h.tape, h.output, h.size, fun k hk => h.block k hk (fun e => e)⟩
theorem Gr.of_grownBy {w w' : World} {row : Option Nat} (h : w.grownBy w' row) : Gr (fun k => some k = row) w w' := ⟨h.os, h.tape, h.output, h.size, fun k hk hn => h.block k hk hn⟩
theorem Gr.setCell {ex : Nat → Prop} {w w' : World} (h : Gr ex w w') {b i : Nat} (hb : ex b) (u : Value) : Gr ex w (w'.setCell ⟨b, i, Option.none⟩ u) := by
  refine h.trans ⟨rfl, rfl, rfl, by simp [World.setCell], fun k hk hn => ?_⟩
  simp only [World.setCell, Array.getElem?_modify]
  rw [if_neg (fun e => hn (by rw [← e]; exact hb))]
theorem Gr.alloc {ex : Nat → Prop} {w w' : World} (h : Gr ex w w') (o : Obj) : Gr ex w (w'.alloc o) := h.trans (Gr.of_grew ex ((Grew.refl w').alloc o))
theorem Gr.drew {ex : Nat → Prop} {w w' : World} (h : Gr ex w w') : Gr ex w w'.drew := h.trans (Gr.of_grew ex (Grew.refl w').drew)
theorem Gr.ovr {ex : Nat → Prop} {w w' : World} (h : Gr ex w w') (x : World) : Gr ex w (Proofs.YtdacnkjmimhcaaaDoor.over w' x) := h.trans (Gr.of_grew ex ((Grew.refl w').over x))
theorem ownsRow_gr {ex : Nat → Prop} {w w' : World} {B : Nat} {e : TypeId} {sz n : Nat} {v : Value} {vs : List Value} (h : w.ownsRow B e sz v n vs) (hg : Gr ex w w') (hn : ∀ k, B ≤ k → k < w.heap.size → ¬ ex k) : w'.ownsRow B e sz v n vs := by
  obtain ⟨h1, h2⟩ := h
  refine ⟨h1, h2.imp id fun ⟨g, cap, cur, hv, hb, hh, x⟩ => ⟨g, cap, cur, hv, hb, ?_, x⟩⟩
  rw [hg.block g (lt_of_block hh) (hn g hb (lt_of_block hh))]
  exact hh
theorem Gr.over {ex : Nat → Prop} {w w' : World} (h : Gr ex w w') {w2 : World} (hg : Grew w' w2) : Gr ex w w2 := h.trans (Gr.of_grew ex hg)
theorem Gr.cell {ex : Nat → Prop} {w w' : World} (h : Gr ex w w') {b i : Nat} (hb : b < w.heap.size) (hn : ¬ ex b) : w'.cell? ⟨b, i, Option.none⟩ = w.cell? ⟨b, i, Option.none⟩ := World.cell?_of_block (h.block b hb hn)
theorem Gr.frozen {ex : Nat → Prop} {w w' : World} (h : Gr ex w w') {b i : Nat} (hb : b < w.heap.size) (hn : ¬ ex b) : w'.frozen? ⟨b, i, Option.none⟩ = w.frozen? ⟨b, i, Option.none⟩ := World.frozen?_of_block (h.block b hb hn)
/-- Rows whose blocks are not among those. -/
theorem Owns.gr {ex : Nat → Prop} {w w' : World} {B : Nat} {rs : List Row} (h : Owns w B rs) (hg : Gr ex w w') (hn : ∀ k, B ≤ k → k < w.heap.size → ¬ ex k) : Owns w' B rs := by
  refine ⟨fun k r hk => ?_, h.2⟩
  obtain ⟨h1, h2⟩ := h.1 k r hk
  refine ⟨h1, h2.imp id fun ⟨g, cap, cur, hv, hb, hh, x⟩ => ⟨g, cap, cur, hv, hb, ?_, x⟩⟩
  rw [hg.block g (lt_of_block hh) (hn g hb (lt_of_block hh))]
  exact hh

/-- make([]T, n), an element being one cell. -/
theorem owp_make_owns {P : Program} {o : Oper} {a : Act} {K : Act → World → Prop} {Q : Exit → Act → World → Prop} {w : World} (l c : Operand) (t : TypeId) (hop : o.op = Op.makeSlice t l c)
    (e : TypeId) (bytes : Nat) (z : Value) (ht : P.underlying t = some (.slice e)) (hinfo : (P.info? e).map (fun i => (i.zero, i.size, i.bytes)) = some (some z, 1, bytes)) (hzs : z.cells = #[z])
    (kl kc : IntKind) (L C : Int) (n : Nat) (hl : a.eval l = .int kl L) (hc : a.eval c = .int kc C) (hL : L = (n : Int)) (hC : C = (n : Int)) (hbytes : bytes * n ≤ 281474976710656) (hn : n ≤ maxLen)
    (B : Nat) (rs : List Row) (hO : Owns w B rs) (hB : B ≤ w.heap.size)
    (h : ∀ w', Owns w' B (⟨.slice (some ⟨w.heap.size, 0, Option.none⟩) n n, e, 1, n, List.replicate n z⟩ :: rs) → Grew w w' → w.heap.size < w'.heap.size → K (a.put o.dst (.slice (some ⟨w.heap.size, 0, Option.none⟩) n n)) w') :
    o.wp P a w K Q := by
  obtain ⟨i0, hi, hz0, hz1, hz2⟩ := info_parts hinfo
  obtain ⟨w', hrun, r1, r2⟩ := run_make_full (P := P) w w.heap.size t e i0 z 1 ht hi hz0 hz1 kl kc n (by rw [hz2]; exact hbytes) hn (Nat.le_refl _)
  subst hL hC
  unfold Oper.wp
  simp [execOp, hop, hl, hc, hrun, Result.andThen]
  rw [hzs, Nat.mul_one, toList_madeCells_one] at r1
  have hg : Grew w w' := .of_below ⟨r2.os, r2.tape, r2.output, r2.size, fun k hk => r2.block k hk (by simp)⟩
  refine h w' ((hO.grew hg).cons (ownsRow_base r1 hB) ?_) hg (World.ownsRow.lt r1 _ rfl).2
  intro k x hk g h1 h2
  simp [Value.ownBlock] at h1
  subst h1
  have := ((hO.1 k x hk).lt _ h2).2
  omega
theorem wp_make_owns {P : Program} {ops : Array Oper} {rest : List Oper} {o : Oper} {a : Act} {Q : Exit → Act → World → Prop} {w : World} (hgd : o.guard = Option.none) (l c : Operand) (t : TypeId) (hop : o.op = Op.makeSlice t l c)
    (e : TypeId) (bytes : Nat) (z : Value) (ht : P.underlying t = some (.slice e)) (hinfo : (P.info? e).map (fun i => (i.zero, i.size, i.bytes)) = some (some z, 1, bytes)) (hzs : z.cells = #[z])
    (kl kc : IntKind) (L C : Int) (n : Nat) (hl : a.eval l = .int kl L) (hc : a.eval c = .int kc C) (hL : L = (n : Int)) (hC : C = (n : Int)) (hbytes : bytes * n ≤ 281474976710656) (hn : n ≤ maxLen)
    (B : Nat) (rs : List Row) (hO : Owns w B rs) (hB : B ≤ w.heap.size)
    (h : ∀ w', Owns w' B (⟨.slice (some ⟨w.heap.size, 0, Option.none⟩) n n, e, 1, n, List.replicate n z⟩ :: rs) → Grew w w' → w.heap.size < w'.heap.size → wpList P ops Q rest (a.put o.dst (.slice (some ⟨w.heap.size, 0, Option.none⟩) n n)) w') :
    wpList P ops Q (o :: rest) a w :=
  wpList_plain hgd fun _ hK => owp_make_owns l c t hop e bytes z ht hinfo hzs kl kc L C n hl hc hL hC hbytes hn B rs hO hB fun w' g1 g2 g3 => hK _ _ (h w' g1 g2 g3)
theorem step_make_owns {P : Program} {ops : Array Oper} {o : Oper} {a : Act} {K : Act → World → Prop} {Q : Exit → Act → World → Prop} {E : Prop} {w : World} (hgd : o.guard = Option.none) (l c : Operand) (t : TypeId) (hop : o.op = Op.makeSlice t l c)
    (e : TypeId) (bytes : Nat) (z : Value) (ht : P.underlying t = some (.slice e)) (hinfo : (P.info? e).map (fun i => (i.zero, i.size, i.bytes)) = some (some z, 1, bytes)) (hzs : z.cells = #[z])
    (kl kc : IntKind) (L C : Int) (n : Nat) (hl : a.eval l = .int kl L) (hc : a.eval c = .int kc C) (hL : L = (n : Int)) (hC : C = (n : Int)) (hbytes : bytes * n ≤ 281474976710656) (hn : n ≤ maxLen)
    (B : Nat) (rs : List Row) (hO : Owns w B rs) (hB : B ≤ w.heap.size)
    (h : ∀ w', Owns w' B (⟨.slice (some ⟨w.heap.size, 0, Option.none⟩) n n, e, 1, n, List.replicate n z⟩ :: rs) → Grew w w' → w.heap.size < w'.heap.size → K (a.put o.dst (.slice (some ⟨w.heap.size, 0, Option.none⟩) n n)) w') :
    if Region.wanted o (yielded ops a.tmps) = true then Oper.wp P o a w K Q else E := by
  rw [if_pos (by simp [Region.wanted, hgd])]
  exact owp_make_owns l c t hop e bytes z ht hinfo hzs kl kc L C n hl hc hL hC hbytes hn B rs hO hB h

theorem owns_iff {w : World} {B : Nat} {rs : List Row} : Owns w B rs ↔ (∀ r ∈ rs, w.ownsRow B r.e r.sz r.v r.n r.vs) ∧ rs.Pairwise (fun a b => ∀ g, a.v.ownBlock = some g → b.v.ownBlock ≠ some g) := by
  constructor
  · intro h
    refine ⟨fun r hr => ?_, List.pairwise_iff_getElem.2 fun i j hi hj hij => h.2 i j _ _ (List.getElem?_eq_getElem hi) (List.getElem?_eq_getElem hj) (by omega)⟩
    obtain ⟨i, hi, rfl⟩ := List.getElem_of_mem hr
    exact h.1 i _ (List.getElem?_eq_getElem hi)
  · rintro ⟨h1, h2⟩
    rw [List.pairwise_iff_getElem] at h2
    refine ⟨fun k r hk => h1 r (List.mem_of_getElem? hk), fun i j ri rj hi hj hij g e1 e2 => ?_⟩
    obtain ⟨hi', rfl⟩ := List.getElem?_eq_some_iff.1 hi
    obtain ⟨hj', rfl⟩ := List.getElem?_eq_some_iff.1 hj
    rcases Nat.lt_or_gt_of_ne hij with h | h
    · exact h2 i j hi' hj' h g e1 e2
    · exact h2 j i hj' hi' h g e2 e1
theorem Owns.perm {w : World} {B : Nat} {rs rs' : List Row} (h : Owns w B rs) (hp : rs.Perm rs') : Owns w B rs' := by
  rw [owns_iff] at h ⊢
  refine ⟨fun r hr => h.1 r (hp.mem_iff.2 hr), (hp.pairwise_iff ?_).1 h.2⟩
  intro a b hab g e1 e2
  exact hab g e2 e1
theorem Owns.tail_of {w : World} {B : Nat} {xs rs : List Row} (h : Owns w B (xs ++ rs)) : Owns w B rs := by
  induction xs with
  | nil => exact h
  | cons a xs ih => exact ih (Owns.tail h)

end Go.Proofs.YtdacnkjmimhcaaaDoor
