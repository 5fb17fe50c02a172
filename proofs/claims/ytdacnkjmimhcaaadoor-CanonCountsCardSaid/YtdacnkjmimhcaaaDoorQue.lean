/- A queue: a slice of the call's own whose beginning has been cut off; what is appended to it. -/
import Derived.Test.YtdacnkjmimhcaaaDoorMem
set_option linter.unusedSimpArgs false
set_option linter.unusedVariables false
namespace Go.Proofs.YtdacnkjmimhcaaaDoor
open Go.RowKit

/-- The row below a queue: p elements have been cut off. -/
def qRow (e : TypeId) (g p cap : Nat) (ys xs : List Value) : Row := ⟨.slice (some ⟨g, 0, none⟩) (p + xs.length) (p + cap), e, 1, p + xs.length, ys ++ xs⟩

/-- The first element of a queue. -/
theorem owns_first {w : World} {B : Nat} {rs : List Row} (h : Owns w B rs) {k : Nat} {e : TypeId} {g p cap : Nat} {ys xs : List Value} (hk : rs[k]? = some (qRow e g p cap ys xs)) (hp : ys.length = p) :
    xs.length ≤ cap ∧ B ≤ g ∧ g < w.heap.size ∧ p + cap ≤ maxLen ∧ ∀ j u, xs[j]? = some u → w.cell? ⟨g, p + j, none⟩ = some u := by
  obtain ⟨h1, h2⟩ := h.get hk
  rcases h2 with ⟨h2, _⟩ | ⟨g', cap', h2, h3, h4, h5, h6, _, h8⟩
  · cases h2
  · cases h2
    refine ⟨by omega, h3, h4, h6, fun j u hu => h8 _ u ?_⟩
    rw [List.getElem?_append_right (by omega), show p + j - ys.length = j by omega]
    exact hu
/-- One element is cut off. -/
theorem qRow_cut (e : TypeId) (g p cap : Nat) (ys : List Value) (x : Value) (xs : List Value) : qRow e g p (cap + 1) ys (x :: xs) = qRow e g (p + 1) cap (ys ++ [x]) xs := by
  unfold qRow
  have h1 : p + (x :: xs).length = p + 1 + xs.length := by simp; omega
  have h2 : p + (cap + 1) = p + 1 + cap := by omega
  rw [h1, h2, List.append_assoc]
  rfl

theorem owp_append_que {P : Program} {o : Oper} {a : Act} {K : Act → World → Prop} {Q : Exit → Act → World → Prop} {w : World} (s x : Operand) (t : TypeId)
    (ho : o.op = .call { callee := .builtin .append, args := #[s, x], argTypes := #[t, t] }) (e : TypeId) (bytes : Nat) (z : Value) (ht : P.underlying t = some (.slice e))
    (hinfo : (P.info? e).map (fun i => (i.zero, i.size, i.bytes)) = some (some z, 1, bytes)) (hzs : z.cells.size = 1)
    (B : Nat) (rs : List Row) (k g off p cap n : Nat) (ys xs : List Value) (hO : Owns w B rs) (hk : rs[k]? = some (qRow e g p cap ys xs)) (hys : ys.length = p) (hoff : 0 < cap → off = p) (hn : xs.length = n) (hs : a.eval s = .slice (some ⟨g, off, none⟩) n cap)
    (ad : Addr) (c : Nat) (hx : a.eval x = .slice (some ad) 1 c) (u : Value) (hu : w.cell? (ad.add 0) = some u) (h1 : u.oneCell' = true)
    (hlen : n + 1 ≤ maxLen) (hbytes : (n + 1) * bytes ≤ 140737488355328) (hB : B ≤ w.heap.size)
    (h : ∀ g' off' p' cap' ys' w', Owns w' B (rs.set k (qRow e g' p' cap' ys' (xs ++ [u]))) → ys'.length = p' → (0 < cap' → off' = p') → n + 1 ≤ cap' → w.grownBy w' (some g) → B ≤ g → K (a.put o.dst (.slice (some ⟨g', off', none⟩) (n + 1) cap')) w') :
    o.wp P a w K Q := by
  subst hn
  obtain ⟨i0, hi, hz0, hz1, hz2⟩ := info_parts hinfo
  obtain ⟨hle, hBg, hgl, hmx, hcells⟩ := owns_first hO hk hys
  have hrow : w.ownsRow B e 1 (.slice (some ⟨g, 0, none⟩) (p + xs.length) (p + cap)) (p + xs.length) (ys ++ xs) := hO.1 k _ hk
  obtain ⟨r1, r2⟩ := hrow
  rcases r2 with ⟨h2, _⟩ | ⟨g', cap', cur, hv', hb, hh, _, hm, hsz, htk⟩
  · cases h2
  cases hv'
  have hnews : ∀ j v, [u][j]? = some v → w.cell? (ad.add j) = some v := by
    intro j v hj
    match j, hj with
    | 0, hj => simp at hj; subst hj; exact hu
  have h1' : ∀ v ∈ [u], v.oneCell' = true := by simp [h1]
  by_cases hroom : xs.length + 1 ≤ cap
  · have hop := hoff (by omega)
    subst hop
    have hrun := run_append_room_cells (P := P) w t o.type e i0 ht hi g off xs.length cap ad 1 c [u] (by simp [hz1]) hnews h1' hroom (fun j hj => by
        simp at hj
        subst hj
        rw [hz1, Nat.mul_one, Nat.add_zero]
        unfold World.cell?
        simp only [hh]
        have : off + xs.length < cur.size := by omega
        simp [this]) (fun j hj => by
        exact frozen_of_row w g _ cur e hh)
    unfold Oper.wp
    simp [execOp, ho, resolve, invoke, builtin, hs, hx, hrun, Result.andThen]
    have hgb : w.grownBy (w.setCell ⟨g, off + xs.length * i0.size, none⟩ u) (some g) := by
      refine ⟨rfl, rfl, rfl, by simp [World.setCell], fun j hj hne => ?_⟩
      simp only [World.setCell, Array.getElem?_modify]
      rw [if_neg (fun e => hne (by simp [e]))]
    refine h g off off cap ys _ (hO.put hk hgb ?_ (fun g' hg' => Or.inl hg')) hys (fun _ => rfl) hroom hgb hBg
    rw [hz1, Nat.mul_one]
    refine ⟨by simp [qRow, hys], Or.inr ⟨g, off + cap, cur.setIfInBounds (off + xs.length) u, rfl, hb, ?_, (by simp [qRow]; omega), hm, (by simpa [qRow] using hsz), ?_⟩⟩
    · show (w.setCell ⟨g, off + xs.length, none⟩ u).heap[g]? = _
      simp only [World.setCell, Array.getElem?_modify, hh]
      simp [qRow]
    · simp only [qRow, List.length_append, List.length_cons, List.length_nil, Nat.mul_one]
      rw [Array.toList_setIfInBounds, show off + (xs.length + (0 + 1)) = off + xs.length + 1 by omega]
      have hlt : off + xs.length < cur.toList.length := by simp; omega
      rw [List.take_succ_eq_append_getElem (by simpa using hlt), List.getElem_set_self, List.take_set_of_le (Nat.le_refl _)]
      rw [Nat.mul_one] at htk
      rw [htk, List.append_assoc]
  · obtain ⟨v', w', hrun, q1, q2⟩ := run_append_arg_grows (P := P) w t o.type e i0 z 1 bytes ht hi hz0 hz1 hz2 hzs (by decide) ⟨g, off, none⟩ xs.length cap xs (by simp) (fun j v hj => by
        have hl := (List.getElem?_eq_some_iff.1 hj).1
        rw [hoff (by omega), Addr.add_lit]
        exact hcells j v hj) ad 1 c [u] (by simp) hnews (by omega) hlen hbytes
    unfold Oper.wp
    simp [execOp, ho, resolve, invoke, builtin, hs, hx, hrun, Result.andThen]
    have hv : ∃ g' cap', v' = .slice (some ⟨g', 0, none⟩) (xs.length + 1) cap' ∧ w.heap.size ≤ g' ∧ xs.length + 1 ≤ cap' := by
      rcases q1.2 with ⟨_, h2⟩ | ⟨g2, c2, cur2, hv2, hb2, _, hle2, _⟩
      · omega
      · exact ⟨g2, c2, hv2, hb2, hle2⟩
    obtain ⟨g', cap', rfl, hge, hcap⟩ := hv
    have hq : qRow e g' 0 cap' [] (xs ++ [u]) = ⟨.slice (some ⟨g', 0, none⟩) (xs.length + 1) cap', e, 1, xs.length + 1, xs ++ [u]⟩ := by simp [qRow]
    have hgb : w.grownBy w' (some g) := ⟨q2.os, q2.tape, q2.output, q2.size, fun j hj _ => q2.block j hj (by simp)⟩
    refine h g' 0 0 cap' [] w' ?_ rfl (fun _ => rfl) hcap hgb hBg
    rw [hq]
    exact hO.put hk hgb (ownsRow_base q1 hB) (fun g2 hg2 => Or.inr (by simp [Value.ownBlock] at hg2; omega))

theorem wp_append_que {P : Program} {ops : Array Oper} {rest : List Oper} {o : Oper} {a : Act} {Q : Exit → Act → World → Prop} {w : World} (hgd : o.guard = none) (s x : Operand) (t : TypeId)
    (ho : o.op = .call { callee := .builtin .append, args := #[s, x], argTypes := #[t, t] }) (e : TypeId) (bytes : Nat) (z : Value) (ht : P.underlying t = some (.slice e))
    (hinfo : (P.info? e).map (fun i => (i.zero, i.size, i.bytes)) = some (some z, 1, bytes)) (hzs : z.cells.size = 1)
    (B : Nat) (rs : List Row) (k g off p cap n : Nat) (ys xs : List Value) (hO : Owns w B rs) (hk : rs[k]? = some (qRow e g p cap ys xs)) (hys : ys.length = p) (hoff : 0 < cap → off = p) (hn : xs.length = n) (hs : a.eval s = .slice (some ⟨g, off, none⟩) n cap)
    (ad : Addr) (c : Nat) (hx : a.eval x = .slice (some ad) 1 c) (u : Value) (hu : w.cell? (ad.add 0) = some u) (h1 : u.oneCell' = true)
    (hlen : n + 1 ≤ maxLen) (hbytes : (n + 1) * bytes ≤ 140737488355328) (hB : B ≤ w.heap.size)
    (h : ∀ g' off' p' cap' ys' w', Owns w' B (rs.set k (qRow e g' p' cap' ys' (xs ++ [u]))) → ys'.length = p' → (0 < cap' → off' = p') → n + 1 ≤ cap' → w.grownBy w' (some g) → B ≤ g → wpList P ops Q rest (a.put o.dst (.slice (some ⟨g', off', none⟩) (n + 1) cap')) w') :
    wpList P ops Q (o :: rest) a w :=
  wpList_plain hgd fun _ hK => owp_append_que s x t ho e bytes z ht hinfo hzs B rs k g off p cap n ys xs hO hk hys hoff hn hs ad c hx u hu h1 hlen hbytes hB fun g' off' p' cap' ys' w' g1 g2 g3 g4 g5 g6 => hK _ _ (h g' off' p' cap' ys' w' g1 g2 g3 g4 g5 g6)
/-- The same at a step of a region that draws its order. -/
theorem step_append_que {P : Program} {ops : Array Oper} {o : Oper} {a : Act} {K : Act → World → Prop} {Q : Exit → Act → World → Prop} {E : Prop} {w : World} (hgd : o.guard = none) (s x : Operand) (t : TypeId)
    (ho : o.op = .call { callee := .builtin .append, args := #[s, x], argTypes := #[t, t] }) (e : TypeId) (bytes : Nat) (z : Value) (ht : P.underlying t = some (.slice e))
    (hinfo : (P.info? e).map (fun i => (i.zero, i.size, i.bytes)) = some (some z, 1, bytes)) (hzs : z.cells.size = 1)
    (B : Nat) (rs : List Row) (k g off p cap n : Nat) (ys xs : List Value) (hO : Owns w B rs) (hk : rs[k]? = some (qRow e g p cap ys xs)) (hys : ys.length = p) (hoff : 0 < cap → off = p) (hn : xs.length = n) (hs : a.eval s = .slice (some ⟨g, off, none⟩) n cap)
    (ad : Addr) (c : Nat) (hx : a.eval x = .slice (some ad) 1 c) (u : Value) (hu : w.cell? (ad.add 0) = some u) (h1 : u.oneCell' = true)
    (hlen : n + 1 ≤ maxLen) (hbytes : (n + 1) * bytes ≤ 140737488355328) (hB : B ≤ w.heap.size)
    (h : ∀ g' off' p' cap' ys' w', Owns w' B (rs.set k (qRow e g' p' cap' ys' (xs ++ [u]))) → ys'.length = p' → (0 < cap' → off' = p') → n + 1 ≤ cap' → w.grownBy w' (some g) → B ≤ g → K (a.put o.dst (.slice (some ⟨g', off', none⟩) (n + 1) cap')) w') :
    if Region.wanted o (yielded ops a.tmps) = true then Oper.wp P o a w K Q else E := by
  rw [if_pos (by simp [Region.wanted, hgd])]
  exact owp_append_que s x t ho e bytes z ht hinfo hzs B rs k g off p cap n ys xs hO hk hys hoff hn hs ad c hx u hu h1 hlen hbytes hB h

end Go.Proofs.YtdacnkjmimhcaaaDoor
