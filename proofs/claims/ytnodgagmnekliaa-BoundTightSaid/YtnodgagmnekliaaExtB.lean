/- Branch and bound: the contract of extend. -/
import Derived.Test.YtnodgagmnekliaaExtA
set_option linter.unusedSimpArgs false
set_option linter.unusedVariables false
namespace Go.Proofs.Ytnodgagmnekliaa
open Go.RowKit

theorem prune_ok {n : Nat} {c : Nat → Nat → Int} {k : Nat} {l : List Nat} {y : List Nat × Int} (hk : (left n l).length = k) (h : y.2 ≤ fixL c l (left n l) + lowL c (left n l)) :
    updO (some y) (bestF n c k l) = some y := by
  obtain ⟨x, hx⟩ := Option.isSome_iff_exists.1 (bestF_some n c k l hk)
  have hb := (bestF_sound n c k l hk x hx).bound
  rw [hx]
  simp only [updO, upd]
  rw [if_neg (by omega)]

/-- The best so far behind the first j elements at the next place. -/
def foldE (n : Nat) (c : Nat → Nat → Int) (k : Nat) (l : List Nat) (st : Option (List Nat × Int)) (j : Nat) : Option (List Nat × Int) :=
  (List.range j).foldl (fun s v => if l.contains v then s else updO s (bestF n c k (l ++ [v]))) st
theorem foldE_all (n : Nat) (c : Nat → Nat → Int) (k : Nat) (l : List Nat) (st : Option (List Nat × Int)) : foldE n c k l st n = updO st (bestF n c (k + 1) l) := by
  rw [bestF_succ, ← foldl_updO]
  unfold foldE left
  rw [List.foldl_filter]
  congr 1
  funext s v
  cases l.contains v <;> simp
theorem foldE_succ (n : Nat) (c : Nat → Nat → Int) (k : Nat) (l : List Nat) (st : Option (List Nat × Int)) (j : Nat) :
    foldE n c k l st (j + 1) = if l.contains j then foldE n c k l st j else updO (foldE n c k l st j) (bestF n c k (l ++ [j])) := by
  unfold foldE
  rw [List.range_succ, List.foldl_append]
  rfl

theorem fix_bd {m : List (List Int)} (hv : vMat m) {l : List Nat} (hl : ∀ x ∈ l, x < m.length) (hlen : l.length + (left m.length l).length = m.length) :
    (0 ≤ fixL (at2 m) l (left m.length l) ∧ fixL (at2 m) l (left m.length l) ≤ 64000000) ∧ 0 ≤ lowL (at2 m) (left m.length l) ∧ lowL (at2 m) (left m.length l) ≤ 64000000 := by
  have hr : ∀ x ∈ left m.length l, x < m.length := fun x hx => by simp [left] at hx; exact hx.1
  have hc : ∀ x, x < m.length → ∀ y, y < m.length → 0 ≤ at2 m x y ∧ at2 m x y ≤ 1000000 := fun x hx y hy => (hv.2 x hx).2 y hy
  have hmem : ∀ x ∈ l ++ left m.length l, x < m.length := fun x hx => (List.mem_append.1 hx).elim (hl x) (hr x)
  have h8 := hv.1
  have h1 := costL_bd (c := at2 m) (l := l ++ left m.length l) (fun x hx y hy => hc x (hmem x hx) y (hmem y hy)) (by simp; omega)
  have h2 := costL_bd (c := at2 m) (l := left m.length l) (fun x hx y hy => hc x (hr x hx) y (hr y hy)) (by omega)
  have h3 := costL_bd (c := fun u v => min (at2 m u v) (at2 m v u)) (l := left m.length l) (fun x hx y hy => by
    have := hc x (hr x hx) y (hr y hy)
    have := hc y (hr y hy) x (hr x hx)
    omega) (by omega)
  have h4 : 0 ≤ costL (at2 m) l := (costL_bd (c := at2 m) (l := l) (fun x hx y hy => hc x (hl x hx) y (hl y hy)) (by omega)).1
  have h5 : 0 ≤ sumL (fun u => sumL (at2 m u) (left m.length l)) l := sumL_nonneg fun u hu => sumL_nonneg fun v hv => (hc u (hl u hu) v (hr v hv)).1
  rw [costL_append] at h1
  have hl1 : (l ++ left m.length l).length = m.length := by simp; exact hlen
  unfold fixL lowL
  rw [hl1] at h1
  omega

def ExtPost (m : List (List Int)) (ms : Value) (k : Nat) (ord : List Int) (st : Option (List Nat × Int)) (w0 : World) (e : Ending) (w' : World) : Prop :=
  e = .returned (.tuple #[]) ∧ Grew w0 w' ∧ SOK w' w0.heap.size ms m.length ord (updO st (bestF m.length (at2 m) k (natL ord)))

theorem SOK.put {w : World} {S n : Nat} {ms vo vb v : Value} {ord : List Int} {least c : Int} (hh : w.heap[S]? = some (.cells #[ms, vo, vb, .int .i64 least] 41 (0, 0))) (ho : Own w (S + 1) vo ord)
    (hv : Own w (S + 1) v ord) (hsep : ∀ g, vo.ownBlock = some g → v.ownBlock ≠ some g) (h0 : ∀ x ∈ ord, 0 ≤ x) (c1 : 0 ≤ c) (c2 : c ≤ 64000000) (hne : v ≠ .slice none 0 0 ∨ n = 0) :
    SOK ((w.setCell ⟨S, 2, none⟩ v).setCell ⟨S, 3, none⟩ (.int .i64 c)) S ms n ord (some (natL ord, c)) := by
  refine ⟨vo, v, c, ?_, (ho.setCell (Nat.lt_succ_self S)).setCell (Nat.lt_succ_self S), hsep, Or.inr ⟨natL ord, c, rfl, c1, c2, ?_, hne, rfl⟩⟩
  · rw [heap_setCell_same (heap_setCell_same hh 2 v) 3]
    simp
  · rw [intL_natL h0]
    exact (hv.setCell (Nat.lt_succ_self S)).setCell (Nat.lt_succ_self S)

/-- The end of a full order: the copy is laid down. -/
theorem ext_put {m : List (List Int)} {w0 w : World} {ms vo vb : Value} {ord : List Int} {st : Option (List Nat × Int)} {least cost : Int} (hg : Grew w0 w)
    (hh : w.heap[w0.heap.size]? = some (.cells #[ms, vo, vb, .int .i64 least] 41 (0, 0))) (ho : Own w (w0.heap.size + 1) vo ord) (hr : ∀ x ∈ ord, 0 ≤ x ∧ x < (m.length : Int)) (h8 : m.length ≤ 8)
    (hlen : ord.length = m.length) (c1 : 0 ≤ cost) (c2 : cost ≤ 64000000) (hst : updO st (bestF m.length (at2 m) 0 (natL ord)) = some (natL ord, cost)) {x x1 W : World} {qv : Option Addr} {cv : Nat}
    (hv : Own (over (over w x) x1) (over w x).heap.size (.slice qv ord.length cv) ord)
    (hW : W = ((over (over w x) x1).setCell ⟨w0.heap.size, 2, none⟩ (.slice qv ord.length cv)).setCell ⟨w0.heap.size, 3, none⟩ (.int .i64 cost)) :
    ExtPost m ms 0 ord st w0 (.returned (.tuple #[])) W := by
  subst hW
  have hlt := lt_of_heap hh
  have g1 : Grew w (over (over w x) x1) := (Grew.refl w).over x |>.over x1
  have hs := g1.below.size
  have hs1 := ((Grew.refl w).over x).below.size
  refine ⟨rfl, ((hg.trans g1).setAt).setAt, ?_⟩
  rw [hst]
  refine SOK.put (vo := vo) (vb := vb) (least := least) ?_ (ho.grew g1) (hv.base (by omega)) ?_ (fun x hx => (hr x hx).1) c1 c2 ?_
  · rw [g1.below.block _ hlt]
    exact hh
  · intro g e1 e2
    have := ho.lt g e1
    have := hv.lt g e2
    omega
  · rcases Nat.eq_zero_or_pos m.length with h | h
    · exact Or.inr h
    · refine Or.inl fun hc => ?_
      injection hc with _ hc
      omega

theorem SOK.grew {w w' : World} {S n : Nat} {ms : Value} {ord : List Int} {st : Option (List Nat × Int)} (h : SOK w S ms n ord st) (hg : Grew w w') : SOK w' S ms n ord st := by
  obtain ⟨vo, vb, least, hh, ho, hs, hb⟩ := h
  refine ⟨vo, vb, least, ?_, ho.grew hg, hs, ?_⟩
  · rw [hg.below.block _ (lt_of_heap hh)]
    exact hh
  · rcases hb with hb | ⟨o, c, e, b1, b2, hob, hn, hl⟩
    · exact Or.inl hb
    · exact Or.inr ⟨o, c, e, b1, b2, hob.grew hg, hn, hl⟩

theorem Own.some {w : World} {B : Nat} {v : Value} {xs : List Int} (h : Own w B v xs) (hn : v ≠ .slice none 0 0) : ∃ g cap, v = .slice (some ⟨g, 0, none⟩) xs.length cap := by
  obtain ⟨_, h2⟩ := h
  rcases h2 with ⟨h, _⟩ | ⟨g, cap, cur, hv, _⟩
  · exact absurd h hn
  · exact ⟨g, cap, hv⟩

theorem ext_same {m : List (List Int)} {ms : Value} {k : Nat} {ord : List Int} {st : Option (List Nat × Int)} {w0 w W : World} (hg : Grew w0 w) (hS : SOK w w0.heap.size ms m.length ord st)
    (hu : updO st (bestF m.length (at2 m) k (natL ord)) = st) (hw : Grew w W) : ExtPost m ms k ord st w0 (.returned (.tuple #[])) W :=
  ⟨rfl, hg.trans hw, by rw [hu]; exact hS.grew hw⟩

set_option maxHeartbeats 8000000 in
theorem extend_prune (m : List (List Int)) (h8 : m.length ≤ 8) (w0 : World) (p : Option Addr) (cp k : Nat) (ord : List Int) (o : List Nat) (c cost rest : Int) (w : World)
    (hg : Grew w0 w) (hS : SOK w w0.heap.size (.slice p m.length cp) m.length ord (some (o, c))) (h1 : 0 ≤ cost ∧ cost ≤ 64000000) (h2 : 0 ≤ rest ∧ rest ≤ 64000000) (hpos : 0 < m.length) (hp : c ≤ cost + rest)
    (hu : updO (some (o, c)) (bestF m.length (at2 m) k (natL ord)) = some (o, c)) :
    Calls Try.prog 20 #[.pointer (some ⟨w0.heap.size, 0, none⟩), .int .i64 cost, .int .i64 rest] w (ExtPost m (.slice p m.length cp) k ord (some (o, c)) w0) := by
  have HS := Lib.hid hS
  have Hu := Lib.hid hu
  clear hu
  obtain ⟨vo, vb, least, hh, hown, hsep, hbest⟩ := hS
  rcases hbest with ⟨h, _⟩ | ⟨o', c', he, b1, b2, hob, hnn, rfl⟩
  · cases h
  · cases he
    have hlt := lt_of_heap hh
    obtain ⟨g, cb, rfl⟩ := hob.some (hnn.resolve_right (by omega))
    have hne := fun W : World => run_neq_slice_nil_any (P := Try.prog) W 25 3 (some ⟨g, 0, none⟩) (intL o).length cb 0 0 Try.underlying25
    have c2 := cell_of_heap hh 2
    have c3 := cell_of_heap hh 3
    simp at c2 c3
    clear hh hown hsep hob hnn
    obtain ⟨h11, h12⟩ := h1
    obtain ⟨h21, h22⟩ := h2
    go_enter Try.func20, Try.ntmps20
    go_wp2
    refine bodyPost_ret (results_none rfl _ _ _) rfl ?_
    exact ext_same hg HS.out Hu.out (by (repeat (first | exact Grew.refl _ | refine Grew.over ?_ _ | refine Grew.alloc ?_ _ | refine Grew.drew ?_ | refine Grew.drewN ?_ _)))

/-- What extend does where k elements are left. -/
def ExtAll (m : List (List Int)) (w0 : World) (p : Option Addr) (cp k : Nat) : Prop := ∀ (ord : List Int) (st : Option (List Nat × Int)) (cost rest : Int) (w : World),
    Grew w0 w → SOK w w0.heap.size (.slice p m.length cp) m.length ord st → (∀ x ∈ ord, 0 ≤ x ∧ x < (m.length : Int)) → (left m.length (natL ord)).length = k → ord.length + k = m.length →
    cost = fixL (at2 m) (natL ord) (left m.length (natL ord)) → rest = lowL (at2 m) (left m.length (natL ord)) → (st = none ∨ 0 < m.length) →
    Calls Try.prog 20 #[.pointer (some ⟨w0.heap.size, 0, none⟩), .int .i64 cost, .int .i64 rest] w (ExtPost m (.slice p m.length cp) k ord st w0)

set_option maxHeartbeats 8000000 in
theorem extend_zero (m : List (List Int)) (hV : vMat m) (w0 : World) (p : Option Addr) (cp : Nat) (hM : Mat w0 p m) : ExtAll m w0 p cp 0 := by
  have h8 := hV.1
  have HV := Lib.hid hV
  have HM := Lib.hid hM
  clear hV hM
  intro ord st cost rest w hg hS hr hk hlen hcost hrest hst
  have hbd := fix_bd HV.out (l := natL ord) (fun x hx => by
    obtain ⟨y, hy, rfl⟩ := List.mem_map.1 hx
    have := hr y hy
    omega) (by rw [hk, natL_length]; exact hlen)
  rw [← hcost, ← hrest] at hbd
  by_cases hp : ∃ o c, st = some (o, c) ∧ c ≤ cost + rest
  · obtain ⟨o, c, rfl, hp⟩ := hp
    exact extend_prune m h8 w0 p cp 0 ord o c cost rest w hg hS hbd.1 hbd.2 (hst.resolve_left (by simp)) hp (prune_ok hk (by rw [← hcost, ← hrest]; exact hp))
  obtain ⟨⟨bd1, bd2⟩, bd3, bd4⟩ := hbd
  obtain ⟨vo, vb, least, hh, hown, hsep, hbest⟩ := hS
  obtain ⟨q, cq, rfl, hcq, hqn, hI⟩ := hown.ints (Own.wf h8 hr)
  have hl0 : ord.length = m.length := by omega
  have c0 := cell_of_heap hh 0
  have c1 := cell_of_heap hh 1
  have c2 := cell_of_heap hh 2
  have c3 := cell_of_heap hh 3
  have f2 := free_of_heap hh 2
  have f3 := free_of_heap hh 3
  have hlt := lt_of_heap hh
  simp at c0 c1 c2 c3
  have h0 : left m.length (natL ord) = [] := List.length_eq_zero_iff.1 hk
  have hcost2 : cost = costL (at2 m) (natL ord) := by
    rw [hcost, h0]
    unfold fixL
    rw [show sumL (fun u => sumL (at2 m u) []) (natL ord) = 0 from sumL_zero (fun u _ => rfl)]
    omega
  have hrest2 : rest = 0 := by rw [hrest, h0]; rfl
  have Hcost := Lib.hid hcost2
  have Hrest := Lib.hid hrest2
  rcases hbest with ⟨rfl, rfl, rfl⟩ | ⟨o, c, rfl, b1, b2, hob, hnn, rfl⟩
  · have hne := fun W : World => run_neq_slice_nil_any (P := Try.prog) W 25 3 none 0 0 0 0 Try.underlying25
    have hl1 : ((ord.length : Int) == (m.length : Int)) = true := by rw [hl0]; simp
    have hl8 : ord.length ≤ 8 := by omega
    have Hh := Lib.hid hh
    have Hl0 := Lib.hid hl0
    have Hr := Lib.hid hr
    clear hh hcost hrest hk h0 hcost2 hrest2 hl0 hr hlen
    go_enter Try.func20, Try.ntmps20
    go_wp2
    refine wp_region_over (by kernel_rfl) (by kernel_rfl) ?_; (repeat (go_big_quiet_step (fail))); refine wpQuiet_nil ?_; rintro _ ⟨x, rfl⟩
    go_wp2_with (go_at_call 27; apply Calls.mono; (with_reducible exact clone_p _ _ _ _ _ (hI.grew (by (repeat (first | exact Grew.refl _ | refine Grew.over ?_ _ | refine Grew.alloc ?_ _ | refine Grew.drew ?_ | refine Grew.drewN ?_ _)))) rfl hqn (by omega)); rintro e w' ⟨v, rfl, hov, hvn, x1, rfl⟩; obtain ⟨qv, cv, rfl, hcv, hqv, hIv⟩ := hov.ints (Own.wf h8 Hr.out); clear hIv)
    refine bodyPost_ret (results_none rfl _ _ _) rfl ?_
    exact ext_put hg Hh.out hown Hr.out h8 Hl0.out bd1 bd2 (by rw [Hcost.out]; rfl) hov (by (simp [go_sem, ↓IntWalk.iteOmega]))
  · have hpos : 0 < m.length := hst.resolve_left (by simp)
    have hp2 : cost + rest < least := by
      rcases Int.lt_or_le (cost + rest) least with h | h
      · exact h
      · exact absurd ⟨o, least, rfl, h⟩ hp
    obtain ⟨g, cb, rfl⟩ := hob.some (hnn.resolve_right (by omega))
    have hne := fun W : World => run_neq_slice_nil_any (P := Try.prog) W 25 3 (some ⟨g, 0, none⟩) (intL o).length cb 0 0 Try.underlying25
    have hl1 : ((ord.length : Int) == (m.length : Int)) = true := by rw [hl0]; simp
    have hl8 : ord.length ≤ 8 := by omega
    have Hh := Lib.hid hh
    have Hl0 := Lib.hid hl0
    have Hr := Lib.hid hr
    have Hu : Hid (updO (some (o, least)) (bestF m.length (at2 m) 0 (natL ord)) = some (natL ord, cost)) := Lib.hid (by
      show upd (some (o, least)) (natL ord, costL (at2 m) (natL ord)) = _
      rw [← hcost2]
      simp only [upd]
      rw [if_pos (by omega)])
    clear hh hcost hrest hk h0 hcost2 hrest2 hl0 hr hlen hob hnn hp hsep hst
    go_enter Try.func20, Try.ntmps20
    go_wp2
    refine wp_region_over (by kernel_rfl) (by kernel_rfl) ?_; (repeat (go_big_quiet_step (fail))); refine wpQuiet_nil ?_; rintro _ ⟨x, rfl⟩
    go_wp2_with (go_at_call 27; apply Calls.mono; (with_reducible exact clone_p _ _ _ _ _ (hI.grew (by (repeat (first | exact Grew.refl _ | refine Grew.over ?_ _ | refine Grew.alloc ?_ _ | refine Grew.drew ?_ | refine Grew.drewN ?_ _)))) rfl hqn (by omega)); rintro e w' ⟨v, rfl, hov, hvn, x1, rfl⟩; obtain ⟨qv, cv, rfl, hcv, hqv, hIv⟩ := hov.ints (Own.wf h8 Hr.out); clear hIv)
    refine bodyPost_ret (results_none rfl _ _ _) rfl ?_
    exact ext_put hg Hh.out hown Hr.out h8 Hl0.out bd1 bd2 Hu.out hov (by (simp [go_sem, ↓IntWalk.iteOmega]))

end Go.Proofs.Ytnodgagmnekliaa
