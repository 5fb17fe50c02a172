/- contours of the program. -/
import Derived.Test.YtdacnkjmimhcaaaDoorCanC
import Derived.Test.YtdacnkjmimhcaaaDoorOwnSl
set_option linter.unusedSimpArgs false
set_option linter.unusedVariables false
namespace Go.Proofs.YtdacnkjmimhcaaaDoor
open Go.RowKit
attribute [local go_sem ↓] Go.wp_at_zero Go.wp_at_succ

/-- The vertex number j + 2 of an order is a new one. -/
def okNew (N : Int) (O : List Int) (j : Nat) : Bool := decide (0 ≤ ge O (j + 2)) && decide (ge O (j + 2) < N) && !decide (ge O (j + 2) ∈ O.take (j + 2))
/-- The program's contour of the first j + 2 vertices. -/
def contP (N : Int) (E : List (Int × Int)) (A : List (List Int)) (O : List Int) : Nat → Option (List Int)
  | 0 => some (O.take 2)
  | j + 1 => (contP N E A O j).bind fun C => if okNew N O j = true then growF C (O.take (j + 2)) (nearL E (rowOf A (ge O (j + 2)).toNat)) (ge O (j + 2)) else none
theorem contP_none {N : Int} {E : List (Int × Int)} {A : List (List Int)} {O : List Int} {i : Nat} (h : contP N E A O i = none) : ∀ j, i ≤ j → contP N E A O j = none := by
  intro j hj
  induction j with
  | zero => have : i = 0 := by omega
            subst this; exact h
  | succ j ih =>
    by_cases e : i = j + 1
    · subst e; exact h
    · unfold contP; rw [ih (by omega)]; rfl
theorem contP_some {N : Int} {E : List (Int × Int)} {A : List (List Int)} {O C : List Int} {j : Nat} (h : contP N E A O j = some C) : ∀ i, i ≤ j → ∃ D, contP N E A O i = some D := by
  intro i hi
  cases hd : contP N E A O i with
  | some D => exact ⟨D, rfl⟩
  | none => rw [contP_none hd j hi] at h; cases h
def contsL (N : Int) (E : List (Int × Int)) (A : List (List Int)) (O : List Int) (n : Nat) : List (List Int) := (List.range n).map fun j => (contP N E A O j).getD []
theorem contsL_length (N : Int) (E : List (Int × Int)) (A : List (List Int)) (O : List Int) (n : Nat) : (contsL N E A O n).length = n := by simp [contsL]
theorem contsL_succ (N : Int) (E : List (Int × Int)) (A : List (List Int)) (O : List Int) (n : Nat) : contsL N E A O (n + 1) = contsL N E A O n ++ [(contP N E A O n).getD []] := by simp [contsL, List.range_succ]
/-- The first two and the last vertex of an order. -/
noncomputable def headB (N : Int) (E : List (Int × Int)) (A : List (List Int)) (O : List Int) : Bool :=
  decide ((O.length : Int) = N) && decide (ge O 0 = tailF N E A 0) && decide (ge O 1 = tailF N E A 1) && decide (ge O (N - 1).toNat = thirdF N E A)
noncomputable def chkO (N : Int) (E : List (Int × Int)) (A : List (List Int)) (O : List Int) : Bool := trgB N E A && headB N E A O && (contP N E A O (N - 2).toNat).isSome

theorem trg_chk {N : Int} {E : List (Int × Int)} {A : List (List Int)} (h : trgB N E A = true) : chkC N E A = 0 := by
  unfold trgB at h
  rw [Bool.and_eq_true, decide_eq_true_iff] at h
  exact h.1
theorem trg_valid {N : Int} {E : List (Int × Int)} {A : List (List Int)} (h : trgB N E A = true) : vRot N E A := chk_valid (trg_chk h)
theorem chk_all {N : Int} {E : List (Int × Int)} {A : List (List Int)} (h : chkC N E A = 0) : genusF N E A = 0 ∧ connB E A = true ∧ simB E = true ∧ 3 ≤ N := by
  unfold chkC at h
  split at h
  · rename_i h1
    split at h
    · rename_i h2
      split at h
      · rename_i h3
        split at h
        · cases h
        · exact ⟨h1, h2, h3, by omega⟩
      · cases h
    · cases h
  · cases h
theorem trg_three {N : Int} {E : List (Int × Int)} {A : List (List Int)} (h : trgB N E A = true) : 3 ≤ N := (chk_all (trg_chk h)).2.2.2
theorem trg_simple {N : Int} {E : List (Int × Int)} {A : List (List Int)} (h : trgB N E A = true) : simB E = true := (chk_all (trg_chk h)).2.2.1

theorem trg_pos {N : Int} {E : List (Int × Int)} {A : List (List Int)} (h : trgB N E A = true) : 0 < E.length := by
  have hV := trg_valid h
  have h3 := trg_three h
  have hal := hV.al
  have hc := (chk_all (trg_chk h)).2.1
  unfold connB at hc
  have h1 := (one_comp (E := E) (N := A.length) (by omega)).1 (of_decide_eq_true hc) 1 (by omega)
  rcases Nat.eq_zero_or_pos E.length with e | e
  · rw [e] at h1
    have := Cn_zero h1
    omega
  · exact e

theorem take_two {O : List Int} (h : 2 ≤ O.length) : O.take 2 = [ge O 0, ge O 1] := by
  match O, h with
  | a :: b :: t, _ => rfl

theorem wp_append_own2 {P : Program} {ops : Array Oper} {rest : List Oper} {o : Oper} {a : Act} {Q : Exit → Act → World → Prop} {w : World} (hgd : o.guard = Option.none) (s x : Operand) (t : TypeId)
    (ho : o.op = .call { callee := .builtin .append, args := #[s, x], argTypes := #[t, t] }) (e : TypeId) (sz bytes : Nat) (z : Value) (ht : P.underlying t = some (.slice e))
    (hinfo : (P.info? e).map (fun i => (i.zero, i.size, i.bytes)) = some (some z, sz, bytes)) (hzs : z.cells.size = sz) (hpos : 0 < sz)
    (B : Nat) (rs : List Row) (k : Nat) (v0 : Value) (n0 : Nat) (xs0 : List Value) (hO : Owns w B rs) (hk : rs[k]? = some ⟨v0, e, sz, n0, xs0⟩) (hs : a.eval s = v0)
    (ad : Option Addr) (m c : Nat) (hx : a.eval x = .slice ad m c) (news : List Value) (hn : news.length = m * sz) (hnil : ad = Option.none → m = 0 ∧ c = 0)
    (hnews : ∀ b, ad = some b → ∀ j u, news[j]? = some u → w.cell? (b.add j) = some u) (h1 : ∀ u ∈ news, u.oneCell' = true)
    (hlen : n0 + m ≤ maxLen) (hbytes : (n0 + m) * bytes ≤ 140737488355328) (hB : B ≤ w.heap.size)
    (h : ∀ v' w', Owns w' B (rs.set k ⟨v', e, sz, n0 + m, xs0 ++ news⟩) → w.grownBy w' v0.ownBlock → (∀ k, v0.ownBlock = some k → B ≤ k) → (∀ k, v'.ownBlock = some k → v0.ownBlock = some k ∨ w.heap.size ≤ k) → wpList P ops Q rest (a.put o.dst v') w') :
    wpList P ops Q (o :: rest) a w :=
  wpList_plain hgd fun _ hK => owp_append_own2 s x t ho e sz bytes z ht hinfo hzs hpos B rs k v0 n0 xs0 hO hk hs ad m c hx news hn hnil hnews h1 hlen hbytes hB fun v' w' g1 g2 g3 _ g5 => hK _ _ (h v' w' g1 g2 g3 g5)

theorem Ints.gr {X : Nat → Prop} {w w' : World} {p : Option Addr} {xs : List Int} (h : Ints w p xs) (hg : Gr X w w') (hx : ∀ a, p = some a → ¬ X a.block) : Ints w' p xs := by
  obtain ⟨h1, h2, b, o, h3, h4⟩ := h
  refine ⟨h1, h2, b, o, fun hp => ⟨(h3 hp).1, Nat.lt_of_lt_of_le (h3 hp).2 hg.size⟩, fun i hi => ?_⟩
  obtain ⟨e, hb⟩ := h3 (by omega)
  rw [hg.cell hb (hx _ e)]
  exact h4 i hi

/-- Slices of numbers that are stored somewhere, in blocks that are not among those of X. -/
def RowsOf (X : Nat → Prop) (w : World) (vals : List Value) (m : List (List Int)) : Prop := vals.length = m.length ∧ ∀ u, u < m.length → ∃ p c, vals[u]? = some (.slice p (rowOf m u).length c) ∧ Ints w p (rowOf m u) ∧ ∀ a, p = some a → ¬ X a.block ∧ a.block < w.heap.size
theorem RowsOf.gr {X X' : Nat → Prop} {w w' : World} {vals : List Value} {m : List (List Int)} (h : RowsOf X w vals m) (hg : Gr X w w') (hX : ∀ k, k < w.heap.size → X' k → X k) : RowsOf X' w' vals m :=
  ⟨h.1, fun u hu => by obtain ⟨p, c, h1, h2, h3⟩ := h.2 u hu; exact ⟨p, c, h1, h2.gr hg (fun a ha => (h3 a ha).1), fun a ha => ⟨fun hx => (h3 a ha).1 (hX _ (h3 a ha).2 hx), Nat.lt_of_lt_of_le (h3 a ha).2 hg.size⟩⟩⟩
theorem RowsOf.grew {X : Nat → Prop} {w w' : World} {vals : List Value} {m : List (List Int)} (h : RowsOf X w vals m) (hg : Grew w w') : RowsOf X w' vals m := h.gr (Gr.of_grew X hg) (fun _ _ h => h)
theorem rowOf_app_lt {m : List (List Int)} {xs : List Int} {u : Nat} (h : u < m.length) : rowOf (m ++ [xs]) u = rowOf m u := by
  unfold rowOf; rw [List.getD_eq_getElem?_getD, List.getD_eq_getElem?_getD, List.getElem?_append_left h]
theorem rowOf_app_eq {m : List (List Int)} {xs : List Int} : rowOf (m ++ [xs]) m.length = xs := by
  unfold rowOf; rw [List.getD_eq_getElem?_getD, List.getElem?_append_right (Nat.le_refl _)]; simp
theorem RowsOf.snoc {X : Nat → Prop} {w : World} {vals : List Value} {m : List (List Int)} (h : RowsOf X w vals m) {p : Option Addr} {c n : Nat} {xs : List Int} (hI : Ints w p xs) (hn : xs.length = n) (hx : ∀ a, p = some a → ¬ X a.block ∧ a.block < w.heap.size) : RowsOf X w (vals ++ [.slice p n c]) (m ++ [xs]) := by
  subst hn
  refine ⟨by simp [h.1], fun u hu => ?_⟩
  by_cases e : u < m.length
  · obtain ⟨q, d, h1, h2⟩ := h.2 u e
    rw [rowOf_app_lt e]
    exact ⟨q, d, by rw [List.getElem?_append_left (by rw [h.1]; exact e)]; exact h1, h2⟩
  · have : u = m.length := by simp at hu; omega
    subst this
    rw [rowOf_app_eq]
    exact ⟨p, c, by rw [List.getElem?_append_right (by rw [h.1]; exact Nat.le_refl _)]; simp [h.1], hI, hx⟩
theorem RowsOf.nil (X : Nat → Prop) (w : World) : RowsOf X w [] [] := ⟨rfl, fun u hu => by simp at hu⟩
/-- A matrix whose rows' slices lie in memory of the call's own. -/
theorem RowsOf.mat {X : Nat → Prop} {w : World} {B k n : Nat} {rs : List Row} {v : Value} {vals : List Value} {m : List (List Int)} (h : RowsOf X w vals m) (hO : Owns w B rs) (hk : rs[k]? = some ⟨v, 26, 1, n, vals⟩) (hn : m.length = n) :
    ∃ q cap, v = .slice q n cap ∧ n ≤ cap ∧ cap ≤ maxLen ∧ ∀ w', Grew w w' → Mat w' q m := by
  subst hn
  obtain ⟨p, cap, h1, h2, h3, h4, h5, h6⟩ := hO.form hk
  refine ⟨p, cap, h1, h3, h4, fun w' hg => ⟨by simp only [maxLen] at h4; omega, ?_⟩⟩
  by_cases h0 : 0 < m.length
  · obtain ⟨g, cap', e1, _, e2, _, _, _, e3⟩ := hO.some hk h0
    rw [h1] at e1
    cases e1
    have key : ∀ u, ∃ pc : Option Addr × Nat, u < m.length → w'.cell? ⟨g, 0 + u, none⟩ = some (.slice pc.1 (rowOf m u).length pc.2) ∧ Ints w' pc.1 (rowOf m u) := by
      intro u
      by_cases hu : u < m.length
      · obtain ⟨q, d, g1, g2, _⟩ := h.2 u hu
        refine ⟨(q, d), fun _ => ⟨?_, g2.grew hg⟩⟩
        rw [Nat.zero_add]
        exact hg.cellEq (e3 u _ g1)
      · exact ⟨(none, 0), fun h => absurd h hu⟩
    exact ⟨g, 0, fun u => (Classical.choose (key u)).1, fun u => (Classical.choose (key u)).2, fun _ => ⟨rfl, Nat.lt_of_lt_of_le e2 hg.below.size⟩, fun u hu => Classical.choose_spec (key u) hu⟩
  · exact ⟨0, 0, fun _ => none, fun _ => 0, fun h => absurd h h0, fun u hu => by omega⟩

theorem spanF_pos {C I D : List Int} {w : Int} (h : spanF C w I = some D) : 0 < D.length := by
  unfold spanF at h
  split at h
  · cases h
  · cases h; simp; omega
theorem growF_pos {C S L D : List Int} {w : Int} (h : growF C S L w = some D) : 0 < D.length := by
  unfold growF at h
  split at h
  · exact spanF_pos h
  · cases h
theorem spanF_succ {C I D : List Int} {w : Int} (hI : ∀ i ∈ I, 0 ≤ i) (h : spanF C w I = some D) : D.length ≤ C.length + 1 := by
  unfold spanF at h
  split at h
  · cases h
  · rename_i hn
    cases h
    have hne : I ≠ [] := fun e => by subst e; simp at hn
    have a := hI _ (lo_mem hI hne).1
    have b := hI _ (hi_mem hI hne).1
    simp only [List.length_append, List.length_take, List.length_drop, List.length_cons, List.length_nil]
    omega
theorem growF_succ {C S L D : List Int} {w : Int} (h : growF C S L w = some D) : D.length ≤ C.length + 1 := by
  unfold growF at h
  split at h
  · rename_i hall
    refine spanF_succ (fun i hi => ?_) h
    exact (growI_in (fun u hu => of_decide_eq_true (List.all_eq_true.1 hall u hu)) i hi).1
  · cases h
theorem take_succ' {O : List Int} {k : Nat} (h : k < O.length) : O.take (k + 1) = O.take k ++ [ge O k] := by rw [List.take_succ_eq_append_getElem h, ← ge_eq O h]

/-- What contours answers. -/
def ContsPost (N : Int) (E : List (Int × Int)) (A : List (List Int)) (O : List Int) (w : World) (e : Ending) (w' : World) : Prop :=
  Grew w w' ∧ (chkO N E A O = true → ∃ q cap, e = .returned (.tuple #[.slice q (N - 1).toNat cap, .bool true]) ∧ Mat w' q (contsL N E A O (N - 1).toNat)) ∧ (chkO N E A O = false → e = .returned (.tuple #[.slice none 0 0, .bool false]))

set_option maxRecDepth 8000 in
set_option maxHeartbeats 16000000 in
theorem contours_p (N : Int) (pE pA : Option Addr) (nE nA cE cA : Nat) (E : List (Int × Int)) (A : List (List Int)) (pO : Option Addr) (nO cO : Nat) (O : List Int) (w : World) (hR : RotIn w pE pA cE E A) (hL : Lim w)
    (hO : Ints w pO O) (hO1 : O.length ≤ 30) (hO2 : nO ≤ cO) (hO3 : cO ≤ maxLen) (hnE : E.length = nE) (hnA : A.length = nA) (hnO : O.length = nO) :
    Calls Tryd.prog 20 #[.agg #[.int .i64 N, .slice pE nE cE, .slice pA nA cA], .slice pO nO cO] w (ContsPost N E A O w) := by
  subst hnE hnA hnO
  have HR := Lib.hid hR
  have HL := Lib.hid hL
  have HO := Lib.hid hO
  have he1 := hR.e1
  have ha1 := hR.a1
  obtain ⟨t, ht⟩ : ∃ t, trgB N E A = t := ⟨_, rfl⟩
  have Ht := Lib.hid ht
  have Htr : Hid (∀ W1, Grew w W1 → Calls Tryd.prog 19 #[.agg #[.int .i64 N, .slice pE E.length cE, .slice pA A.length cA]] W1 fun e w' => e = .returned (.bool t) ∧ Grew W1 w') := Lib.hid (fun W1 h => by rw [← ht]; exact trg_p _ _ _ _ _ _ _ _ _ _ (HR.out.grew h) (HL.out.grew h) rfl rfl)
  clear hR hL hO ht
  cases t
  case false =>
    have Hf : Hid (chkO N E A O = false) := Lib.hid (by unfold chkO; rw [Ht.out]; rfl)
    go_enter Tryd.func20, Tryd.ntmps20
    go_upto_region 1 with fail
    refine wp_region_over (by kernel_rfl) (by kernel_rfl) ?_; (repeat (go_big_quiet_step ((go_at_call 19; apply over_call; with_reducible exact Htr.out _ (by (repeat (first | exact Grew.refl _ | refine Grew.over ?_ _ | refine Grew.alloc ?_ _ | refine Grew.drew ?_ | refine Grew.drewN ?_ _))))))); refine wpQuiet_nil ?_; rintro _ ⟨x, rfl⟩
    go_wp2
    go_ret2
    exact ⟨by (repeat (first | exact Grew.refl _ | refine Grew.over ?_ _ | refine Grew.alloc ?_ _ | refine Grew.drew ?_ | refine Grew.drewN ?_ _)), (fun h => by rw [Hf.out] at h; cases h), fun _ => rfl⟩
  case true =>
  have hV := trg_valid Ht.out
  have hN : N = A.length := hV.al.symm
  have hN3 := trg_three Ht.out
  subst hN
  have hA3 : 3 ≤ A.length := by omega
  have HV := Lib.hid hV
  have HRt := Lib.hid (HR.out.at HR.out.e5 (vRotB_iff.2 hV))
  clear hV hN3
  by_cases hl : O.length = A.length
  case neg =>
    have Hf : Hid (chkO A.length E A O = false) := Lib.hid (by
      unfold chkO headB
      rw [decide_eq_false (show ¬ (O.length : Int) = (A.length : Int) by omega)]
      simp)
    have hli : ¬ (O.length : Int) = (A.length : Int) := by omega
    have hlb : ((O.length : Int) == (A.length : Int)) = false := beq_eq_false_iff_ne.2 hli
    have hlc : ((O.length : Int) != (A.length : Int)) = true := by rw [bne, hlb]; rfl
    go_enter Tryd.func20, Tryd.ntmps20
    go_upto_region 1 with fail
    refine wp_region_over (by kernel_rfl) (by kernel_rfl) ?_; (repeat (go_big_quiet_step ((go_at_call 19; apply over_call; with_reducible exact Htr.out _ (by (repeat (first | exact Grew.refl _ | refine Grew.over ?_ _ | refine Grew.alloc ?_ _ | refine Grew.drew ?_ | refine Grew.drewN ?_ _))))))); refine wpQuiet_nil ?_; rintro _ ⟨x, rfl⟩
    go_wp2
    go_ret2
    exact ⟨by (repeat (first | exact Grew.refl _ | refine Grew.over ?_ _ | refine Grew.alloc ?_ _ | refine Grew.drew ?_ | refine Grew.drewN ?_ _)), (fun h => by rw [Hf.out] at h; cases h), fun _ => rfl⟩
  case pos =>
  obtain ⟨bO, oO, rfl, lO, cO'⟩ := HO.out.cells (by omega)
  have c0 := cO' w (Grew.refl _) 0 (by omega)
  have c1 := cO' w (Grew.refl _) 1 (by omega)
  have cz := cO' w (Grew.refl _) (A.length - 1) (by omega)
  rw [Nat.add_zero] at c0
  have HcO := Lib.hid cO'
  obtain ⟨a0, ha0⟩ : ∃ a, ge O 0 = a := ⟨_, rfl⟩
  obtain ⟨a1, ha1'⟩ : ∃ a, ge O 1 = a := ⟨_, rfl⟩
  obtain ⟨az, haz⟩ : ∃ a, ge O (A.length - 1) = a := ⟨_, rfl⟩
  rw [ha0] at c0
  rw [ha1'] at c1
  rw [haz] at cz
  obtain ⟨t0, ht0⟩ : ∃ t, tailF A.length E A 0 = t := ⟨_, rfl⟩
  obtain ⟨t1, ht1⟩ : ∃ t, tailF A.length E A 1 = t := ⟨_, rfl⟩
  obtain ⟨t2, ht2⟩ : ∃ t, thirdF A.length E A = t := ⟨_, rfl⟩
  have H0 : Hid (∀ W1, Grew w W1 → Calls Tryd.prog 25 #[.agg #[.int .i64 A.length, .slice pE E.length cE, .slice pA A.length cA], .int .i64 0] W1 fun e w' => e = .returned (.int .i64 t0) ∧ Grew W1 w') := Lib.hid (fun W1 h => by rw [← ht0]; exact tailp_l _ _ _ _ _ _ _ _ _ _ _ (HRt.out.grew h) (HL.out.grew h) rfl rfl)
  have H1 : Hid (∀ W1, Grew w W1 → Calls Tryd.prog 25 #[.agg #[.int .i64 A.length, .slice pE E.length cE, .slice pA A.length cA], .int .i64 1] W1 fun e w' => e = .returned (.int .i64 t1) ∧ Grew W1 w') := Lib.hid (fun W1 h => by rw [← ht1]; exact tailp_l _ _ _ _ _ _ _ _ _ _ _ (HRt.out.grew h) (HL.out.grew h) rfl rfl)
  have H2 : Hid (∀ W1, Grew w W1 → Calls Tryd.prog 26 #[.agg #[.int .i64 A.length, .slice pE E.length cE, .slice pA A.length cA]] W1 fun e w' => e = .returned (.int .i64 t2) ∧ Grew W1 w') := Lib.hid (fun W1 h => by rw [← ht2]; exact third_p _ _ _ _ _ _ _ _ _ _ (HRt.out.grew h) (HL.out.grew h) rfl rfl)
  have Hh : Hid (headB A.length E A O = (decide (a0 = t0) && decide (a1 = t1) && decide (az = t2))) := Lib.hid (by
    unfold headB
    rw [decide_eq_true (show (O.length : Int) = (A.length : Int) by omega), ht0, ht1, ht2, ha0, ha1', show ((A.length : Int) - 1).toNat = A.length - 1 by omega, haz]
    rfl)
  have hn1 : ((A.length : Int) - 1) = ((A.length - 1 : Nat) : Int) := by omega
  have Ha0 := Lib.hid ha0
  have Ha1 := Lib.hid ha1'
  rw [hl]
  rw [hl] at hO1 hO2
  have Hl := Lib.hid hl
  clear cO' ha0 ha1' haz ht0 ht1 ht2 hl
  have hArms : True := trivial
  by_cases e0 : a0 = t0
  case neg =>
    have Hf : Hid (chkO A.length E A O = false) := Lib.hid (by unfold chkO; rw [Hh.out, decide_eq_false e0]; simp)
    have hlb : (a0 == t0) = false := beq_eq_false_iff_ne.2 e0
    have hlc : (a0 != t0) = true := by rw [bne, hlb]; rfl
    go_enter Tryd.func20, Tryd.ntmps20
    go_upto_region 1 with fail
    refine wp_region_over (by kernel_rfl) (by kernel_rfl) ?_; (repeat (go_big_quiet_step ((first | (go_at_call 19; apply over_call; with_reducible exact Htr.out _ (by (repeat (first | exact Grew.refl _ | refine Grew.over ?_ _ | refine Grew.alloc ?_ _ | refine Grew.drew ?_ | refine Grew.drewN ?_ _)))) | (go_at_call 25; apply over_call; with_reducible exact H0.out _ (by (repeat (first | exact Grew.refl _ | refine Grew.over ?_ _ | refine Grew.alloc ?_ _ | refine Grew.drew ?_ | refine Grew.drewN ?_ _)))))))); refine wpQuiet_nil ?_; rintro _ ⟨x, rfl⟩
    go_wp2
    go_ret2
    exact ⟨by (repeat (first | exact Grew.refl _ | refine Grew.over ?_ _ | refine Grew.alloc ?_ _ | refine Grew.drew ?_ | refine Grew.drewN ?_ _)), (fun h => by rw [Hf.out] at h; cases h), fun _ => rfl⟩
  case pos =>
  subst e0
  by_cases e1 : a1 = t1
  case neg =>
    have Hf : Hid (chkO A.length E A O = false) := Lib.hid (by unfold chkO; rw [Hh.out, decide_eq_false e1]; simp)
    have hlb : (a1 == t1) = false := beq_eq_false_iff_ne.2 e1
    have hlc : (a1 != t1) = true := by rw [bne, hlb]; rfl
    go_enter Tryd.func20, Tryd.ntmps20
    go_upto_region 1 with fail
    refine wp_region_over (by kernel_rfl) (by kernel_rfl) ?_; (repeat (go_big_quiet_step ((first | (go_at_call 19; apply over_call; with_reducible exact Htr.out _ (by (repeat (first | exact Grew.refl _ | refine Grew.over ?_ _ | refine Grew.alloc ?_ _ | refine Grew.drew ?_ | refine Grew.drewN ?_ _)))) | (go_at_call 25; apply over_call; with_reducible exact H0.out _ (by (repeat (first | exact Grew.refl _ | refine Grew.over ?_ _ | refine Grew.alloc ?_ _ | refine Grew.drew ?_ | refine Grew.drewN ?_ _)))) | (go_at_call 25; apply over_call; with_reducible exact H1.out _ (by (repeat (first | exact Grew.refl _ | refine Grew.over ?_ _ | refine Grew.alloc ?_ _ | refine Grew.drew ?_ | refine Grew.drewN ?_ _)))))))); refine wpQuiet_nil ?_; rintro _ ⟨x, rfl⟩
    go_wp2
    go_ret2
    exact ⟨by (repeat (first | exact Grew.refl _ | refine Grew.over ?_ _ | refine Grew.alloc ?_ _ | refine Grew.drew ?_ | refine Grew.drewN ?_ _)), (fun h => by rw [Hf.out] at h; cases h), fun _ => rfl⟩
  case pos =>
  subst e1
  by_cases e2 : az = t2
  case neg =>
    have Hf : Hid (chkO A.length E A O = false) := Lib.hid (by unfold chkO; rw [Hh.out, decide_eq_false e2]; simp)
    have hlb : (az == t2) = false := beq_eq_false_iff_ne.2 e2
    have hlc : (az != t2) = true := by rw [bne, hlb]; rfl
    go_enter Tryd.func20, Tryd.ntmps20
    go_upto_region 1 with fail
    refine wp_region_over (by kernel_rfl) (by kernel_rfl) ?_; (repeat (go_big_quiet_step ((first | (go_at_call 19; apply over_call; with_reducible exact Htr.out _ (by (repeat (first | exact Grew.refl _ | refine Grew.over ?_ _ | refine Grew.alloc ?_ _ | refine Grew.drew ?_ | refine Grew.drewN ?_ _)))) | (go_at_call 25; apply over_call; with_reducible exact H0.out _ (by (repeat (first | exact Grew.refl _ | refine Grew.over ?_ _ | refine Grew.alloc ?_ _ | refine Grew.drew ?_ | refine Grew.drewN ?_ _)))) | (go_at_call 25; apply over_call; with_reducible exact H1.out _ (by (repeat (first | exact Grew.refl _ | refine Grew.over ?_ _ | refine Grew.alloc ?_ _ | refine Grew.drew ?_ | refine Grew.drewN ?_ _)))) | (go_at_call 26; apply over_call; with_reducible exact H2.out _ (by (repeat (first | exact Grew.refl _ | refine Grew.over ?_ _ | refine Grew.alloc ?_ _ | refine Grew.drew ?_ | refine Grew.drewN ?_ _)))))))); refine wpQuiet_nil ?_; rintro _ ⟨x, rfl⟩
    go_wp2
    go_ret2
    exact ⟨by (repeat (first | exact Grew.refl _ | refine Grew.over ?_ _ | refine Grew.alloc ?_ _ | refine Grew.drew ?_ | refine Grew.drewN ?_ _)), (fun h => by rw [Hf.out] at h; cases h), fun _ => rfl⟩
  case pos =>
  subst e2
  have hE0 := trg_pos Ht.out
  have ht0 : tailF A.length E A 0 = tailE E 0 := by unfold tailF; rw [if_pos ⟨vRotB_iff.2 HV.out, by omega, by omega⟩]
  have ht1 : tailF A.length E A 1 = tailE E 1 := by unfold tailF; rw [if_pos ⟨vRotB_iff.2 HV.out, by omega, by omega⟩]
  have hb0 := tail_in HV.out (d := 0) (by omega) (by omega)
  have hb1 := tail_in HV.out (d := 1) (by omega) (by omega)
  have hne := ends_ne HV.out hE0
  have Hh2 : Hid (headB A.length E A O = true) := Lib.hid (by rw [Hh.out]; simp)
  have He0 : Hid (a0 = tailE E 0) := Lib.hid (by
    have := Hh2.out
    unfold headB at this
    simp only [Bool.and_eq_true, decide_eq_true_iff] at this
    rw [← ht0, ← this.1.1.2, Ha0.out])
  have He1 : Hid (a1 = tailE E 1) := Lib.hid (by
    have := Hh2.out
    unfold headB at this
    simp only [Bool.and_eq_true, decide_eq_true_iff] at this
    rw [← ht1, ← this.1.2, Ha1.out])
  rw [← He0.out] at hb0
  rw [← He1.out] at hb1
  have hne' : a0 ≠ a1 := by rw [He0.out, He1.out]; exact hne
  clear ht0 ht1 hne Hh hE0
  obtain ⟨a0, rfl⟩ := Int.eq_ofNat_of_zero_le hb0.1
  obtain ⟨a1, rfl⟩ := Int.eq_ofNat_of_zero_le hb1.1
  have hi0 : a0 < A.length := by omega
  have hi1 : a1 < A.length := by omega
  have hn01 : a0 ≠ a1 := by omega
  have hn10 : a1 ≠ a0 := by omega
  clear hb0 hb1 hne'
  go_enter Tryd.func20, Tryd.ntmps20
  go_upto_region 1 with fail
  refine wp_region_over (by kernel_rfl) (by kernel_rfl) ?_; (repeat (go_big_quiet_step ((first | (go_at_call 19; apply over_call; with_reducible exact Htr.out _ (by (repeat (first | exact Grew.refl _ | refine Grew.over ?_ _ | refine Grew.alloc ?_ _ | refine Grew.drew ?_ | refine Grew.drewN ?_ _)))) | (go_at_call 25; apply over_call; with_reducible exact H0.out _ (by (repeat (first | exact Grew.refl _ | refine Grew.over ?_ _ | refine Grew.alloc ?_ _ | refine Grew.drew ?_ | refine Grew.drewN ?_ _)))) | (go_at_call 25; apply over_call; with_reducible exact H1.out _ (by (repeat (first | exact Grew.refl _ | refine Grew.over ?_ _ | refine Grew.alloc ?_ _ | refine Grew.drew ?_ | refine Grew.drewN ?_ _)))) | (go_at_call 26; apply over_call; with_reducible exact H2.out _ (by (repeat (first | exact Grew.refl _ | refine Grew.over ?_ _ | refine Grew.alloc ?_ _ | refine Grew.drew ?_ | refine Grew.drewN ?_ _)))))))); refine wpQuiet_nil ?_; intro wB hW; replace hW : Grew _ wB := hW
  have HwB : Hid (Grew w wB) := Lib.hid (((Grew.refl w).alloc _).trans hW)
  have h0 : wB.cell? ⟨w.heap.size, 0, none⟩ = some (.int .i64 A.length) := hW.cellEq (by first | (go_simp; done) | (simp [go_sem, ↓IntWalk.iteOmega, *]; done))
  have h1 : wB.cell? ⟨w.heap.size, 1, none⟩ = some (.slice pE E.length cE) := hW.cellEq (by first | (go_simp; done) | (simp [go_sem, ↓IntWalk.iteOmega, *]; done))
  have h2 : wB.cell? ⟨w.heap.size, 2, none⟩ = some (.slice pA A.length cA) := hW.cellEq (by first | (go_simp; done) | (simp [go_sem, ↓IntWalk.iteOmega, *]; done))
  have hsB := hW.below.size
  simp at hsB
  have Hc0 := Lib.hid h0
  have Hc1 := Lib.hid h1
  have Hc2 := Lib.hid h2
  obtain ⟨B, hB⟩ : ∃ B, wB.heap.size = B := ⟨_, rfl⟩
  have HBe := Lib.hid hB
  have hBi : w.heap.size < B := by omega
  clear hW hsB
  go_wp2_with (refine wp_make_owns rfl _ _ 58 rfl 4 1 (.bool false) Tryd.underlying58 Tryd.infoBool rfl .i64 .i64 _ _ A.length rfl rfl rfl rfl (by omega) (by simp only [maxLen]; omega) B [] (Owns.nil _ _) (by omega) ?_; intro w4 hO hg4 hs4; have HO4 := Lib.hid hO; have Hg4 := Lib.hid hg4; have hsz4 := hg4.below.size; clear hO hg4 h0 h1 h2)
  have hs4' : B < w4.heap.size := by omega
  rw [HBe.out] at HO4
  obtain ⟨g4, c4, e4, _, _, _, _, f4, m4⟩ := HO4.out.some (k := 0) rfl (by omega)
  cases e4
  have x1 := m4 a0 (.bool false) (by simp [hi0])
  have x2 := m4 a1 (.bool false) (by simp [hi1])
  have f1 := f4 a0
  have f2 := f4 a1
  have y0 := (HwB.out.trans Hg4.out).cellEq c0
  have y1 := (HwB.out.trans Hg4.out).cellEq c1
  have n1 : bO ≠ B := by omega
  have n2 : B ≠ bO := by omega
  clear m4 f4 c0 c1
  refine wp_region_lex (Two 9 11 (fun b c => if c then (w4.setCell ⟨B, a0, none⟩ (.bool true)).setCell ⟨B, a1, none⟩ (.bool true) else if b then w4.setCell ⟨B, a0, none⟩ (.bool true) else w4)) (by kernel_rfl) (by kernel_rfl) ?_ ?_
  · (repeat (first | exact Grew.refl _ | refine Grew.over ?_ _ | refine Grew.alloc ?_ _ | refine Grew.drew ?_ | refine Grew.drewN ?_ _))
  repeat (first
    | (refine lex_skip rfl ?_ ?_
       · exact Two.keep (by decide) (by decide)
       (try simp only [Act.put, List.setIfInBounds_toArray, List.set_cons_zero, List.set_cons_succ]))
    | (refine lex_pure (v := ?_) rfl ?_ (fun d w hd hr hC => ?_) ?_
       rotate_left
       · exact Two.keep (by decide) (by decide)
       · (first
           | (have hs1 := closed_undone (s := 9) hr.2 rfl (by decide +kernel) hd; have hs2 := closed_undone (s := 11) hr.2 rfl (by decide +kernel) hd; unfold Two at hC; rw [hs1, hs2] at hC; obtain ⟨x, rfl⟩ := hC; simp [go_sem, ↓IntWalk.iteOmega, x1, x2, f1, f2, y0, y1, n1, n2, hi0, hi1, hn01, hn10, Nat.not_le.2 hs4']; try rfl)
           | (have hs2 := closed_undone (s := 11) hr.2 rfl (by decide +kernel) hd; unfold Two at hC; rw [hs2] at hC; cases hs1 : d 9 <;> rw [hs1] at hC <;> obtain ⟨x, rfl⟩ := hC <;> simp [go_sem, ↓IntWalk.iteOmega, x1, x2, f1, f2, y0, y1, n1, n2, hi0, hi1, hn01, hn10, Nat.not_le.2 hs4'] <;> (try rfl))
           | (obtain ⟨x, rfl⟩ := hC; simp [go_sem, ↓IntWalk.iteOmega, x1, x2, f1, f2, y0, y1, n1, n2, hi0, hi1, hn01, hn10, Nat.not_le.2 hs4']; try rfl))
       (try simp only [Act.put, List.setIfInBounds_toArray, List.set_cons_zero, List.set_cons_succ]))
    | (refine lex_store rfl (fun d w hd hr hC => ?_) ?_
       · (first
           | (have hs2 := closed_undone (s := 11) hr.2 rfl (by decide +kernel) hd; unfold Two at hC ⊢; rw [mark_same, mark_other _ (by decide), hs2]; rw [hd, hs2] at hC; obtain ⟨x, rfl⟩ := hC; refine ⟨?_, ?_, ?_⟩; rotate_left; (simp [go_sem, ↓IntWalk.iteOmega, x1, x2, f1, f2, y0, y1, n1, n2, hi0, hi1, hn01, hn10, Nat.not_le.2 hs4']; try rfl); (simp; exact ⟨_, rfl⟩))
           | (have hs1 := ready_done (k := 9) hr.1 (by decide +kernel); unfold Two at hC ⊢; rw [mark_same, mark_other _ (by decide), hs1]; rw [hd, hs1] at hC; obtain ⟨x, rfl⟩ := hC; refine ⟨?_, ?_, ?_⟩; rotate_left; (simp [go_sem, ↓IntWalk.iteOmega, x1, x2, f1, f2, y0, y1, n1, n2, hi0, hi1, hn01, hn10, Nat.not_le.2 hs4']; try rfl); (simp; exact ⟨_, rfl⟩)))
       (try simp only [Act.put, List.setIfInBounds_toArray, List.set_cons_zero, List.set_cons_succ])))
  refine lex_nil ?_
  intro dLx w hd hC
  unfold Two at hC; rw [hd 9 (by decide), hd 11 (by decide)] at hC; obtain ⟨x, rfl⟩ := hC; simp only [if_true]
  have HO5 : Hid (∀ W1, Grew ((w4.setCell ⟨B, a0, none⟩ (.bool true)).setCell ⟨B, a1, none⟩ (.bool true)) W1 → Owns W1 B [⟨.slice (some ⟨B, 0, none⟩) A.length A.length, 4, 1, A.length, bls A.length (O.take 2)⟩]) := Lib.hid (fun W1 hg => by
    have h := (HO4.out.set (k := 0) rfl a0 (.bool true)).set (k := 0) rfl a1 (.bool true)
    have e0 := bls_set [] hi0
    rw [bls_nil] at e0
    have e1 := bls_set ([] ++ [(a0 : Int)]) hi1
    replace h : Owns ((w4.setCell ⟨B, a0, none⟩ (.bool true)).setCell ⟨B, a1, none⟩ (.bool true)) B [⟨.slice (some ⟨B, 0, none⟩) A.length A.length, 4, 1, A.length, ((List.replicate A.length (.bool false)).set a0 (.bool true)).set a1 (.bool true)⟩] := h
    rw [e0, e1] at h
    have e2 : ([] ++ [(a0 : Int)]) ++ [(a1 : Int)] = O.take 2 := by rw [take_two (by have := Hl.out; omega), Ha0.out, Ha1.out]; rfl
    rw [e2] at h
    exact h.grew hg)
  have Hg5 : Hid (∀ W1, Grew ((w4.setCell ⟨B, a0, none⟩ (.bool true)).setCell ⟨B, a1, none⟩ (.bool true)) W1 → Grew wB W1) := Lib.hid (fun W1 hg => ((Hg4.out.setCell (show wB.heap.size ≤ (⟨B, a0, none⟩ : Addr).block by rw [HBe.out]; exact Nat.le_refl _) _).setCell (show wB.heap.size ≤ (⟨B, a1, none⟩ : Addr).block by rw [HBe.out]; exact Nat.le_refl _) _).trans hg)
  obtain ⟨w5, hw5⟩ : ∃ w5, over ((w4.setCell ⟨B, a0, none⟩ (.bool true)).setCell ⟨B, a1, none⟩ (.bool true)) x = w5 := ⟨_, rfl⟩
  replace HO5 := Lib.hid (HO5.out w5 ⟨x, hw5.symm⟩)
  replace Hg5 := Lib.hid (Hg5.out w5 ⟨x, hw5.symm⟩)
  rw [hw5]
  clear hw5 x x1 x2 f1 f2 y0 y1 HO4 Hg4
  have HT := Lib.hid (HO.out.cut (k := 2) (by have := Hl.out; omega))
  have hTl : (O.take 2).length = 2 := by have := Hl.out; rw [List.length_take]; omega
  have HTl := Lib.hid hTl
  have hs5 := Hg5.out.below.size
  have hs5' : B < w5.heap.size := by obtain ⟨_, _, e, _, h, _⟩ := HO5.out.some (k := 0) rfl (by omega); cases e; exact h
  clear hTl
  go_wp2_with (go_at_call 21; apply Calls.mono; (with_reducible exact clone_i _ _ _ _ _ (HT.out.grew (HwB.out.trans (Hg5.out.trans (by (repeat (first | exact Grew.refl _ | refine Grew.over ?_ _ | refine Grew.alloc ?_ _ | refine Grew.drew ?_ | refine Grew.drewN ?_ _)))))) (by rw [HTl.out]; omega) HTl.out); rintro e w6 ⟨hg6, p6, c6, rfl, hO6⟩; have HO6 := Lib.hid hO6; have Hg6 := Lib.hid (Grew.trans Hg5.out (Grew.trans (by (repeat (first | exact Grew.refl _ | refine Grew.over ?_ _ | refine Grew.alloc ?_ _ | refine Grew.drew ?_ | refine Grew.drewN ?_ _))) hg6)); have Hg56 := Lib.hid (Grew.trans (a := w5) (by (repeat (first | exact Grew.refl _ | refine Grew.over ?_ _ | refine Grew.alloc ?_ _ | refine Grew.drew ?_ | refine Grew.drewN ?_ _))) hg6); have hs6 := hg6.below.size; clear hO6 hg6)
  have hbdO : ∀ y ∈ O.take 2, -9223372036854775808 ≤ y ∧ y ≤ 9223372036854775807 := fun y hy => HO.out.2.1 y (List.mem_of_mem_take hy)
  obtain ⟨p6', c6', e6, e7, e8, e9, e11, e10⟩ := own_ints HO6.out (k := 0) rfl hbdO
  cases e6
  have H10 := Lib.hid e10
  have H11 := Lib.hid e11
  have HB5 : w5.heap.size ≤ w6.heap.size := hs6
  have H7 := Lib.hid e7
  clear e10 hbdO e7 e11
  go_loopw [7, 8, 71] (fun vC vO iv wr => ∃ j : Nat, j + 2 ≤ A.length ∧ iv = .int .i64 j ∧ Grew wB wr ∧ w5.heap.size ≤ wr.heap.size ∧ ∃ C qC cC vals, contP A.length E A O j = some C ∧ vC = .slice qC C.length cC ∧ Ints wr qC C ∧ C.length ≤ j + 2 ∧ C.length ≤ cC ∧ cC ≤ maxLen ∧ RowsOf (fun k => k = B ∨ vO.ownBlock = some k) wr vals (contsL A.length E A O (j + 1)) ∧
    Owns wr B [⟨.slice (some ⟨B, 0, none⟩) A.length A.length, 4, 1, A.length, bls A.length (O.take (j + 2))⟩, ⟨vO, 26, 1, j + 1, vals⟩]) (fun _ _ iv _ => A.length - (intOf iv).toNat)
  case atStart =>
    refine ⟨0, by omega, rfl, Hg6.out.trans (by (repeat (first | exact Grew.refl _ | refine Grew.over ?_ _ | refine Grew.alloc ?_ _ | refine Grew.drew ?_ | refine Grew.drewN ?_ _))), by simp; omega, O.take 2, p6, c6, [.slice p6 2 c6], rfl, by rw [H7.out], H10.out _ (by (repeat (first | exact Grew.refl _ | refine Grew.over ?_ _ | refine Grew.alloc ?_ _ | refine Grew.drew ?_ | refine Grew.drewN ?_ _))), by rw [H7.out]; omega, by rw [H7.out]; exact e8, e9, ?_, ?_⟩
    · rw [contsL_succ]
      refine (RowsOf.nil _ _).snoc (H10.out _ (by (repeat (first | exact Grew.refl _ | refine Grew.over ?_ _ | refine Grew.alloc ?_ _ | refine Grew.drew ?_ | refine Grew.drewN ?_ _)))) H7.out (fun a ha => ?_)
      have h1 := H11.out a ha
      have h2 := HBe.out
      refine ⟨?_, by simp; omega⟩
      rintro (h3 | h3)
      · omega
      · simp [Value.ownBlock] at h3; omega
    · exact ((HO5.out.grew Hg56.out).made (by have := HBe.out; omega) #[.slice p6 2 c6] 26 1 1 _ rfl (by decide) (by simp)).perm (List.Perm.swap _ _ _)
  case round =>
    clear HO6 Hg6 Hg56 hs6 H10 H11 HO5 Hg5 HB5 H7 HT HTl e8 e9
    obtain ⟨j, hj, rfl, hgB, hsr, C, qC, cC, vals, hC, rfl, hI, hc0, hc1, hc2, hV, hO⟩ := hrel
    have hszr := hgB.below.size
    rw [HBe.out] at hszr
    have Hgw : Hid (Grew w wr) := Lib.hid (HwB.out.trans hgB)
    have q0 := hgB.cellEq Hc0.out
    have q1 := hgB.cellEq Hc1.out
    have q2 := hgB.cellEq Hc2.out
    have HgB := Lib.hid hgB
    have HC := Lib.hid hC
    have HI := Lib.hid hI
    have HVr := Lib.hid hV
    have HO := Lib.hid hO
    obtain ⟨pV, cV, rfl⟩ := own_form hO (k := 1) rfl
    have hVl : vals.length = j + 1 := by rw [hV.1, contsL_length]
    clear hgB hC hI hV hO
    by_cases hlt : j + 2 < A.length
    · have e1 := HcO.out wr Hgw.out (j + 2) (by have := Hl.out; omega)
      rw [show oO + (j + 2) = oO + 2 + j by omega] at e1
      obtain ⟨x, hx⟩ : ∃ x, ge O (j + 2) = x := ⟨_, rfl⟩
      rw [hx] at e1
      have Hx := Lib.hid hx
      have hji : (j : Int) < (A.length : Int) - 2 := by omega
      have hj2 : j < A.length - 2 := by omega
      have Hok : Hid (okNew A.length O j = (decide (0 ≤ x) && decide (x < (A.length : Int)) && !decide (x ∈ O.take (j + 2)))) := Lib.hid (by unfold okNew; rw [hx])
      have Hbad : Hid (okNew A.length O j = false → chkO A.length E A O = false) := Lib.hid (fun h => by
        have h1 : contP A.length E A O (j + 1) = none := by unfold contP; rw [HC.out]; simp only [Option.bind_some]; rw [if_neg (by rw [h]; simp)]
        unfold chkO
        rw [contP_none h1 _ (by omega)]
        simp)
      clear hx
      by_cases hx0 : x < 0
      · have Hf : Hid (chkO A.length E A O = false) := Lib.hid (Hbad.out (by rw [Hok.out, decide_eq_false (by omega)]; rfl))
        go_wp2
        go_ret2
        exact ⟨Hgw.out.trans (by (repeat (first | exact Grew.refl _ | refine Grew.over ?_ _ | refine Grew.alloc ?_ _ | refine Grew.drew ?_ | refine Grew.drewN ?_ _))), (fun h => by rw [Hf.out] at h; cases h), fun _ => rfl⟩
      obtain ⟨x, rfl⟩ := Int.eq_ofNat_of_zero_le (by omega : 0 ≤ x)
      by_cases hxl : A.length ≤ x
      · have Hf : Hid (chkO A.length E A O = false) := Lib.hid (Hbad.out (by rw [Hok.out, decide_eq_false (show ¬ (x : Int) < (A.length : Int) by omega)]; simp))
        have hxi : (A.length : Int) ≤ (x : Int) := by omega
        go_wp2
        go_ret2
        exact ⟨Hgw.out.trans (by (repeat (first | exact Grew.refl _ | refine Grew.over ?_ _ | refine Grew.alloc ?_ _ | refine Grew.drew ?_ | refine Grew.drewN ?_ _))), (fun h => by rw [Hf.out] at h; cases h), fun _ => rfl⟩
      have hxl' : x < A.length := by omega
      have hxi : ¬ (A.length : Int) ≤ (x : Int) := by omega
      have hxi' : (x : Int) < (A.length : Int) := by omega
      obtain ⟨gS, cS, eS, _, kS, _, _, nS, mS⟩ := HO.out.some (k := 0) rfl (by omega)
      cases eS
      have x1 := mS x _ (bls_get _ hxl')
      have x2 := nS x
      have HmS := Lib.hid (fun i (hi : i < A.length) => mS i _ (bls_get (O.take (j + 2)) hi))
      clear nS mS
      by_cases hin : (x : Int) ∈ O.take (j + 2)
      · rw [decide_eq_true hin] at x1
        have Hf : Hid (chkO A.length E A O = false) := Lib.hid (Hbad.out (by rw [Hok.out, decide_eq_true hin]; simp))
        clear hin
        go_wp2
        go_ret2
        exact ⟨Hgw.out.trans (by (repeat (first | exact Grew.refl _ | refine Grew.over ?_ _ | refine Grew.alloc ?_ _ | refine Grew.drew ?_ | refine Grew.drewN ?_ _))), (fun h => by rw [Hf.out] at h; cases h), fun _ => rfl⟩
      rw [decide_eq_false hin] at x1
      replace Hok : Hid (okNew A.length O j = true) := Lib.hid (by rw [Hok.out, decide_eq_false hin, decide_eq_true (show (x : Int) < (A.length : Int) by omega), decide_eq_true (show (0 : Int) ≤ (x : Int) by omega)]; rfl)
      clear hin Hbad
      obtain ⟨R, hR⟩ : ∃ R, growF C (O.take (j + 2)) (nearL E (rowOf A x)) x = R := ⟨_, rfl⟩
      have Hnx : Hid (contP A.length E A O (j + 1) = R) := Lib.hid (by unfold contP; rw [HC.out]; simp only [Option.bind_some]; rw [if_pos Hok.out, Hx.out]; exact hR)
      have Hst : Hid (∀ W1, Grew wr W1 → Calls Tryd.prog 34 #[.agg #[.int .i64 A.length, .slice pE E.length cE, .slice pA A.length cA], .slice qC C.length cC, .slice (some ⟨B, 0, none⟩) A.length A.length, .int .i64 x] W1 (StepPost R W1)) := Lib.hid (fun W1 h => by
        rw [← hR]
        exact grown_p A.length pE pA E.length A.length cE cA E A qC C.length cC C (O.take (j + 2)) B A.length x W1 (HRt.out.grew (Hgw.out.trans h)) (HL.out.grew (Hgw.out.trans h)) HV.out hxl' (HI.out.grew h) rfl (by omega) hc1 hc2 (fun i hi => h.cellEq (HmS.out i hi)) rfl rfl)
      have hR' := Lib.hid hR
      clear hR
      cases R with
      | none =>
        have Hf : Hid (chkO A.length E A O = false) := Lib.hid (by unfold chkO; rw [contP_none Hnx.out _ (by omega)]; simp)
        go_wp2_with (go_at_call 34; apply Calls.mono; (with_reducible exact Hst.out _ (by (repeat (first | exact Grew.refl _ | refine Grew.over ?_ _ | refine Grew.alloc ?_ _ | refine Grew.drew ?_ | refine Grew.drewN ?_ _)))); rintro e w4 ⟨hg4, rfl⟩; obtain ⟨x4, rfl⟩ := hg4)
        go_ret2
        exact ⟨Hgw.out.trans (by (repeat (first | exact Grew.refl _ | refine Grew.over ?_ _ | refine Grew.alloc ?_ _ | refine Grew.drew ?_ | refine Grew.drewN ?_ _))), (fun h => by rw [Hf.out] at h; cases h), fun _ => rfl⟩
      | some D =>
        go_wp2_with (first | (at_builtin; refine wp_append_own2 rfl _ _ 23 rfl 26 1 24 (.slice none 0 0) Tryd.underlying23 Tryd.infoInts rfl (by decide) (B) _ 1 _ _ _ (((HO.out.grew Hg4r.out).set (k := 0) rfl x (.bool true)).grew (by (repeat (first | exact Grew.refl _ | refine Grew.over ?_ _ | refine Grew.alloc ?_ _ | refine Grew.drew ?_ | refine Grew.drewN ?_ _)))) rfl rfl _ 1 1 rfl [.slice q4 D.length cap4] rfl (fun h => by cases h) (one_news _ (by first | (go_simp; done) | (simp [go_sem, ↓IntWalk.iteOmega, *]; done))) (by simp [Value.oneCell']) (by simp only [maxLen]; omega) (by omega) (by first | rfl | omega | (simp <;> omega)) ?_; intro v1 w1 hO1 hg1 hb1 hv1; have Hg5 := Lib.hid (Grew.grownBy (w0 := wB) ((Hg4.out.setCell (show wB.heap.size ≤ (⟨B, x, none⟩ : Addr).block by rw [HBe.out]; exact Nat.le_refl _) (.bool true)).trans (by (repeat (first | exact Grew.refl _ | refine Grew.over ?_ _ | refine Grew.alloc ?_ _ | refine Grew.drew ?_ | refine Grew.drewN ?_ _)))) hg1 (fun g h => by have := hb1 g h; have := HBe.out; omega)); have HO5 := Lib.hid hO1; have hs5r := hg1.size; simp at hs5r; have Hgr := Lib.hid (Gr.comp2 (X := fun k => k = B ∨ (Value.slice pV (j + 1) cV).ownBlock = some k) ((Gr.setCell (Gr.refl _ w4) (b := B) (i := x) (Or.inl rfl) (.bool true)).over (by (repeat (first | exact Grew.refl _ | refine Grew.over ?_ _ | refine Grew.alloc ?_ _ | refine Grew.drew ?_ | refine Grew.drewN ?_ _)))) (fun k hk => Or.inl (Or.inr hk)) ((Gr.of_grownBy hg1).mono fun k _ e => e.symm)); have Hv1 := Lib.hid hv1; clear hO1 hg1 hb1 hv1) | (go_at_call 34; apply Calls.mono; (with_reducible exact Hst.out _ (by (repeat (first | exact Grew.refl _ | refine Grew.over ?_ _ | refine Grew.alloc ?_ _ | refine Grew.drew ?_ | refine Grew.drewN ?_ _)))); rintro e w4 ⟨hg4, q4, cap4, rfl, hI4, hd1, hd2, hd3⟩; have Hd3 := Lib.hid hd3; clear hd3; have Hg4r := Lib.hid (Grew.trans (a := wr) (by (repeat (first | exact Grew.refl _ | refine Grew.over ?_ _ | refine Grew.alloc ?_ _ | refine Grew.drew ?_ | refine Grew.drewN ?_ _))) hg4); have Hg4 := Lib.hid (HgB.out.trans Hg4r.out); have HI4 := Lib.hid hI4; have z1 := Hg4r.out.cellEq x1; have z2 := Hg4r.out.frozenEq kS x2; have hs4r := hg4.below.size; clear hg4 hI4))
        go_roundw
        case rel =>
          have hq4 : ∀ a, q4 = some a → ¬ (a.block = B ∨ (Value.slice pV (j + 1) cV).ownBlock = some a.block) ∧ a.block < w4.heap.size := fun a ha => by
            have h1 := Hd3.out a ha
            have hD0 : 0 < D.length := growF_pos hR'.out
            obtain ⟨b, o, e, h2, _⟩ := HI4.out.cells hD0
            rw [ha] at e
            cases e
            refine ⟨?_, h2⟩
            rintro (h3 | h3)
            · dsimp only at h1 h3; omega
            · have := (HO.out.1 1 _ rfl).lt _ h3
              dsimp only at h1 this; omega
          have hrw : RowsOf (fun k => k = B ∨ (Value.slice pV (j + 1) cV).ownBlock = some k) w4 (vals ++ [.slice q4 D.length cap4]) (contsL A.length E A O (j + 1 + 1)) := by
            rw [contsL_succ, Hnx.out]
            exact (HVr.out.grew Hg4r.out).snoc HI4.out rfl hq4
          have hgr2 : ∀ w', Grew w1 w' → Gr (fun k => k = B ∨ (Value.slice pV (j + 1) cV).ownBlock = some k) w4 w' := fun w' h => Hgr.out.over h
          refine ⟨j + 1, by omega, by go_num, Hg5.out.trans (by (repeat (first | exact Grew.refl _ | refine Grew.over ?_ _ | refine Grew.alloc ?_ _ | refine Grew.drew ?_ | refine Grew.drewN ?_ _))), (by first | omega | (simp; omega)), D, q4, cap4, vals ++ [.slice q4 D.length cap4], Hnx.out, rfl, ?_, ?_, hd1, hd2, ?_, ?_⟩
          · exact HI4.out.gr (hgr2 _ (by (repeat (first | exact Grew.refl _ | refine Grew.over ?_ _ | refine Grew.alloc ?_ _ | refine Grew.drew ?_ | refine Grew.drewN ?_ _)))) (fun a ha => (hq4 a ha).1)
          · have := growF_succ hR'.out; omega
          · refine hrw.gr (hgr2 _ (by (repeat (first | exact Grew.refl _ | refine Grew.over ?_ _ | refine Grew.alloc ?_ _ | refine Grew.drew ?_ | refine Grew.drewN ?_ _)))) (fun k hk hx => ?_)
            rcases hx with hx | hx
            · exact Or.inl hx
            · rcases Hv1.out k hx with h3 | h3
              · exact Or.inr h3
              · simp at h3; omega
          · have h := HO5.out
            rw [bls_set _ hxl'] at h
            rw [take_succ' (by have := Hl.out; omega), Hx.out]
            exact h.grew (by (repeat (first | exact Grew.refl _ | refine Grew.over ?_ _ | refine Grew.alloc ?_ _ | refine Grew.drew ?_ | refine Grew.drewN ?_ _)))
        case measure => simp [intOf]; omega
    · have hje : j + 2 = A.length := by omega
      have Hf : Hid (chkO A.length E A O = true) := Lib.hid (by
        unfold chkO
        rw [Ht.out, Hh2.out, show ((A.length : Int) - 2).toNat = j by omega, HC.out]
        rfl)
      obtain ⟨qM, cM, eM, _, _, hM⟩ := HVr.out.mat HO.out (k := 1) rfl (contsL_length _ _ _ _ _)
      cases eM
      have HM := Lib.hid hM
      have Hje : Hid (((A.length : Int) - 1).toNat = j + 1) := Lib.hid (by omega)
      have hj2 : A.length - 2 = j := by omega
      have hji : (A.length : Int) - 2 = (j : Int) := by omega
      have hj3 : ¬ j < A.length - 2 := by omega
      clear hM hje
      go_wp2
      go_ret2
      refine ⟨Hgw.out.trans (by (repeat (first | exact Grew.refl _ | refine Grew.over ?_ _ | refine Grew.alloc ?_ _ | refine Grew.drew ?_ | refine Grew.drewN ?_ _))), (fun _ => ⟨pV, cV, ?_, ?_⟩), fun h => by rw [Hf.out] at h; cases h⟩
      · rw [Hje.out]; rfl
      · rw [Hje.out]; exact HM.out _ (by (repeat (first | exact Grew.refl _ | refine Grew.over ?_ _ | refine Grew.alloc ?_ _ | refine Grew.drew ?_ | refine Grew.drewN ?_ _)))

end Go.Proofs.YtdacnkjmimhcaaaDoor
