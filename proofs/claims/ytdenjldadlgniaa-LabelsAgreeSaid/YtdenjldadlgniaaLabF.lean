/- Lists of boxes of the call's own; Check of the program. -/
import Derived.Test.YtdenjldadlgniaaLabE
set_option linter.unusedSimpArgs false
set_option linter.unusedVariables false
namespace Go.Proofs.Ytdenjldadlgniaa
open Go.RowKit
attribute [local go_sem ↓] Go.wp_at_zero Go.wp_at_succ

/-- The cells of a list of boxes. -/
def bxVs (E : List Bx) : List Value := E.flatMap fun a => [.int .i64 a.x0, .int .i64 a.y0, .int .i64 a.x1, .int .i64 a.y1]
theorem bxVs_app (a b : List Bx) : bxVs (a ++ b) = bxVs a ++ bxVs b := by simp [bxVs]
theorem bxVs_len (E : List Bx) : (bxVs E).length = E.length * 4 := by
  induction E with
  | nil => rfl
  | cons a E ih => simp only [bxVs, List.flatMap_cons, List.length_append] at ih ⊢; simp [ih]; omega
theorem bxVs_get (E : List Bx) : ∀ i, i < E.length → (bxVs E)[i * 4]? = some (.int .i64 (bK E i).x0) ∧ (bxVs E)[i * 4 + 1]? = some (.int .i64 (bK E i).y0) ∧ (bxVs E)[i * 4 + 2]? = some (.int .i64 (bK E i).x1) ∧ (bxVs E)[i * 4 + 3]? = some (.int .i64 (bK E i).y1) := by
  induction E with
  | nil => intro i hi; simp at hi
  | cons a E ih =>
    intro i hi
    cases i with
    | zero => exact ⟨rfl, rfl, rfl, rfl⟩
    | succ i =>
      have := ih i (by simpa using hi)
      have e1 : (i + 1) * 4 = i * 4 + 1 + 1 + 1 + 1 := by omega
      rw [e1]
      exact this
/-- A row of boxes, read. -/
theorem bxs_of_owns {w : World} {B : Nat} {rs : List Row} {k : Nat} {v : Value} {e : TypeId} {n : Nat} {E : List Bx} (h : Owns w B rs) (hk : rs[k]? = some ⟨v, e, 4, n, bxVs E⟩) : ∃ q cap, v = .slice q n cap ∧ E.length = n ∧ Bxs w q E := by
  obtain ⟨h1, h2⟩ := h.get hk
  rw [bxVs_len] at h1
  have hn : E.length = n := by omega
  rcases h2 with ⟨rfl, rfl⟩ | ⟨g, cap, rfl, hB, hg, hle, hmx, _, hc⟩
  · exact ⟨none, 0, rfl, hn, by omega, 0, 0, fun h => by omega, fun i hi => by omega⟩
  · refine ⟨some ⟨g, 0, none⟩, cap, rfl, hn, by simp only [maxLen] at hmx; omega, g, 0, fun _ => ⟨rfl, hg⟩, fun i hi => ?_⟩
    obtain ⟨g1, g2, g3, g4⟩ := bxVs_get E i hi
    rw [Nat.zero_add]
    exact ⟨hc _ _ g1, hc _ _ g2, hc _ _ g3, hc _ _ g4⟩
theorem four_news {w : World} {g : Nat} {x y z u : Value} (h0 : w.cell? ⟨g, 0, none⟩ = some x) (h1 : w.cell? ⟨g, 1, none⟩ = some y) (h2 : w.cell? ⟨g, 2, none⟩ = some z) (h3 : w.cell? ⟨g, 3, none⟩ = some u) :
    ∀ b : Addr, some (⟨g, 0, none⟩ : Addr) = some b → ∀ j t, [x, y, z, u][j]? = some t → w.cell? (b.add j) = some t := by
  intro b hb j t hu
  cases hb
  rw [Addr.add_lit, Nat.zero_add]
  match j, hu with
  | 0, hu => simp at hu; subst hu; exact h0
  | 1, hu => simp at hu; subst hu; exact h1
  | 2, hu => simp at hu; subst hu; exact h2
  | 3, hu => simp at hu; subst hu; exact h3
theorem Try.infoBox : (Try.prog.info? 39).map (fun i => (i.zero, i.size, i.bytes)) = some (some (.agg #[.int .i64 0, .int .i64 0, .int .i64 0, .int .i64 0]), 4, 32) := by kernel_rfl
/-- A list of boxes of the call's own. -/
abbrev bxRow (v : Value) (P : List Bx) : Row := ⟨v, 39, 4, P.length, bxVs P⟩
theorem bxRow_snoc (v : Value) (P : List Bx) (a b c d : Int) : (⟨v, 39, 4, P.length + 1, bxVs P ++ [.int .i64 a, .int .i64 b, .int .i64 c, .int .i64 d]⟩ : Row) = bxRow v (P ++ [⟨a, b, c, d⟩]) := by
  simp [bxRow, bxVs_app, bxVs]
/-- A box appended. -/
theorem wp_append_bx {ops : Array Oper} {rest : List Oper} {o : Oper} {a : Act} {Q : Exit → Act → World → Prop} {w : World} (hgd : o.guard = none) (s x : Operand)
    (ho : o.op = .call { callee := .builtin .append, args := #[s, x], argTypes := #[35, 35] }) (wb : World) (v0 : Value) (P : List Bx)
    (hO : Owns w wb.heap.size [bxRow v0 P]) (hg : Grew wb w) (hs : a.eval s = v0) (g : Nat) (hx : a.eval x = .slice (some ⟨g, 0, none⟩) 1 1) (c1 c2 c3 c4 : Int)
    (h0 : w.cell? ⟨g, 0, none⟩ = some (.int .i64 c1)) (h1 : w.cell? ⟨g, 1, none⟩ = some (.int .i64 c2)) (h2 : w.cell? ⟨g, 2, none⟩ = some (.int .i64 c3)) (h3 : w.cell? ⟨g, 3, none⟩ = some (.int .i64 c4)) (hl : P.length ≤ 2000)
    (h : ∀ v' w', Owns w' wb.heap.size [bxRow v' (P ++ [⟨c1, c2, c3, c4⟩])] → Grew wb w' → wpList Try.prog ops Q rest (a.put o.dst v') w') :
    wpList Try.prog ops Q (o :: rest) a w := by
  refine wp_append_owns hgd s x 35 ho 39 4 32 (.agg #[.int .i64 0, .int .i64 0, .int .i64 0, .int .i64 0]) Try.underlying35 Try.infoBox rfl (by decide) wb.heap.size _ 0 v0 P.length (bxVs P) hO rfl hs _ 1 1 hx
    [.int .i64 c1, .int .i64 c2, .int .i64 c3, .int .i64 c4] rfl (fun h => by cases h) (four_news h0 h1 h2 h3) (by simp [Value.oneCell']) (by simp only [maxLen]; omega) (by omega) hg.below.size ?_
  intro v1 w1 hO1 hg1 hb1 _
  refine h v1 w1 ?_ (hg.grownBy hg1 hb1)
  have h2 := hO1
  rw [List.set_cons_zero, bxRow_snoc] at h2
  exact h2

/-! ### The chosen boxes -/
def chF (f : Nat → Bx) (j : Nat) : List Bx := (List.range j).map f
theorem chF_succ (f : Nat → Bx) (j : Nat) : chF f (j + 1) = chF f j ++ [f j] := by simp [chF, List.range_succ]
theorem chF_len (f : Nat → Bx) (j : Nat) : (chF f j).length = j := by simp [chF]
theorem chF_get (f : Nat → Bx) {j i : Nat} (h : i < j) : bK (chF f j) i = f i := by rw [bK_eq _ (by rw [chF_len]; exact h)]; simp [chF]
theorem chF_congr {f g : Nat → Bx} {j : Nat} (h : ∀ i, i < j → f i = g i) : chF f j = chF g j := List.map_congr_left fun i hi => h i (List.mem_range.1 hi)
theorem frB_true {f : Nat → Bx} {j : Nat} {b : Bx} : frB (chF f j) b = true ↔ ∀ i, i < j → ovB (f i) b = false := by
  unfold frB
  rw [Bool.not_eq_true']
  constructor
  · intro h i hi
    cases e : ovB (f i) b
    · rfl
    · have := any_bK (l := chF f j) (pr := fun x => ovB x b) |>.2 ⟨i, by rw [chF_len]; exact hi, by rw [chF_get f hi]; exact e⟩
      rw [this] at h; cases h
  · intro h
    exact any_none fun i hi => by rw [chF_len] at hi; rw [chF_get f hi]; exact h i hi

def okX (m : List (List Bx)) (xs : List Int) (i : Nat) : Prop := 0 ≤ ge xs i ∧ ge xs i < ((bRow m i).length : Int) ∧ ∀ j, j < i → ovB (bxAt m j (ge xs j).toNat) (bxAt m i (ge xs i).toNat) = false
instance (m : List (List Bx)) (xs : List Int) (i : Nat) : Decidable (okX m xs i) := by unfold okX; exact inferInstance
def okB (m : List (List Bx)) (xs : List Int) : Prop := xs.length = m.length ∧ ∀ i, i < xs.length → okX m xs i
instance (m : List (List Bx)) (xs : List Int) : Decidable (okB m xs) := by unfold okB; exact inferInstance
def chB (m : List (List Bx)) (xs : List Int) : Bool := cB m && decide (okB m xs)
theorem chB_bad {m : List (List Bx)} {xs : List Int} (h : cB m = false) : chB m xs = false := by unfold chB; rw [h]; rfl
theorem chB_no {m : List (List Bx)} {xs : List Int} (h : ¬ okB m xs) : chB m xs = false := by unfold chB; rw [decide_eq_false h]; simp
theorem chB_ok {m : List (List Bx)} {xs : List Int} (h : cB m = true) (h2 : okB m xs) : chB m xs = true := by unfold chB; rw [decide_eq_true h2, h]; rfl
theorem cB_row {m : List (List Bx)} (h : cB m = true) : m.length ≤ 8 ∧ ∀ u, u < m.length → (bRow m u).length ≤ 16 := by
  obtain ⟨h1, h2⟩ := of_decide_eq_true h
  refine ⟨h1, fun u hu => ?_⟩
  have := h2 u hu
  unfold rcB at this
  rw [Bool.and_eq_true, decide_eq_true_eq] at this
  exact this.1

set_option maxHeartbeats 8000000 in
theorem check_p50 (p q : Option Addr) (n k cp cq : Nat) (m : List (List Bx)) (xs : List Int) (w : World) (hM : BMat w p m) (hx : Ints w q xs) (hn : m.length = n) (hk : xs.length = k) :
    Calls Try.prog 12 #[.slice p n cp, .slice q k cq] w fun e w' => e = .returned (.bool (chB m xs)) ∧ Grew w w' := by
  subst hn hk
  have hmm := hM.1
  have hmx := hx.1
  cases hv : cB m
  case false =>
    have Hf := Lib.hid (chB_bad (xs := xs) hv)
    have Hv := Lib.hid hv
    go_enter Try.func12, Try.ntmps12
    go_wp2_with ((go_at_call 22; apply Calls.mono; (with_reducible exact candsp_e Hv.out hM rfl); rintro e w' ⟨rfl, x, rfl⟩))
    go_ret
    exact ⟨ret_bool Hf.out.symm, by (repeat (first | exact Grew.refl _ | refine Grew.over ?_ _ | refine Grew.alloc ?_ _ | refine Grew.drew ?_ | refine Grew.drewN ?_ _))⟩
  case true =>
  have Hv := Lib.hid hv
  clear hv
  by_cases hl : xs.length = m.length
  case neg =>
    have Hf := Lib.hid (chB_no (m := m) (xs := xs) (fun h => hl h.1))
    have hl' : ((xs.length : Int) != (m.length : Int)) = true := by rw [bne_iff_ne]; omega
    clear hl
    go_enter Try.func12, Try.ntmps12
    go_wp2_with ((go_at_call 22; apply Calls.mono; (with_reducible exact candsp_e Hv.out hM rfl); rintro e w' ⟨rfl, x, rfl⟩))
    go_ret
    exact ⟨ret_bool Hf.out.symm, by (repeat (first | exact Grew.refl _ | refine Grew.over ?_ _ | refine Grew.alloc ?_ _ | refine Grew.drew ?_ | refine Grew.drewN ?_ _))⟩
  case pos =>
  have hl' : ((xs.length : Int) != (m.length : Int)) = false := by rw [hl]; simp
  have h8 : xs.length ≤ 8 := by have := (cB_row Hv.out).1; omega
  have Hl := Lib.hid hl
  have HM := Lib.hid hM
  have HX := Lib.hid hx
  clear hl hM hx
  go_enter Try.func12, Try.ntmps12
  go_wp2_with ((go_at_call 22; apply Calls.mono; (with_reducible exact candsp_e Hv.out HM.out rfl); rintro e w' ⟨rfl, x, rfl⟩))
  clear hl'
  obtain ⟨f, hf⟩ : ∃ f : Nat → Bx, f = fun i => bxAt m i (ge xs i).toNat := ⟨_, rfl⟩
  have Hfd := Lib.hid hf
  clear hf
  go_loopw [5, 20] (fun v i wr => ∃ j : Nat, j ≤ xs.length ∧ i = .int .i64 j ∧ (∀ t, t < j → okX m xs t) ∧ Owns wr w.heap.size [bxRow v (chF f j)] ∧ Grew w wr) (fun _ i _ => xs.length - (intOf i).toNat)
  case atStart => exact ⟨0, Nat.zero_le _, rfl, fun t ht => by omega, (Owns.nil _ _).none _ _, by (repeat (first | exact Grew.refl _ | refine Grew.over ?_ _ | refine Grew.alloc ?_ _ | refine Grew.drew ?_ | refine Grew.drewN ?_ _))⟩
  case round =>
    obtain ⟨j, hj, rfl, hall, hO, hg⟩ := hrel
    have Hall := Lib.hid hall
    have HO := Lib.hid hO
    have Hg := Lib.hid hg
    clear hall
    obtain ⟨cq', cc, rfl, hcl, hcb⟩ := bxs_of_owns hO (k := 0) rfl
    rw [chF_len]
    have HCB := Lib.hid hcb
    clear hO hg hcl hcb
    by_cases hlt : j < xs.length
    · obtain ⟨bx, ox, h1, c1⟩ := (HX.out.grew Hg.out).open
      obtain ⟨rfl, g1⟩ := h1 (by omega)
      have d1 := c1 j hlt
      clear h1 c1
      have hjc : j < m.length := by have := Hl.out; omega
      obtain ⟨b, o, rp, rc, rfl, hb, c0, hR⟩ := (HM.out.grew Hg.out).row1 hjc
      have Hno : Hid (¬ okX m xs j → chB m xs = false) := Lib.hid (fun h => chB_no fun g => h (g.2 j hlt))
      have hl16 := (cB_row Hv.out).2 j hjc
      obtain ⟨x, hxe⟩ : ∃ x, ge xs j = x := ⟨_, rfl⟩
      rw [hxe] at d1
      have Hxe := Lib.hid hxe
      clear hxe
      obtain ⟨L, hle⟩ : ∃ L, (bRow m j).length = L := ⟨_, rfl⟩
      rw [hle] at c0 hl16
      have Hle := Lib.hid hle
      clear hle
      by_cases e1 : x < 0
      · have Hf := Lib.hid (Hno.out (fun h => by have := h.1; rw [Hxe.out] at this; omega))
        go_wp2
        go_ret
        exact ⟨ret_bool Hf.out.symm, Hg.out.trans (by (repeat (first | exact Grew.refl _ | refine Grew.over ?_ _ | refine Grew.alloc ?_ _ | refine Grew.drew ?_ | refine Grew.drewN ?_ _)))⟩
      by_cases e2 : x < (L : Int)
      case neg =>
        have Hf := Lib.hid (Hno.out (fun h => by have := h.2.1; rw [Hxe.out, Hle.out] at this; omega))
        have e3 : (L : Int) ≤ x := by omega
        have e4 : 0 ≤ x := by omega
        go_wp2
        go_ret
        exact ⟨ret_bool Hf.out.symm, Hg.out.trans (by (repeat (first | exact Grew.refl _ | refine Grew.over ?_ _ | refine Grew.alloc ?_ _ | refine Grew.drew ?_ | refine Grew.drewN ?_ _)))⟩
      obtain ⟨X, rfl⟩ : ∃ X : Nat, x = (X : Int) := ⟨x.toNat, by omega⟩
      have hX : X < L := by omega
      obtain ⟨_, bb, oo, h3, h4⟩ := hR
      obtain ⟨rfl, hbb⟩ := h3 (by rw [Hle.out]; omega)
      obtain ⟨k1, k2, k3, k4⟩ := h4 X (by rw [Hle.out]; exact hX)
      clear h3 h4 e1 e2
      obtain ⟨⟨xa, xb, xc, xd⟩, hbe⟩ : ∃ b, bK (bRow m j) X = b := ⟨_, rfl⟩
      rw [hbe] at k1 k2 k3 k4
      dsimp only at k1 k2 k3 k4
      have Hfj : Hid (f j = ⟨xa, xb, xc, xd⟩) := Lib.hid (by rw [Hfd.out]; show bK (bRow m j) (ge xs j).toNat = _; rw [Hxe.out]; exact hbe)
      clear hbe
      obtain ⟨r, hr⟩ : ∃ r, frB (chF f j) ⟨xa, xb, xc, xd⟩ = r := ⟨_, rfl⟩
      have Hr := Lib.hid hr
      clear hr
      cases r
      · have Hf := Lib.hid (Hno.out (fun h => by
          have h2 : frB (chF f j) ⟨xa, xb, xc, xd⟩ = true := frB_true.2 fun i hi => by rw [← Hfj.out, Hfd.out]; exact h.2.2 i hi
          rw [Hr.out] at h2; cases h2))
        go_wp2_with (go_at_call 28; apply Calls.mono; (with_reducible exact free_e Hr.out (HCB.out.grew (by (repeat (first | exact Grew.refl _ | refine Grew.over ?_ _ | refine Grew.alloc ?_ _ | refine Grew.drew ?_ | refine Grew.drewN ?_ _)))) (chF_len _ _)); rintro e w' ⟨rfl, x, rfl⟩)
        go_ret
        exact ⟨ret_bool Hf.out.symm, Hg.out.trans (by (repeat (first | exact Grew.refl _ | refine Grew.over ?_ _ | refine Grew.alloc ?_ _ | refine Grew.drew ?_ | refine Grew.drewN ?_ _)))⟩
      · have Hok : Hid (okX m xs j) := Lib.hid ⟨by rw [Hxe.out]; omega, by rw [Hxe.out, Hle.out]; omega, fun i hi => by
          have := frB_true.1 Hr.out i hi
          rw [← Hfj.out, Hfd.out] at this
          exact this⟩
        go_wp2_with (first | (go_at_call 28; apply Calls.mono; (with_reducible exact free_e Hr.out (HCB.out.grew (by (repeat (first | exact Grew.refl _ | refine Grew.over ?_ _ | refine Grew.alloc ?_ _ | refine Grew.drew ?_ | refine Grew.drewN ?_ _)))) (chF_len _ _)); rintro e w' ⟨rfl, x, rfl⟩) | (at_builtin; refine wp_append_bx rfl _ _ rfl w _ (chF f j) (HO.out.grew (by (repeat (first | exact Grew.refl _ | refine Grew.over ?_ _ | refine Grew.alloc ?_ _ | refine Grew.drew ?_ | refine Grew.drewN ?_ _)))) (Hg.out.trans (by (repeat (first | exact Grew.refl _ | refine Grew.over ?_ _ | refine Grew.alloc ?_ _ | refine Grew.drew ?_ | refine Grew.drewN ?_ _)))) (by rw [chF_len]; rfl) _ rfl xa xb xc xd (by (simp [go_sem, ↓IntWalk.iteOmega])) (by (simp [go_sem, ↓IntWalk.iteOmega])) (by (simp [go_sem, ↓IntWalk.iteOmega])) (by (simp [go_sem, ↓IntWalk.iteOmega])) (by rw [chF_len]; omega) ?_; intro v1 w1 hO1 hg1; have HO1 := Lib.hid hO1; have Hg1 := Lib.hid hg1; clear hO1 hg1))
        go_roundw
        case rel =>
          refine ⟨j + 1, by omega, by go_num, fun t ht => ?_, ?_, Hg1.out⟩
          · by_cases h : t = j
            · rw [h]; exact Hok.out
            · exact Hall.out t (by omega)
          · rw [chF_succ, Hfj.out]; exact HO1.out
        case measure => simp [intOf]; omega
    · have Hf : Hid (chB m xs = true) := Lib.hid (chB_ok Hv.out ⟨Hl.out, fun t ht => Hall.out t (by omega)⟩)
      go_wp2
      go_ret
      exact ⟨ret_bool Hf.out.symm, Hg.out.trans (by (repeat (first | exact Grew.refl _ | refine Grew.over ?_ _ | refine Grew.alloc ?_ _ | refine Grew.drew ?_ | refine Grew.drewN ?_ _)))⟩
theorem checkp_e {p q : Option Addr} {n k cp cq : Nat} {m : List (List Bx)} {xs : List Int} {w : World} {b : Bool} (h : chB m xs = b) (hM : BMat w p m) (hx : Ints w q xs) (hn : m.length = n) (hk : xs.length = k) :
    Calls Try.prog 12 #[.slice p n cp, .slice q k cq] w fun e w' => e = .returned (.bool b) ∧ Grew w w' := h ▸ check_p50 p q n k cp cq m xs w hM hx hn hk
end Go.Proofs.Ytdenjldadlgniaa
