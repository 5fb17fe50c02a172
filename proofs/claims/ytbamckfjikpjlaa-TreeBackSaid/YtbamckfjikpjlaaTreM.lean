/- Equality of statements: of the program. -/
import Derived.Test.YtbamckfjikpjlaaTreC
import Derived.Test.YtbamckfjikpjlaaTreG
import Derived.Laws.StructEq
set_option linter.unusedSimpArgs false
set_option linter.unusedVariables false
namespace Go.Proofs.Ytbamckfjikpjlaa
open Go.RowKit
attribute [local go_sem ↓] Go.wp_at_zero Go.wp_at_succ

/-- Equality of two texts each, as a word that the walk does not open. -/
def e2b (a b c d : ByteArray) : Bool := sq a c && sq b d
theorem e2b_dec (a b c d : ByteArray) : e2b a b c d = decide ((a, b) = (c, d)) := by
  unfold e2b
  rw [sq_dec, sq_dec, Bool.eq_iff_iff]
  simp

theorem eq2_ref (a b c d : ByteArray) (w : World) : (Op.equalIn 10000 39 (.agg #[.string a, .string b]) (.agg #[.string c, .string d])).run Try.prog w = .ok (e2b a b c d) w := by
  have hS : Try.prog.underlying 39 = some (.struct (Try.prog.fieldsOf 39)) := by kernel_rfl
  rw [show (10000 : Nat) = 9999 + 1 from rfl, run_equalIn_agg w 9999 39 _ _ hS (by kernel_rfl)]
  simp only [Program.fieldsOf, Try.underlying39, e2b, sq]
  have u3 := Try.underlying9
  go_simp
  by_cases h1 : a.toList = c.toList <;> by_cases h2 : b.toList = d.toList <;> simp [h1, h2]
@[go_sem] theorem guard_ref (op : BinOp) (x y : Operand) (xs ys : Array Value) (w : World) : (eqGuard op 39 x y (.agg xs) (.agg ys)).run Try.prog w = .ok () w := run_eqGuard_agg w op _ x y xs ys (by kernel_rfl)
@[go_sem ↓] theorem neq_ref (a b c d : ByteArray) (w : World) : (binOp .neq 39 (.agg #[.string a, .string b]) (.agg #[.string c, .string d])).run Try.prog w = .ok (.bool (!(e2b a b c d))) w := by
  rw [run_neq_struct, eq2_ref]
  rfl

theorem eq2_attr (a b c d : ByteArray) (w : World) : (Op.equalIn 10000 64 (.agg #[.string a, .string b]) (.agg #[.string c, .string d])).run Try.prog w = .ok (e2b a b c d) w := by
  have hS : Try.prog.underlying 64 = some (.struct (Try.prog.fieldsOf 64)) := by kernel_rfl
  rw [show (10000 : Nat) = 9999 + 1 from rfl, run_equalIn_agg w 9999 64 _ _ hS (by kernel_rfl)]
  simp only [Program.fieldsOf, Try.underlying64, e2b, sq]
  have u3 := Try.underlying9
  go_simp
  by_cases h1 : a.toList = c.toList <;> by_cases h2 : b.toList = d.toList <;> simp [h1, h2]
@[go_sem] theorem guard_attr (op : BinOp) (x y : Operand) (xs ys : Array Value) (w : World) : (eqGuard op 64 x y (.agg xs) (.agg ys)).run Try.prog w = .ok () w := run_eqGuard_agg w op _ x y xs ys (by kernel_rfl)
@[go_sem ↓] theorem neq_attr (a b c d : ByteArray) (w : World) : (binOp .neq 64 (.agg #[.string a, .string b]) (.agg #[.string c, .string d])).run Try.prog w = .ok (.bool (!(e2b a b c d))) w := by
  rw [run_neq_struct, eq2_attr]
  rfl

set_option maxHeartbeats 2000000 in
theorem eq_ref (p q : Option Addr) (n c m d : Nat) (x y : List P2) (w : World) (hx : P2s w p c x) (hy : P2s w q d y) (hn : x.length = n) (hm : y.length = m) :
    Calls Try.prog 55 #[.slice p n c, .slice q m d] w fun e w' => e = .returned (.bool (decide (x = y))) ∧ Grew w w' := by
  subst hn hm
  obtain ⟨r, hr⟩ : ∃ r, decide (x = y) = r := ⟨_, rfl⟩
  have Hr := Lib.hid hr
  have Hx := Lib.hid hx
  have Hy := Lib.hid hy
  have hxl := len_lt hx
  have hyl := len_lt hy
  rw [hr]
  clear hr hx hy
  by_cases hl : x.length = y.length
  case neg =>
    have H := Lib.hid (Hr.out.symm.trans (decide_eq_false (fun h => hl (by rw [h]))))
    go_enter Try.func55, Try.ntmps55
    go_wp2
    go_ret
    exact ⟨ret_bool H.out.symm, by (repeat (first | exact Grew.refl _ | refine Grew.over ?_ _ | refine Grew.alloc ?_ _ | refine Grew.drew ?_ | refine Grew.drewN ?_ _))⟩
  go_enter Try.func55, Try.ntmps55
  go_wp2
  go_loopw [13] (fun i wr => ∃ k : Nat, k ≤ x.length ∧ i = .int .i64 k ∧ (∀ j, j < k → x[j]? = y[j]?) ∧ Grew w wr) (fun i _ => x.length - (intOf i).toNat)
  case atStart => exact ⟨0, Nat.zero_le _, rfl, fun j hj => by omega, by (repeat (first | exact Grew.refl _ | refine Grew.over ?_ _ | refine Grew.alloc ?_ _ | refine Grew.drew ?_ | refine Grew.drewN ?_ _))⟩
  case round =>
    obtain ⟨k, hk, rfl, hall, hg⟩ := hrel
    have Hall := Lib.hid hall
    have Hg := Lib.hid hg
    clear hall hg
    by_cases hlt : k < x.length
    · have hlt' : k < y.length := by omega
      obtain ⟨b, o, s, t, rfl, hb, e1, -, -, c1, c2⟩ := p2_el (Hx.out.grew stable_p2 Hg.out) hlt
      obtain ⟨b', o', s', t', rfl, hb', e2, -, -, c3, c4⟩ := p2_el (Hy.out.grew stable_p2 Hg.out) hlt'
      have E1 := Lib.hid e1
      have E2 := Lib.hid e2
      clear e1 e2
      cases hq : e2b s t s' t'
      · have H := Lib.hid (Hr.out.symm.trans (decide_eq_false (fun h => by
          have h1 := E1.out
          rw [h, E2.out] at h1
          rw [e2b_dec, decide_eq_true (Option.some.inj h1).symm] at hq
          cases hq)))
        go_wp2
        refine wp_region_over (by kernel_rfl) (by kernel_rfl) ?_; (repeat (go_big_quiet_step (fail))); refine wpQuiet_nil ?_; rintro _ ⟨x, rfl⟩
        go_wp2
        go_ret
        exact ⟨ret_bool H.out.symm, Hg.out.trans (by (repeat (first | exact Grew.refl _ | refine Grew.over ?_ _ | refine Grew.alloc ?_ _ | refine Grew.drew ?_ | refine Grew.drewN ?_ _)))⟩
      · have H := Lib.hid (show x[k]? = y[k]? by rw [E1.out, E2.out]; rw [e2b_dec] at hq; rw [of_decide_eq_true hq])
        go_wp2
        refine wp_region_over (by kernel_rfl) (by kernel_rfl) ?_; (repeat (go_big_quiet_step (fail))); refine wpQuiet_nil ?_; rintro _ ⟨x, rfl⟩
        go_wp2
        go_roundw
        case rel => exact ⟨k + 1, hlt, by go_num, fun j hj => (by
          rcases Nat.lt_succ_iff_lt_or_eq.1 hj with h | h
          · exact Hall.out j h
          · rw [h]; exact H.out), Hg.out.trans (by (repeat (first | exact Grew.refl _ | refine Grew.over ?_ _ | refine Grew.alloc ?_ _ | refine Grew.drew ?_ | refine Grew.drewN ?_ _)))⟩
        case measure => simp [intOf]; omega
    · have H := Lib.hid (Hr.out.symm.trans (decide_eq_true (List.ext_getElem? fun j => by
        by_cases hj : j < k
        · exact Hall.out j hj
        · rw [List.getElem?_eq_none (by omega), List.getElem?_eq_none (by omega)])))
      go_wp2
      go_ret
      exact ⟨ret_bool H.out.symm, Hg.out.trans (by (repeat (first | exact Grew.refl _ | refine Grew.over ?_ _ | refine Grew.alloc ?_ _ | refine Grew.drew ?_ | refine Grew.drewN ?_ _)))⟩

set_option maxHeartbeats 2000000 in
theorem eq_attr (p q : Option Addr) (n c m d : Nat) (x y : List P2) (w : World) (hx : P2s w p c x) (hy : P2s w q d y) (hn : x.length = n) (hm : y.length = m) :
    Calls Try.prog 56 #[.slice p n c, .slice q m d] w fun e w' => e = .returned (.bool (decide (x = y))) ∧ Grew w w' := by
  subst hn hm
  obtain ⟨r, hr⟩ : ∃ r, decide (x = y) = r := ⟨_, rfl⟩
  have Hr := Lib.hid hr
  have Hx := Lib.hid hx
  have Hy := Lib.hid hy
  have hxl := len_lt hx
  have hyl := len_lt hy
  rw [hr]
  clear hr hx hy
  by_cases hl : x.length = y.length
  case neg =>
    have H := Lib.hid (Hr.out.symm.trans (decide_eq_false (fun h => hl (by rw [h]))))
    go_enter Try.func56, Try.ntmps56
    go_wp2
    go_ret
    exact ⟨ret_bool H.out.symm, by (repeat (first | exact Grew.refl _ | refine Grew.over ?_ _ | refine Grew.alloc ?_ _ | refine Grew.drew ?_ | refine Grew.drewN ?_ _))⟩
  go_enter Try.func56, Try.ntmps56
  go_wp2
  go_loopw [13] (fun i wr => ∃ k : Nat, k ≤ x.length ∧ i = .int .i64 k ∧ (∀ j, j < k → x[j]? = y[j]?) ∧ Grew w wr) (fun i _ => x.length - (intOf i).toNat)
  case atStart => exact ⟨0, Nat.zero_le _, rfl, fun j hj => by omega, by (repeat (first | exact Grew.refl _ | refine Grew.over ?_ _ | refine Grew.alloc ?_ _ | refine Grew.drew ?_ | refine Grew.drewN ?_ _))⟩
  case round =>
    obtain ⟨k, hk, rfl, hall, hg⟩ := hrel
    have Hall := Lib.hid hall
    have Hg := Lib.hid hg
    clear hall hg
    by_cases hlt : k < x.length
    · have hlt' : k < y.length := by omega
      obtain ⟨b, o, s, t, rfl, hb, e1, -, -, c1, c2⟩ := p2_el (Hx.out.grew stable_p2 Hg.out) hlt
      obtain ⟨b', o', s', t', rfl, hb', e2, -, -, c3, c4⟩ := p2_el (Hy.out.grew stable_p2 Hg.out) hlt'
      have E1 := Lib.hid e1
      have E2 := Lib.hid e2
      clear e1 e2
      cases hq : e2b s t s' t'
      · have H := Lib.hid (Hr.out.symm.trans (decide_eq_false (fun h => by
          have h1 := E1.out
          rw [h, E2.out] at h1
          rw [e2b_dec, decide_eq_true (Option.some.inj h1).symm] at hq
          cases hq)))
        go_wp2
        refine wp_region_over (by kernel_rfl) (by kernel_rfl) ?_; (repeat (go_big_quiet_step (fail))); refine wpQuiet_nil ?_; rintro _ ⟨x, rfl⟩
        go_wp2
        go_ret
        exact ⟨ret_bool H.out.symm, Hg.out.trans (by (repeat (first | exact Grew.refl _ | refine Grew.over ?_ _ | refine Grew.alloc ?_ _ | refine Grew.drew ?_ | refine Grew.drewN ?_ _)))⟩
      · have H := Lib.hid (show x[k]? = y[k]? by rw [E1.out, E2.out]; rw [e2b_dec] at hq; rw [of_decide_eq_true hq])
        go_wp2
        refine wp_region_over (by kernel_rfl) (by kernel_rfl) ?_; (repeat (go_big_quiet_step (fail))); refine wpQuiet_nil ?_; rintro _ ⟨x, rfl⟩
        go_wp2
        go_roundw
        case rel => exact ⟨k + 1, hlt, by go_num, fun j hj => (by
          rcases Nat.lt_succ_iff_lt_or_eq.1 hj with h | h
          · exact Hall.out j h
          · rw [h]; exact H.out), Hg.out.trans (by (repeat (first | exact Grew.refl _ | refine Grew.over ?_ _ | refine Grew.alloc ?_ _ | refine Grew.drew ?_ | refine Grew.drewN ?_ _)))⟩
        case measure => simp [intOf]; omega
    · have H := Lib.hid (Hr.out.symm.trans (decide_eq_true (List.ext_getElem? fun j => by
        by_cases hj : j < k
        · exact Hall.out j hj
        · rw [List.getElem?_eq_none (by omega), List.getElem?_eq_none (by omega)])))
      go_wp2
      go_ret
      exact ⟨ret_bool H.out.symm, Hg.out.trans (by (repeat (first | exact Grew.refl _ | refine Grew.over ?_ _ | refine Grew.alloc ?_ _ | refine Grew.drew ?_ | refine Grew.drewN ?_ _)))⟩

theorem st_inj {k k' : Int} {nm nm' : ByteArray} {rs rs' ats ats' : List P2} {bd bd' : List St} : St.mk k nm rs ats bd = St.mk k' nm' rs' ats' bd' ↔ k = k' ∧ nm = nm' ∧ rs = rs' ∧ ats = ats' ∧ bd = bd' := by
  constructor
  · intro h; cases h; exact ⟨rfl, rfl, rfl, rfl, rfl⟩
  · rintro ⟨rfl, rfl, rfl, rfl, rfl⟩; rfl
open Classical in
/-- Equality of trees. -/
noncomputable def lEq (a b : List St) : Bool := decide (a = b)
theorem lEq_y {a b : List St} (h : a = b) : lEq a b = true := by simp [lEq, h]
theorem lEq_n {a b : List St} (h : a ≠ b) : lEq a b = false := by simp [lEq, h]
theorem lEq_of {a b : List St} (h : lEq a b = true) : a = b := by simpa [lEq] using h
theorem lEq_not {a b : List St} (h : lEq a b = false) : a ≠ b := by simpa [lEq] using h

set_option maxHeartbeats 2000000 in
theorem equal_of (m : Nat) (ih : ∀ (p q : Option Addr) (n c k d : Nat) (x y : List St) (w : World) (_ : Sts m w p c x) (_ : Sts m w q d y) (_ : x.length = n) (_ : y.length = k),
      Calls Try.prog 43 #[.slice p n c, .slice q k d, .func (.func 44) #[] #[]] w fun e w' => e = .returned (.bool (lEq x y)) ∧ Grew w w')
    (k k' : Int) (nm nm' : ByteArray) (rp ap bp rp' ap' bp' : Option Addr) (rl rc al ac bl bc rl' rc' al' ac' bl' bc' : Nat) (rs ats rs' ats' : List P2) (bd bd' : List St) (w : World)
    (hR : P2s w rp rc rs) (hA : P2s w ap ac ats) (hB : Sts m w bp bc bd) (hR' : P2s w rp' rc' rs') (hA' : P2s w ap' ac' ats') (hB' : Sts m w bp' bc' bd')
    (h1 : rs.length = rl) (h2 : ats.length = al) (h3 : bd.length = bl) (h1' : rs'.length = rl') (h2' : ats'.length = al') (h3' : bd'.length = bl') :
    Calls Try.prog 44 #[.agg #[.int .i64 k, .string nm, .slice rp rl rc, .slice ap al ac, .slice bp bl bc], .agg #[.int .i64 k', .string nm', .slice rp' rl' rc', .slice ap' al' ac', .slice bp' bl' bc']] w fun e w' =>
      e = .returned (.bool (lEq [.mk k nm rs ats bd] [.mk k' nm' rs' ats' bd'])) ∧ Grew w w' := by
  have Ih := Lib.hid ih
  have HR := Lib.hid hR
  have HA := Lib.hid hA
  have HB := Lib.hid hB
  have HR' := Lib.hid hR'
  have HA' := Lib.hid hA'
  have HB' := Lib.hid hB'
  clear ih hR hA hB hR' hA' hB'
  obtain ⟨r, hr⟩ : ∃ r, lEq [.mk k nm rs ats bd] [.mk k' nm' rs' ats' bd'] = r := ⟨_, rfl⟩
  have Hr := Lib.hid hr
  rw [hr]
  clear hr
  have Hy := Lib.hid (fun h => Hr.out.symm.trans (lEq_y (congrArg (fun z => [z]) (st_inj.2 h))))
  have Hn := Lib.hid (fun (h : ¬ (k = k' ∧ nm = nm' ∧ rs = rs' ∧ ats = ats' ∧ bd = bd')) => Hr.out.symm.trans (lEq_n (fun e => h (st_inj.1 (List.cons.inj e).1))))
  clear Hr
  cases q1 : (k == k')
  · have H := Lib.hid (Hn.out (fun h => by rw [h.1] at q1; simp at q1))
    go_enter Try.func44, Try.ntmps44
    go_wp2
    go_ret
    exact ⟨ret_bool H.out.symm, by (repeat (first | exact Grew.refl _ | refine Grew.over ?_ _ | refine Grew.alloc ?_ _ | refine Grew.drew ?_ | refine Grew.drewN ?_ _))⟩
  cases q2 : sq nm nm'
  · have H := Lib.hid (Hn.out (fun h => by rw [h.2.1, sq_self] at q2; cases q2))
    have q2' := sq_raw q2
    clear q2
    go_enter Try.func44, Try.ntmps44
    go_wp2
    go_ret
    exact ⟨ret_bool H.out.symm, by (repeat (first | exact Grew.refl _ | refine Grew.over ?_ _ | refine Grew.alloc ?_ _ | refine Grew.drew ?_ | refine Grew.drewN ?_ _))⟩
  have q2' := sq_raw q2
  have Q2 := Lib.hid (sq_iff.1 q2)
  have Q1 := Lib.hid (beq_iff_eq.1 q1)
  clear q2
  obtain ⟨b3, q3⟩ : ∃ b, decide (rs = rs') = b := ⟨_, rfl⟩
  have Q3 := Lib.hid q3
  obtain ⟨b4, q4⟩ : ∃ b, decide (ats = ats') = b := ⟨_, rfl⟩
  have Q4 := Lib.hid q4
  obtain ⟨b5, q5⟩ : ∃ b, lEq bd bd' = b := ⟨_, rfl⟩
  have Q5 := Lib.hid q5
  clear q3 q4 q5
  have hAB : Hid (r = (b3 && b4 && b5)) := Lib.hid (by
    cases b3
    · exact Hn.out (fun h => of_decide_eq_false Q3.out h.2.2.1)
    cases b4
    · exact Hn.out (fun h => of_decide_eq_false Q4.out h.2.2.2.1)
    cases b5
    · exact Hn.out (fun h => lEq_not Q5.out h.2.2.2.2)
    · exact Hy.out ⟨Q1.out, Q2.out, of_decide_eq_true Q3.out, of_decide_eq_true Q4.out, lEq_of Q5.out⟩)
  clear Hy Hn
  cases b3 <;> cases b4 <;> cases b5
  all_goals
    go_enter Try.func44, Try.ntmps44
    go_wp2_with (first
      | (go_at_call 55; apply Calls.mono; (with_reducible exact eq_ref _ _ _ _ _ _ rs rs' _ (HR.out.grew stable_p2 (by (repeat (first | exact Grew.refl _ | refine Grew.over ?_ _ | refine Grew.alloc ?_ _ | refine Grew.drew ?_ | refine Grew.drewN ?_ _)))) (HR'.out.grew stable_p2 (by (repeat (first | exact Grew.refl _ | refine Grew.over ?_ _ | refine Grew.alloc ?_ _ | refine Grew.drew ?_ | refine Grew.drewN ?_ _)))) h1 h1'); rw [Q3.out]; rintro e w1 ⟨rfl, x1, rfl⟩)
      | (go_at_call 56; apply Calls.mono; (with_reducible exact eq_attr _ _ _ _ _ _ ats ats' _ (HA.out.grew stable_p2 (by (repeat (first | exact Grew.refl _ | refine Grew.over ?_ _ | refine Grew.alloc ?_ _ | refine Grew.drew ?_ | refine Grew.drewN ?_ _)))) (HA'.out.grew stable_p2 (by (repeat (first | exact Grew.refl _ | refine Grew.over ?_ _ | refine Grew.alloc ?_ _ | refine Grew.drew ?_ | refine Grew.drewN ?_ _)))) h2 h2'); rw [Q4.out]; rintro e w2 ⟨rfl, x2, rfl⟩)
      | (go_at_call 43; apply Calls.mono; (with_reducible exact Ih.out _ _ _ _ _ _ bd bd' _ (HB.out.grew (stable_st _) (by (repeat (first | exact Grew.refl _ | refine Grew.over ?_ _ | refine Grew.alloc ?_ _ | refine Grew.drew ?_ | refine Grew.drewN ?_ _)))) (HB'.out.grew (stable_st _) (by (repeat (first | exact Grew.refl _ | refine Grew.over ?_ _ | refine Grew.alloc ?_ _ | refine Grew.drew ?_ | refine Grew.drewN ?_ _)))) h3 h3'); rw [Q5.out]; rintro e w3 ⟨rfl, x3, rfl⟩))
    go_ret
    exact ⟨ret_bool (by rw [hAB.out]; rfl), by (repeat (first | exact Grew.refl _ | refine Grew.over ?_ _ | refine Grew.alloc ?_ _ | refine Grew.drew ?_ | refine Grew.drewN ?_ _))⟩
end Go.Proofs.Ytbamckfjikpjlaa
