/- Equality of trees: Equal of the program. -/
import Derived.Test.YtbamckfjikpjlaaTreM
import Derived.Test.YtbamckfjikpjlaaTreF
set_option linter.unusedSimpArgs false
set_option linter.unusedVariables false
namespace Go.Proofs.Ytbamckfjikpjlaa
open Go.RowKit
attribute [local go_sem ↓] Go.wp_at_zero Go.wp_at_succ

theorem lEq_one {x y : St} {l l' : List St} {k : Nat} (h1 : l[k]? = some x) (h2 : l'[k]? = some y) (h : lEq [x] [y] = false) : lEq l l' = false :=
  lEq_n fun e => by
    subst e
    rw [h1] at h2
    cases h2
    rw [lEq_y rfl] at h
    cases h
theorem lEq_of1 {x y : St} (h : lEq [x] [y] = true) : x = y := (List.cons.inj (lEq_of h)).1

set_option maxHeartbeats 4000000 in
theorem equalfunc_p : ∀ (n : Nat) (p q : Option Addr) (m c k d : Nat) (x y : List St) (w : World) (_ : Sts n w p c x) (_ : Sts n w q d y) (_ : x.length = m) (_ : y.length = k),
    Calls Try.prog 43 #[.slice p m c, .slice q k d, .func (.func 44) #[] #[]] w fun e w' => e = .returned (.bool (lEq x y)) ∧ Grew w w' := by
  intro n
  induction n using Nat.strongRecOn with
  | ind n ih =>
  intro p q m c k d x y w hx hy hm hk
  subst hm hk
  have Ih := Lib.hid ih
  obtain ⟨r, hr⟩ : ∃ r, lEq x y = r := ⟨_, rfl⟩
  have Hr := Lib.hid hr
  have Hx := Lib.hid hx
  have Hy := Lib.hid hy
  have hxl := len_lt hx
  have hyl := len_lt hy
  rw [hr]
  clear hr hx hy ih
  by_cases hl : x.length = y.length
  case neg =>
    have H := Lib.hid (Hr.out.symm.trans (lEq_n (fun h => hl (by rw [h]))))
    go_enter Try.func43, Try.ntmps43
    go_wp2
    go_ret
    exact ⟨ret_bool H.out.symm, by (repeat (first | exact Grew.refl _ | refine Grew.over ?_ _ | refine Grew.alloc ?_ _ | refine Grew.drew ?_ | refine Grew.drewN ?_ _))⟩
  have hne : ((x.length : Int) != (y.length : Int)) = false := by rw [hl]; simp
  have hle : x.length ≤ y.length := by omega
  have Hl := Lib.hid hl
  clear hl
  go_enter Try.func43, Try.ntmps43
  go_wp2
  go_loopw [7, 8, 9, 17] (fun _ _ _ i wr => ∃ j : Nat, j ≤ x.length ∧ i = .int .i64 j ∧ (∀ u, u < j → x[u]? = y[u]?) ∧ Grew w wr) (fun _ _ _ i _ => x.length - (intOf i).toNat)
  case atStart => exact ⟨0, Nat.zero_le _, rfl, fun j hj => by omega, by (repeat (first | exact Grew.refl _ | refine Grew.over ?_ _ | refine Grew.alloc ?_ _ | refine Grew.drew ?_ | refine Grew.drewN ?_ _))⟩
  case round =>
    obtain ⟨j, hj, rfl, hall, hg⟩ := hrel
    have Hall := Lib.hid hall
    have Hg := Lib.hid hg
    clear hall hg
    by_cases hlt : j < x.length
    · have hlt' : j < y.length := by omega
      obtain ⟨b, o, kd, nm, rs, ats, bd, rp, rc, ap, ac, bp, bc, m1, hm1, rfl, hb, h1, -, -, c0, c1, c2, c3, c4, hR, hA, hB⟩ := sts_el (Hx.out.grew (stable_st _) Hg.out) hlt
      obtain ⟨b', o', kd', nm', rs', ats', bd', rp', rc', ap', ac', bp', bc', m2, hm2, rfl, hb', h2, -, -, d0, d1, d2, d3, d4, hR', hA', hB'⟩ := sts_el (Hy.out.grew (stable_st _) Hg.out) hlt'
      have hmm : m2 = m1 := by omega
      subst hmm
      have hlm : m2 < n := by omega
      clear hm1 hm2
      have H1 := Lib.hid h1
      have H2 := Lib.hid h2
      have HR := Lib.hid hR
      have HA := Lib.hid hA
      have HB := Lib.hid hB
      have HR' := Lib.hid hR'
      have HA' := Lib.hid hA'
      have HB' := Lib.hid hB'
      have Ie := Lib.hid (fun W (hW : Grew wr W) => equal_of m2 (Ih.out m2 hlm) kd kd' nm nm' rp ap bp rp' ap' bp' _ rc _ ac _ bc _ rc' _ ac' _ bc' rs ats rs' ats' bd bd' W (HR.out.grew stable_p2 hW) (HA.out.grew stable_p2 hW) (HB.out.grew (stable_st _) hW) (HR'.out.grew stable_p2 hW) (HA'.out.grew stable_p2 hW) (HB'.out.grew (stable_st _) hW) rfl rfl rfl rfl rfl rfl)
      obtain ⟨v, hv⟩ : ∃ v, lEq [.mk kd nm rs ats bd] [.mk kd' nm' rs' ats' bd'] = v := ⟨_, rfl⟩
      have Hv := Lib.hid hv
      rw [hv] at Ie
      clear hv h1 h2 hR hA hB hR' hA' hB'
      cases v
      · have H := Lib.hid (Hr.out.symm.trans (lEq_one H1.out H2.out Hv.out))
        go_wp2_with (go_at_call 44; apply Calls.mono; (with_reducible exact Ie.out _ (by (repeat (first | exact Grew.refl _ | refine Grew.over ?_ _ | refine Grew.alloc ?_ _ | refine Grew.drew ?_ | refine Grew.drewN ?_ _)))); rintro e w2 ⟨rfl, hg2⟩; have Hg2 := Lib.hid (Hg.out.trans (Grew.trans (by (repeat (first | exact Grew.refl _ | refine Grew.over ?_ _ | refine Grew.alloc ?_ _ | refine Grew.drew ?_ | refine Grew.drewN ?_ _))) hg2)); clear hg2)
        go_ret
        exact ⟨ret_bool H.out.symm, Hg2.out⟩
      · have H := Lib.hid (show x[j]? = y[j]? by rw [H1.out, H2.out, lEq_of1 Hv.out])
        go_wp2_with (go_at_call 44; apply Calls.mono; (with_reducible exact Ie.out _ (by (repeat (first | exact Grew.refl _ | refine Grew.over ?_ _ | refine Grew.alloc ?_ _ | refine Grew.drew ?_ | refine Grew.drewN ?_ _)))); rintro e w2 ⟨rfl, hg2⟩; have Hg2 := Lib.hid (Hg.out.trans (Grew.trans (by (repeat (first | exact Grew.refl _ | refine Grew.over ?_ _ | refine Grew.alloc ?_ _ | refine Grew.drew ?_ | refine Grew.drewN ?_ _))) hg2)); clear hg2)
        go_roundw
        case rel => exact ⟨j + 1, hlt, by go_num, fun u hu => (by
          rcases Nat.lt_succ_iff_lt_or_eq.1 hu with h | h
          · exact Hall.out u h
          · rw [h]; exact H.out), Hg2.out⟩
        case measure => simp [intOf]; omega
    · have hle2 : y.length ≤ x.length := by have := Hl.out; omega
      have H := Lib.hid (Hr.out.symm.trans (lEq_y (List.ext_getElem? fun u => by
        by_cases hu : u < j
        · exact Hall.out u hu
        · rw [List.getElem?_eq_none (by omega), List.getElem?_eq_none (by omega)])))
      go_wp2
      go_ret
      exact ⟨ret_bool H.out.symm, Hg.out.trans (by (repeat (first | exact Grew.refl _ | refine Grew.over ?_ _ | refine Grew.alloc ?_ _ | refine Grew.drew ?_ | refine Grew.drewN ?_ _)))⟩

/-- Equality of trees. -/
noncomputable def tEq (na : ByteArray) (da : Bool) (a : List St) (nb : ByteArray) (db : Bool) (b : List St) : Bool := sq na nb && (da == db) && lEq a b
set_option maxHeartbeats 2000000 in
theorem Equal_p (n : Nat) (na nb : ByteArray) (da db : Bool) (p q : Option Addr) (m c k d : Nat) (x y : List St) (w : World) (hx : Sts n w p c x) (hy : Sts n w q d y) (hm : x.length = m) (hk : y.length = k) :
    Calls Try.prog 24 #[.agg #[.string na, .bool da, .slice p m c], .agg #[.string nb, .bool db, .slice q k d]] w fun e w' => e = .returned (.bool (tEq na da x nb db y)) ∧ Grew w w' := by
  have Hx := Lib.hid hx
  have Hy := Lib.hid hy
  clear hx hy
  obtain ⟨r, hr⟩ : ∃ r, tEq na da x nb db y = r := ⟨_, rfl⟩
  rw [hr]
  unfold tEq at hr
  cases q1 : sq na nb <;> cases da <;> cases db <;> cases q2 : lEq x y
  all_goals
    rw [q1, q2] at hr
    have Hr := Lib.hid hr.symm
    have Q2 := Lib.hid q2
    have q1' := sq_raw q1
    clear hr q1 q2
    go_enter Try.func24, Try.ntmps24
    go_wp2_with (go_at_call 43; apply Calls.mono; (with_reducible exact equalfunc_p n _ _ _ _ _ _ x y _ (Hx.out.grew (stable_st _) (by (repeat (first | exact Grew.refl _ | refine Grew.over ?_ _ | refine Grew.alloc ?_ _ | refine Grew.drew ?_ | refine Grew.drewN ?_ _)))) (Hy.out.grew (stable_st _) (by (repeat (first | exact Grew.refl _ | refine Grew.over ?_ _ | refine Grew.alloc ?_ _ | refine Grew.drew ?_ | refine Grew.drewN ?_ _)))) hm hk); rw [Q2.out]; rintro e w3 ⟨rfl, x3, rfl⟩)
    go_ret
    exact ⟨ret_bool Hr.out.symm, by (repeat (first | exact Grew.refl _ | refine Grew.over ?_ _ | refine Grew.alloc ?_ _ | refine Grew.drew ?_ | refine Grew.drewN ?_ _))⟩
end Go.Proofs.Ytbamckfjikpjlaa
