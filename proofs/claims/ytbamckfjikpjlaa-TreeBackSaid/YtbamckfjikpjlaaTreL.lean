/- Valid of the reference. -/
import Derived.Test.YtbamckfjikpjlaaTreK
set_option linter.unusedSimpArgs false
set_option linter.unusedVariables false
namespace Go.Proofs.Ytbamckfjikpjlaa
open Go.RowKit
attribute [local go_sem ↓] Go.wp_at_zero Go.wp_at_succ

theorem fst0_at {F : List (St × Nat)} {i : Nat} {x : St × Nat} {r : Int} (hx : F[i]? = some x) (h : ∀ (j : Nat) y, j < i → F[j]? = some y → stE y = 0) (hr : stE x = r) (h0 : r ≠ 0) : fst0 (F.map stE) = r := by
  rw [fst0_map_hit hx h (by rw [hr]; exact h0), hr]
set_option maxHeartbeats 2000000 in
theorem valid_r (name : ByteArray) (dir : Bool) (p : Option Addr) (n cap : Nat) (l : List St) (w : World) (hS : Sts 20 w p cap l) (hn : l.length = n) (hc : cntL l ≤ 600) (hd : depL l ≤ 20) :
    Calls Try.prog 21 #[.agg #[.string name, .bool dir, .slice p n cap]] w fun e w' => e = .returned (.int .i64 (vlE name l)) ∧ Grew w w' := by
  have HS := Lib.hid hS
  have Hlv := Lib.hid (pre_lv l 0)
  clear hS
  obtain ⟨r, hr⟩ : ∃ r, vlE name l = r := ⟨_, rfl⟩
  have Hr := Lib.hid hr
  rw [hr]
  clear hr
  cases hnb : nameB name
  · have H := Lib.hid (Hr.out.symm.trans (if_pos hnb))
    have Hnb := Lib.hid hnb
    clear hnb
    go_enter Try.func21, Try.ntmps21
    go_wp2_with (go_at_call 35; apply Calls.mono; (with_reducible exact name_e Hnb.out); rintro e w' ⟨rfl, rfl⟩)
    go_ret
    exact ⟨ret_int H.out.symm, by (repeat (first | exact Grew.refl _ | refine Grew.over ?_ _ | refine Grew.alloc ?_ _ | refine Grew.drew ?_ | refine Grew.drewN ?_ _))⟩
  have Hnb := Lib.hid hnb
  clear hnb
  by_cases h512 : cntL l ≤ 512
  case neg =>
    have H := Lib.hid (Hr.out.symm.trans ((if_neg (by rw [Hnb.out]; simp)).trans (if_pos (by omega))))
    go_enter Try.func21, Try.ntmps21
    go_wp2_with (first
      | (go_at_call 35; apply Calls.mono; (with_reducible exact name_e Hnb.out); rintro e w' ⟨rfl, rfl⟩)
      | (go_at_call 30; apply Calls.mono; (with_reducible exact preorder_0 _ _ _ l w _ HS.out hn hc (by (repeat (first | exact Grew.refl _ | refine Grew.over ?_ _ | refine Grew.alloc ?_ _ | refine Grew.drew ?_ | refine Grew.drewN ?_ _)))); rintro e w3 ⟨⟨q, c, rfl, hs3, -⟩, hg3⟩; have Hg3 := Lib.hid (show Grew w w3 from Grew.trans (by (repeat (first | exact Grew.refl _ | refine Grew.over ?_ _ | refine Grew.alloc ?_ _ | refine Grew.drew ?_ | refine Grew.drewN ?_ _))) hg3); clear hg3 hs3))
    go_ret
    exact ⟨ret_int H.out.symm, Hg3.out⟩
  have Hr' := Lib.hid (Hr.out.symm.trans ((if_neg (by rw [Hnb.out]; simp)).trans (if_neg (by omega))))
  have hp := fun W hg => preorder_0 p n cap l w W HS.out hn hc hg
  have hF := cnt_pre l 0
  obtain ⟨F, hFF⟩ : ∃ F, pre l 0 = F := ⟨_, rfl⟩
  rw [hFF] at Hr' hF Hlv
  simp only [hFF, ← hF] at hp
  have Hp := Lib.hid hp
  have h512' : F.length ≤ 512 := by omega
  clear hp hFF
  go_enter Try.func21, Try.ntmps21
  go_wp2_with (first
    | (go_at_call 35; apply Calls.mono; (with_reducible exact name_e Hnb.out); rintro e w' ⟨rfl, rfl⟩)
    | (go_at_call 30; apply Calls.mono; (with_reducible exact Hp.out _ (by (repeat (first | exact Grew.refl _ | refine Grew.over ?_ _ | refine Grew.alloc ?_ _ | refine Grew.drew ?_ | refine Grew.drewN ?_ _)))); rintro e w3 ⟨⟨q, c, rfl, hs3, -⟩, hg3⟩; have Hg3 := Lib.hid (show Grew w w3 from Grew.trans (by (repeat (first | exact Grew.refl _ | refine Grew.over ?_ _ | refine Grew.alloc ?_ _ | refine Grew.drew ?_ | refine Grew.drewN ?_ _))) hg3); have Hs3 := Lib.hid hs3; clear hg3 hs3))
  go_loopw [4] (fun i wr => ∃ k : Nat, k ≤ F.length ∧ i = .int .i64 k ∧ (∀ (j : Nat) y, j < k → F[j]? = some y → stE y = 0) ∧ Grew w3 wr) (fun i _ => F.length - (intOf i).toNat)
  case atStart => exact ⟨0, Nat.zero_le _, rfl, fun j y hj => by omega, by (repeat (first | exact Grew.refl _ | refine Grew.over ?_ _ | refine Grew.alloc ?_ _ | refine Grew.drew ?_ | refine Grew.drewN ?_ _))⟩
  case round =>
    obtain ⟨k, hk, rfl, hall, hg⟩ := hrel
    have Hall := Lib.hid hall
    have Hg := Lib.hid hg
    have Hg4 := Lib.hid (Hg3.out.trans hg)
    clear hall hg
    by_cases hlt : k < F.length
    · obtain ⟨b, o, kd, nm, rs, ats, bd, lv, rp, rc, ap, ac, bp, bc, m', rfl, hx, -, -, hC, c5, hR, hA, -⟩ := fl_el (SlAt.grew (fun _ _ _ _ _ h => h) Hs3.out Hg.out) hlt
      have hle : lv ≤ 1000 := by have := Hlv.out _ (List.mem_of_getElem? hx); dsimp only at this; have hd := hd; omega
      obtain ⟨hb, c0, c1, c2, c3, c4⟩ := hC
      obtain ⟨v, hv⟩ : ∃ v, ckE kd nm rs ats bd.length lv = v := ⟨_, rfl⟩
      have Hv := Lib.hid hv
      have Hst := Lib.hid (show stE (.mk kd nm rs ats bd, lv) = v from hv)
      have HR := Lib.hid hR
      have HA := Lib.hid hA
      have Hx := Lib.hid hx
      clear hx hv hR hA
      by_cases h0 : v = 0
      · subst h0
        go_wp2_with (go_at_call 42; apply Calls.mono; (with_reducible exact statement_r kd nm _ _ _ _ _ _ _ _ _ lv rs ats _ (HR.out.grew stable_p2 (Hg4.out.trans (by (repeat (first | exact Grew.refl _ | refine Grew.over ?_ _ | refine Grew.alloc ?_ _ | refine Grew.drew ?_ | refine Grew.drewN ?_ _))))) rfl (HA.out.grew stable_p2 (Hg4.out.trans (by (repeat (first | exact Grew.refl _ | refine Grew.over ?_ _ | refine Grew.alloc ?_ _ | refine Grew.drew ?_ | refine Grew.drewN ?_ _))))) rfl hle); rw [Hv.out]; rintro e w5 ⟨rfl, hg5⟩; have Hg5 := Lib.hid (Hg.out.trans (Grew.trans (by (repeat (first | exact Grew.refl _ | refine Grew.over ?_ _ | refine Grew.alloc ?_ _ | refine Grew.drew ?_ | refine Grew.drewN ?_ _))) hg5)); clear hg5)
        go_roundw
        case rel => exact ⟨k + 1, hlt, by go_num, fun j y hj hy => (by
          rcases Nat.lt_succ_iff_lt_or_eq.1 hj with h' | h'
          · exact Hall.out j y h' hy
          · rw [h', Hx.out] at hy; cases hy; exact Hst.out), Hg5.out⟩
        case measure => simp [intOf]; omega
      · have H := Lib.hid (Hr'.out.trans (fst0_at Hx.out Hall.out Hst.out h0))
        go_wp2_with (go_at_call 42; apply Calls.mono; (with_reducible exact statement_r kd nm _ _ _ _ _ _ _ _ _ lv rs ats _ (HR.out.grew stable_p2 (Hg4.out.trans (by (repeat (first | exact Grew.refl _ | refine Grew.over ?_ _ | refine Grew.alloc ?_ _ | refine Grew.drew ?_ | refine Grew.drewN ?_ _))))) rfl (HA.out.grew stable_p2 (Hg4.out.trans (by (repeat (first | exact Grew.refl _ | refine Grew.over ?_ _ | refine Grew.alloc ?_ _ | refine Grew.drew ?_ | refine Grew.drewN ?_ _))))) rfl hle); rw [Hv.out]; rintro e w5 ⟨rfl, hg5⟩; have Hg5 := Lib.hid (Hg3.out.trans (Hg.out.trans (Grew.trans (by (repeat (first | exact Grew.refl _ | refine Grew.over ?_ _ | refine Grew.alloc ?_ _ | refine Grew.drew ?_ | refine Grew.drewN ?_ _))) hg5))); clear hg5)
        go_ret
        exact ⟨ret_int H.out.symm, Hg5.out⟩
    · have H := Lib.hid (Hr'.out.trans (fst0_map_miss fun j y hy => Hall.out j y (by have := (List.getElem?_eq_some_iff.1 hy).1; omega) hy))
      go_wp2
      go_ret
      exact ⟨ret_int H.out.symm, Hg4.out.trans (by (repeat (first | exact Grew.refl _ | refine Grew.over ?_ _ | refine Grew.alloc ?_ _ | refine Grew.drew ?_ | refine Grew.drewN ?_ _)))⟩
end Go.Proofs.Ytbamckfjikpjlaa
