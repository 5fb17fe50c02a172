/- TreeRenames. -/
import Derived.Test.YtbamckfjikpjlaaTreZ
set_option linter.unusedSimpArgs false
set_option linter.unusedVariables false
namespace Go.Proofs.Ytbamckfjikpjlaa
open Go.RowKit
attribute [local go_sem ↓] Go.wp_at_zero Go.wp_at_succ

/-- The parts of a renaming's answer. -/
def rnN (name : ByteArray) (l : List St) (f t : ByteArray) : ByteArray := if rnE name l f t = 0 then name else ⟨#[]⟩
def rnD (name : ByteArray) (dir : Bool) (l : List St) (f t : ByteArray) : Bool := decide (rnE name l f t = 0) && dir
theorem renamep_e {name : ByteArray} {dir : Bool} {p : Option Addr} {n cap : Nat} {l : List St} {f t : ByteArray} {w0 w : World} {r : Int} {nr : ByteArray} {dr : Bool} {Lr : List St} (hr : rnE name l f t = r) (hnr : rnN name l f t = nr) (hdr : rnD name dir l f t = dr) (hL : rnL name l f t = Lr)
    (hS : Sts 20 w0 p cap l) (hg : Grew w0 w) (hn : l.length = n) (hc : cntL l ≤ 600) (hsm : smL l) (ht : t.size ≤ maxLen) :
    Calls Try.prog 15 #[.agg #[.string name, .bool dir, .slice p n cap], .string f, .string t] w fun e w' => (∃ q c, e = .returned (.tuple #[.agg #[.string nr, .bool dr, .slice q Lr.length c], .int .i64 r]) ∧ Sts 20 w' q c Lr) ∧ Grew w w' := by
  subst hr hnr hdr hL
  exact rename_p name dir p n cap l f t w (hS.grew (stable_st _) hg) hn hc hsm ht
theorem renamer_e {name : ByteArray} {dir : Bool} {p : Option Addr} {n cap : Nat} {l : List St} {f t : ByteArray} {w0 w : World} {r : Int} {nr : ByteArray} {dr : Bool} {Lr : List St} (hr : rnE name l f t = r) (hnr : rnN name l f t = nr) (hdr : rnD name dir l f t = dr) (hL : rnL name l f t = Lr)
    (hS : Sts 20 w0 p cap l) (hg : Grew w0 w) (hn : l.length = n) (hc : cntL l ≤ 600) (hd : depL l ≤ 20) (hsm : smL l) (ht : t.size ≤ maxLen) :
    Calls Try.prog 16 #[.agg #[.string name, .bool dir, .slice p n cap], .string f, .string t] w fun e w' => (∃ q c, e = .returned (.tuple #[.agg #[.string nr, .bool dr, .slice q Lr.length c], .int .i64 r]) ∧ Sts 20 w' q c Lr) ∧ Grew w w' := by
  subst hr hnr hdr hL
  exact rename_r name dir p n cap l f t w (hS.grew (stable_st _) hg) hn hc hd hsm ht
theorem same_yy {p q : Option Addr} {c d : Nat} {x : List ByteArray} {w : World} (hx : Strs w p c x) (hy : Strs w q d x) :
    Calls Try.prog 10 #[.slice p x.length c, .slice q x.length d] w fun e w' => e = .returned (.bool true) ∧ Grew w w' := same_y hx hy rfl rfl
theorem Equalr_s {na : ByteArray} {da : Bool} {p q : Option Addr} {c d : Nat} {x : List St} {w0 w1 w : World} (hx : Sts 20 w0 p c x) (hy : Sts 20 w1 q d x) (hg : Grew w0 w) (hg' : Grew w1 w) :
    Calls Try.prog 17 #[.agg #[.string na, .bool da, .slice p x.length c], .agg #[.string na, .bool da, .slice q x.length d]] w fun e w' => e = .returned (.bool true) ∧ Grew w w' :=
  Equalr_e (tEq_self na da x) (hx.grew (stable_st _) hg) (hy.grew (stable_st _) hg') (Grew.refl _) rfl rfl

set_option maxHeartbeats 4000000 in
theorem renames_l (N : Nat) (name : ByteArray) (dir : Bool) (p : Option Addr) (n cap : Nat) (l : List St) (f t : ByteArray) (w : World) (hS : Sts N w p cap l) (hn : l.length = n) :
    Calls Try.prog 4 #[.agg #[.string name, .bool dir, .slice p n cap], .string f, .string t] w fun e w' => e = .returned (.bool true) ∧ Grew w w' := by
  have HS := Lib.hid hS
  clear hS
  have Hfew := Lib.hid (fun W (hW : Grew w W) => few_p name dir p n cap l N W (HS.out.grew (stable_st _) hW) hn)
  by_cases hft : f.size ≤ 100 ∧ t.size ≤ 100
  case neg =>
    have hft' : (f.size ≤ 100 ∧ 100 < t.size) ∨ 100 < f.size := by omega
    clear hft
    rcases hft' with ⟨hf1, hf2⟩ | hf1
    all_goals
      go_enter Try.func4, Try.ntmps4
      go_wp2_with (first
        | (go_at_call 8; apply Calls.mono; (with_reducible exact Hfew.out _ (by (repeat (first | exact Grew.refl _ | refine Grew.over ?_ _ | refine Grew.alloc ?_ _ | refine Grew.drew ?_ | refine Grew.drewN ?_ _)))); rintro e w1 ⟨⟨b, rfl, hbb⟩, hg1⟩; have Hg1 := Lib.hid (show Grew w w1 from Grew.trans (by (repeat (first | exact Grew.refl _ | refine Grew.over ?_ _ | refine Grew.alloc ?_ _ | refine Grew.drew ?_ | refine Grew.drewN ?_ _))) hg1); clear hg1; rcases hbb with rfl | ⟨rfl, h1, h2, h3⟩)
        | (go_at_call 9; apply Calls.mono; (with_reducible exact awake_l _); rintro e w2 ⟨rfl, hg2⟩; have Hg1 := Lib.hid (Hg1.out.trans (Grew.trans (by (repeat (first | exact Grew.refl _ | refine Grew.over ?_ _ | refine Grew.alloc ?_ _ | refine Grew.drew ?_ | refine Grew.drewN ?_ _))) hg2)); clear hg2))
      all_goals
        go_ret
        exact ⟨rfl, Hg1.out⟩
  obtain ⟨hf1, hf2⟩ := hft
  have htm : t.size ≤ maxLen := by unfold maxLen; omega
  obtain ⟨r, hr⟩ : ∃ r, rnE name l f t = r := ⟨_, rfl⟩
  obtain ⟨nr, hnr⟩ : ∃ r, rnN name l f t = r := ⟨_, rfl⟩
  obtain ⟨dr, hdr⟩ : ∃ r, rnD name dir l f t = r := ⟨_, rfl⟩
  obtain ⟨Lr, hL⟩ : ∃ r, rnL name l f t = r := ⟨_, rfl⟩
  obtain ⟨NS, hNS⟩ : ∃ r, namesL name l = r := ⟨_, rfl⟩
  have Hr := Lib.hid hr
  have Hnr := Lib.hid hnr
  have Hdr := Lib.hid hdr
  have HL := Lib.hid hL
  have HNS := Lib.hid hNS
  clear hr hnr hdr hL hNS
  go_enter Try.func4, Try.ntmps4
  go_wp2_with (first
    | (go_at_call 8; apply Calls.mono; (with_reducible exact Hfew.out _ (by (repeat (first | exact Grew.refl _ | refine Grew.over ?_ _ | refine Grew.alloc ?_ _ | refine Grew.drew ?_ | refine Grew.drewN ?_ _)))); rintro e w1 ⟨⟨b, rfl, hbb⟩, hg1⟩; have Hg1 := Lib.hid (show Grew w w1 from Grew.trans (by (repeat (first | exact Grew.refl _ | refine Grew.over ?_ _ | refine Grew.alloc ?_ _ | refine Grew.drew ?_ | refine Grew.drewN ?_ _))) hg1); have Ha := Lib.hid ((T3.box w (.string name) (.bool dir) (.slice p n cap) 24).grew hg1); obtain ⟨a0, a1, a2, a3⟩ := Ha.out; clear hg1; rcases hbb with rfl | ⟨rfl, h1, h2, h3⟩)
    | (go_at_call 9; apply Calls.mono; (with_reducible exact awake_l _); rintro e w2 ⟨rfl, hg2⟩; have Hg1 := Lib.hid (Hg1.out.trans (Grew.trans (by (repeat (first | exact Grew.refl _ | refine Grew.over ?_ _ | refine Grew.alloc ?_ _ | refine Grew.drew ?_ | refine Grew.drewN ?_ _))) hg2)); clear hg2)
    | (go_at_call 15; apply Calls.mono; (with_reducible exact renamep_e Hr.out Hnr.out Hdr.out HL.out (Sts.dep HS.out h2) Hg1.out hn h1 h3 htm); rintro e w3 ⟨⟨q3, c3, rfl, hs3⟩, hg2⟩; have Hg1 := Lib.hid (Hg1.out.trans (Grew.trans (by (repeat (first | exact Grew.refl _ | refine Grew.over ?_ _ | refine Grew.alloc ?_ _ | refine Grew.drew ?_ | refine Grew.drewN ?_ _))) hg2)); have Ha := Lib.hid (Ha.out.grew (Grew.trans (by (repeat (first | exact Grew.refl _ | refine Grew.over ?_ _ | refine Grew.alloc ?_ _ | refine Grew.drew ?_ | refine Grew.drewN ?_ _))) hg2)); obtain ⟨a0, a1, a2, a3⟩ := Ha.out; have HsB := Lib.hid (HsB.out.grew stable_str (Grew.trans (by (repeat (first | exact Grew.refl _ | refine Grew.over ?_ _ | refine Grew.alloc ?_ _ | refine Grew.drew ?_ | refine Grew.drewN ?_ _))) hg2)); have Hs3 := Lib.hid hs3; clear hg2 hs3)
    | (go_at_call 16; apply Calls.mono; (with_reducible exact renamer_e Hr.out Hnr.out Hdr.out HL.out (Sts.dep HS.out h2) (Hg1.out.trans (by (repeat (first | exact Grew.refl _ | refine Grew.over ?_ _ | refine Grew.alloc ?_ _ | refine Grew.drew ?_ | refine Grew.drewN ?_ _)))) hn h1 h2 h3 htm); rintro e w4 ⟨⟨q4, c4, rfl, hs4⟩, hg2⟩; have Hg1 := Lib.hid (Hg1.out.trans (Grew.trans (by (repeat (first | exact Grew.refl _ | refine Grew.over ?_ _ | refine Grew.alloc ?_ _ | refine Grew.drew ?_ | refine Grew.drewN ?_ _))) hg2)); have Ha := Lib.hid (Ha.out.grew (Grew.trans (by (repeat (first | exact Grew.refl _ | refine Grew.over ?_ _ | refine Grew.alloc ?_ _ | refine Grew.drew ?_ | refine Grew.drewN ?_ _))) hg2)); obtain ⟨a0, a1, a2, a3⟩ := Ha.out; have HsB := Lib.hid (HsB.out.grew stable_str (Grew.trans (by (repeat (first | exact Grew.refl _ | refine Grew.over ?_ _ | refine Grew.alloc ?_ _ | refine Grew.drew ?_ | refine Grew.drewN ?_ _))) hg2)); have Hu := Lib.hid ((T3.box w3 (.string nr) (.bool dr) (.slice q3 Lr.length c3) 24).grew hg2); obtain ⟨b0, b1, b2, b3⟩ := Hu.out; have Hg34 := Lib.hid (show Grew w3 w4 from Grew.trans (by (repeat (first | exact Grew.refl _ | refine Grew.over ?_ _ | refine Grew.alloc ?_ _ | refine Grew.drew ?_ | refine Grew.drewN ?_ _))) hg2); have Hs4 := Lib.hid hs4; clear hg2 hs4)
    | (go_at_call 17; apply Calls.mono; (with_reducible exact Equalr_s Hs3.out Hs4.out (Hg34.out.trans (by (repeat (first | exact Grew.refl _ | refine Grew.over ?_ _ | refine Grew.alloc ?_ _ | refine Grew.drew ?_ | refine Grew.drewN ?_ _)))) (by (repeat (first | exact Grew.refl _ | refine Grew.over ?_ _ | refine Grew.alloc ?_ _ | refine Grew.drew ?_ | refine Grew.drewN ?_ _)))); rintro e w5 ⟨rfl, hg2⟩; have Hg1 := Lib.hid (Hg1.out.trans (Grew.trans (by (repeat (first | exact Grew.refl _ | refine Grew.over ?_ _ | refine Grew.alloc ?_ _ | refine Grew.drew ?_ | refine Grew.drewN ?_ _))) hg2)); have Ha := Lib.hid (Ha.out.grew (Grew.trans (by (repeat (first | exact Grew.refl _ | refine Grew.over ?_ _ | refine Grew.alloc ?_ _ | refine Grew.drew ?_ | refine Grew.drewN ?_ _))) hg2)); obtain ⟨a0, a1, a2, a3⟩ := Ha.out; have HsB := Lib.hid (HsB.out.grew stable_str (Grew.trans (by (repeat (first | exact Grew.refl _ | refine Grew.over ?_ _ | refine Grew.alloc ?_ _ | refine Grew.drew ?_ | refine Grew.drewN ?_ _))) hg2)); clear hg2)
    | (go_at_call 12; apply Calls.mono; (with_reducible exact namesr_e HNS.out (Sts.dep HS.out h2) Hg1.out hn h1 h2 h3); rintro e w6 ⟨⟨qB, cB, rfl, hsB⟩, hg2⟩; have Hg1 := Lib.hid (Hg1.out.trans (Grew.trans (by (repeat (first | exact Grew.refl _ | refine Grew.over ?_ _ | refine Grew.alloc ?_ _ | refine Grew.drew ?_ | refine Grew.drewN ?_ _))) hg2)); have Ha := Lib.hid (Ha.out.grew (Grew.trans (by (repeat (first | exact Grew.refl _ | refine Grew.over ?_ _ | refine Grew.alloc ?_ _ | refine Grew.drew ?_ | refine Grew.drewN ?_ _))) hg2)); obtain ⟨a0, a1, a2, a3⟩ := Ha.out; first | (have HsO := Lib.hid (HsB.out.grew stable_str (Grew.trans (by (repeat (first | exact Grew.refl _ | refine Grew.over ?_ _ | refine Grew.alloc ?_ _ | refine Grew.drew ?_ | refine Grew.drewN ?_ _))) hg2)); have HsB := Lib.hid hsB) | (have HsB := Lib.hid hsB); clear hg2 hsB)
    | (go_at_call 10; apply Calls.mono; (with_reducible exact same_yy HsB.out HsO.out); rintro e w7 ⟨rfl, hg2⟩; have Hg1 := Lib.hid (Hg1.out.trans (Grew.trans (by (repeat (first | exact Grew.refl _ | refine Grew.over ?_ _ | refine Grew.alloc ?_ _ | refine Grew.drew ?_ | refine Grew.drewN ?_ _))) hg2)); clear hg2))
  all_goals
    go_ret
    exact ⟨rfl, Hg1.out⟩
end Go.Proofs.Ytbamckfjikpjlaa
