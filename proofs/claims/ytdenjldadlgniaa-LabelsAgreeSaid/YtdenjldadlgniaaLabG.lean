/- fits and Check of the reference. -/
import Derived.Test.YtdenjldadlgniaaLabF
set_option linter.unusedSimpArgs false
set_option linter.unusedVariables false
namespace Go.Proofs.Ytdenjldadlgniaa
open Go.RowKit
attribute [local go_sem ↓] Go.wp_at_zero Go.wp_at_succ

/-- Candidates and a choice of the labels before n whose numbers are in range. -/
structure Rng (m : List (List Bx)) (xs : List Int) : Prop where
  le : xs.length ≤ m.length
  lt : ∀ i, i < xs.length → 0 ≤ ge xs i ∧ ge xs i < ((bRow m i).length : Int)
def fitB (m : List (List Bx)) (xs : List Int) (k : Nat) : Bool := frB (chF (fun i => bxAt m i (ge xs i).toNat) xs.length) (bxAt m xs.length k)
theorem fitB_no {m : List (List Bx)} {xs : List Int} {k j : Nat} (hj : j < xs.length) (h : ovB (bxAt m j (ge xs j).toNat) (bxAt m xs.length k) = true) : fitB m xs k = false := by
  cases e : fitB m xs k
  · rfl
  · have := frB_true.1 e j hj
    rw [h] at this; cases this
set_option maxHeartbeats 8000000 in
theorem fits_r (p q : Option Addr) (n l cp cq k : Nat) (m : List (List Bx)) (xs : List Int) (w : World) (hM : BMat w p m) (hx : Ints w q xs) (hn : m.length = n) (hl : xs.length = l) (h8 : m.length ≤ 8) (hR : Rng m xs) (hlt : xs.length < m.length) (hk : k < (bRow m xs.length).length) (h16 : ∀ u, u < m.length → (bRow m u).length ≤ 16) :
    Calls Try.prog 29 #[.slice p n cp, .slice q l cq, .int .i64 k] w fun e w' => e = .returned (.bool (fitB m xs k)) ∧ Grew w w' := by
  subst hn hl
  have HM := Lib.hid hM
  have HX := Lib.hid hx
  have HR := Lib.hid hR
  have H16 := Lib.hid h16
  have hk16 : k < 16 := by have := h16 _ hlt; omega
  have hlen : xs.length < m.length := hlt
  obtain ⟨b, o, rp, rc, hpe, hb, c0, hRow⟩ := hM.row1 hlt
  subst hpe
  obtain ⟨_, bb, oo, h3, h4⟩ := hRow
  obtain ⟨rfl, hbb⟩ := h3 (by omega)
  obtain ⟨k1, k2, k3, k4⟩ := h4 k hk
  clear h3 h4
  obtain ⟨⟨xa, xb, xc, xd⟩, hbe⟩ : ∃ b, bK (bRow m xs.length) k = b := ⟨_, rfl⟩
  rw [hbe] at k1 k2 k3 k4
  dsimp only at k1 k2 k3 k4
  have Hbe := Lib.hid hbe
  obtain ⟨L, hLe⟩ : ∃ L, (bRow m xs.length).length = L := ⟨_, rfl⟩
  rw [hLe] at c0 hk
  have hL16 : L ≤ 16 := by rw [← hLe]; exact h16 _ hlt
  clear hbe hLe hM hx hR h16
  go_enter Try.func29, Try.ntmps29
  go_wp2
  go_loopw [8] (fun i wr => ∃ j : Nat, j ≤ xs.length ∧ i = .int .i64 j ∧ (∀ t, t < j → ovB (bxAt m t (ge xs t).toNat) (bxAt m xs.length k) = false) ∧ Grew w wr) (fun i _ => xs.length - (intOf i).toNat)
  case atStart => exact ⟨0, Nat.zero_le _, rfl, fun t ht => by omega, by (repeat (first | exact Grew.refl _ | refine Grew.over ?_ _ | refine Grew.alloc ?_ _ | refine Grew.drew ?_ | refine Grew.drewN ?_ _))⟩
  case round =>
    obtain ⟨j, hj, rfl, hall, y, rfl⟩ := hrel
    have Hall := Lib.hid hall
    clear hall
    by_cases hjl : j < xs.length
    · obtain ⟨bx, ox, h1, c1⟩ := HX.out.open
      obtain ⟨rfl, g1⟩ := h1 (by omega)
      have d1 := c1 j hjl
      clear h1 c1
      obtain ⟨b2, o2, rp2, rc2, e2, hb2, c2, hR2⟩ := HM.out.row1 (u := j) (by omega)
      obtain ⟨rfl, rfl⟩ : b = b2 ∧ o = o2 := by cases e2; exact ⟨rfl, rfl⟩
      clear e2
      obtain ⟨r1, r2⟩ := HR.out.lt j hjl
      have hl16 := H16.out j (by omega)
      obtain ⟨X, hXe⟩ : ∃ X : Nat, ge xs j = (X : Int) := ⟨(ge xs j).toNat, by omega⟩
      rw [hXe] at d1 r1 r2
      have Hno : Hid (ovB (bK (bRow m j) X) (bK (bRow m xs.length) k) = true → fitB m xs k = false) := Lib.hid (fun h => fitB_no hjl (by rw [hXe]; exact h))
      have Hyes : Hid (ovB (bK (bRow m j) X) (bK (bRow m xs.length) k) = false → ovB (bxAt m j (ge xs j).toNat) (bxAt m xs.length k) = false) := Lib.hid (fun h => by rw [hXe]; exact h)
      obtain ⟨_, bb2, oo2, h3, h4⟩ := hR2
      obtain ⟨rfl, hbb2⟩ := h3 (by omega)
      obtain ⟨q1, q2, q3, q4⟩ := h4 X (by omega)
      clear h3 h4 hXe
      obtain ⟨⟨ya, yb, yc, yd⟩, hbe⟩ : ∃ b, bK (bRow m j) X = b := ⟨_, rfl⟩
      rw [hbe] at q1 q2 q3 q4
      rw [hbe, Hbe.out] at Hno Hyes
      dsimp only at q1 q2 q3 q4
      clear hbe
      obtain ⟨L2, hLe⟩ : ∃ L, (bRow m j).length = L := ⟨_, rfl⟩
      rw [hLe] at c2 hl16 r2
      clear hLe
      have hX : X < L2 := by omega
      obtain ⟨r, hr⟩ : ∃ r, ovB ⟨ya, yb, yc, yd⟩ ⟨xa, xb, xc, xd⟩ = r := ⟨_, rfl⟩
      have Hr := Lib.hid hr
      clear hr
      cases r
      · have Hf := Lib.hid (Hyes.out Hr.out)
        go_wp2
        refine wp_region_over (by kernel_rfl) (by kernel_rfl) ?_; (repeat (go_big_quiet_step ((go_at_call 42; apply over_call; with_reducible exact over_r_e Hr.out)))); refine wpQuiet_nil ?_; rintro _ ⟨x, rfl⟩
        go_wp2
        go_roundw
        case rel =>
          refine ⟨j + 1, by omega, by go_num, fun t ht => ?_, by (repeat (first | exact Grew.refl _ | refine Grew.over ?_ _ | refine Grew.alloc ?_ _ | refine Grew.drew ?_ | refine Grew.drewN ?_ _))⟩
          by_cases h : t = j
          · rw [h]; exact Hf.out
          · exact Hall.out t (by omega)
        case measure => simp [intOf]; omega
      · have Hf := Lib.hid (Hno.out Hr.out)
        go_wp2
        refine wp_region_over (by kernel_rfl) (by kernel_rfl) ?_; (repeat (go_big_quiet_step ((go_at_call 42; apply over_call; with_reducible exact over_r_e Hr.out)))); refine wpQuiet_nil ?_; rintro _ ⟨x, rfl⟩
        go_wp2
        go_ret
        exact ⟨ret_bool Hf.out.symm, by (repeat (first | exact Grew.refl _ | refine Grew.over ?_ _ | refine Grew.alloc ?_ _ | refine Grew.drew ?_ | refine Grew.drewN ?_ _))⟩
    · have Hf : Hid (fitB m xs k = true) := Lib.hid (frB_true.2 fun t ht => Hall.out t (by omega))
      go_wp2
      go_ret
      exact ⟨ret_bool Hf.out.symm, by (repeat (first | exact Grew.refl _ | refine Grew.over ?_ _ | refine Grew.alloc ?_ _ | refine Grew.drew ?_ | refine Grew.drewN ?_ _))⟩
theorem fitsr_e {p q : Option Addr} {n l cp cq k : Nat} {m : List (List Bx)} {xs : List Int} {w : World} {r : Bool} (h : fitB m xs k = r) (hM : BMat w p m) (hx : Ints w q xs) (hn : m.length = n) (hl : xs.length = l) (h8 : m.length ≤ 8) (hR : Rng m xs) (hlt : xs.length < m.length) (hk : k < (bRow m xs.length).length) (h16 : ∀ u, u < m.length → (bRow m u).length ≤ 16) :
    Calls Try.prog 29 #[.slice p n cp, .slice q l cq, .int .i64 k] w fun e w' => e = .returned (.bool r) ∧ Grew w w' := h ▸ fits_r p q n l cp cq k m xs w hM hx hn hl h8 hR hlt hk h16
end Go.Proofs.Ytdenjldadlgniaa
