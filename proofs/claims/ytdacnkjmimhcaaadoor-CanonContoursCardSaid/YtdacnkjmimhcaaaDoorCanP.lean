/- CanonContours: the law's walk. -/
import Derived.Test.YtdacnkjmimhcaaaDoorCanN
import Derived.Test.YtdacnkjmimhcaaaDoorCanM
set_option linter.unusedSimpArgs false
set_option linter.unusedVariables false
namespace Go.Proofs.YtdacnkjmimhcaaaDoor
open Go.RowKit
attribute [local go_sem ↓] Go.wp_at_zero Go.wp_at_succ

set_option maxHeartbeats 1000000 in
theorem has14_r (p : Option Addr) (n cap : Nat) (L : List Int) (v : Int) (w : World) (hI : Ints w p L) (hn : L.length = n) :
    Calls Tryd.prog 16 #[.slice p n cap, .int .i64 v] w fun e w' => e = .returned (.bool (decide (v ∈ L))) ∧ w = w' := by
  subst hn
  have hm := hI.1
  have HI := Lib.hid hI
  clear hI
  go_enter Tryd.func16, Tryd.ntmps16
  go_wp2
  go_loop [5] (fun i => ∃ k : Nat, k ≤ L.length ∧ i = .int .i64 k ∧ ∀ j, j < k → ge L j ≠ v) (fun i => L.length - (intOf i).toNat)
  case atStart => exact ⟨0, Nat.zero_le _, rfl, fun j hj => by omega⟩
  case round =>
    obtain ⟨k, hk, rfl, hall⟩ := hrel
    have Hall := Lib.hid hall
    clear hall
    by_cases hlt : k < L.length
    · obtain ⟨b, o, rfl, hb, hc⟩ := HI.out.cells (by omega)
      have c1 := hc w (Grew.refl _) k hlt
      obtain ⟨x, hx⟩ : ∃ x, ge L k = x := ⟨_, rfl⟩
      rw [hx] at c1
      have Hx := Lib.hid hx
      clear hc hx
      by_cases he : x = v
      · subst he
        have Hf := Lib.hid (has_yes hlt Hx.out)
        go_wp2
        go_ret
        exact ⟨by rw [Hf.out]; rfl, rfl⟩
      · have he' : (x == v) = false := beq_eq_false_iff_ne.2 he
        have He := Lib.hid he
        clear he
        go_wp2
        go_round
        case rel => exact ⟨k + 1, by omega, by go_num, fun j hj => by
          by_cases h : j = k
          · rw [h, Hx.out]; exact He.out
          · exact Hall.out j (by omega)⟩
        case measure => (simp [intOf] <;> omega)
    · have Hf := Lib.hid (has_no (v := v) (fun i hi => Hall.out i (by omega)))
      go_wp2
      go_ret
      exact ⟨by rw [Hf.out]; rfl, rfl⟩


theorem cont_yes {N : Int} {pE pA : Option Addr} {nE nA cE cA : Nat} {E : List (Int × Int)} {A : List (List Int)} {pO : Option Addr} {nO cO : Nat} {O : List Int} {w : World} {j k : Nat} {C : List Int} {n : Nat} (h : chkO N E A O = true) (hC : contP N E A O j = some C) (hk : k = j + 2) (hj : (j : Int) + 2 ≤ N) (hn : C.length = n)
    (hR : RotIn w pE pA cE E A) (hL : Lim w) (hO : Ints w pO O) (hO1 : O.length ≤ 30) (hO2 : nO ≤ cO) (hO3 : cO ≤ maxLen) (hnE : E.length = nE) (hnA : A.length = nA) (hnO : O.length = nO) :
    Calls Tryd.prog 9 #[.agg #[.int .i64 N, .slice pE nE cE, .slice pA nA cA], .slice pO nO cO, .int .i64 k] w fun e w' => Grew w w' ∧ ∃ q cap, e = .returned (.tuple #[.slice q n cap, .int .i64 0]) ∧ Ints w' q C ∧ n ≤ cap ∧ cap ≤ maxLen := by
  subst hn hk
  have := contour36_p N pE pA nE nA cE cA E A pO nO cO O ((j + 2 : Nat) : Int) w hR hL hO hO1 hO2 hO3 hnE hnA hnO
  have e : contRes N E A O ((j + 2 : Nat) : Int) = (C, 0) := by
    unfold contRes
    rw [if_neg (by rw [(chkO_iff.1 h).1]; simp), if_neg (by rw [h]; simp), if_neg (by omega), show (((j + 2 : Nat) : Int) - 2).toNat = j by omega, hC]
    rfl
  rw [e] at this
  exact this.mono fun e w' ⟨hg, q, cap, h1, h2, h3, h4⟩ => ⟨hg, q, cap, h1, h2, by omega, h4⟩

set_option maxRecDepth 8000 in
set_option maxHeartbeats 8000000 in
theorem contoursL (N : Int) (pE pA pO : Option Addr) (nE nA nO cE cA cO : Nat) (E : List (Int × Int)) (A : List (List Int)) (O : List Int) (w : World) (hE : Prs w pE E) (hA : Mat w pA A) (c1 : E.length ≤ cE) (c2 : cE ≤ maxLen) (hO : Ints w pO O)
    (c3 : nO ≤ cO) (c4 : cO ≤ maxLen) (hL : Lim w) (hnE : E.length = nE) (hnA : A.length = nA) (hnO : O.length = nO) :
    Calls Tryd.prog 5 #[.agg #[.int .i64 N, .slice pE nE cE, .slice pA nA cA], .slice pO nO cO] w fun e w' => e = .returned (.bool true) ∧ Grew w w' := by
  have HL := Lib.hid hL
  have HO := Lib.hid hO
  have Haw : Hid (∀ W1, Grew w W1 → Calls Tryd.prog 8 #[] W1 fun e w' => e = .returned (.bool true) ∧ Grew W1 w') := Lib.hid (fun W1 h => awake_l W1 (HL.out.grew h))
  obtain ⟨s, hs⟩ : ∃ s, smB N nE nA = s := ⟨_, rfl⟩
  have Hs : Hid (∀ W1, Calls Tryd.prog 7 #[.agg #[.int .i64 N, .slice pE nE cE, .slice pA nA cA]] W1 fun e w' => e = .returned (.bool s) ∧ Grew W1 w') := Lib.hid (fun W1 => small_le hs W1)
  cases s
  case false =>
    clear hs hE hA hO hL
    go_enter Tryd.func5, Tryd.ntmps5
    go_wp2_with (first
      | ((go_at_call 7; apply Calls.mono; (with_reducible exact Hs.out _); rintro e w' ⟨rfl, x, rfl⟩))
      | ((go_at_call 8; apply Calls.mono; (with_reducible exact Haw.out _ (by (repeat (first | exact Grew.refl _ | refine Grew.over ?_ _ | refine Grew.alloc ?_ _ | refine Grew.drew ?_ | refine Grew.drewN ?_ _)))); rintro e w' ⟨rfl, x, rfl⟩)))
    go_ret
    exact ⟨rfl, by (repeat (first | exact Grew.refl _ | refine Grew.over ?_ _ | refine Grew.alloc ?_ _ | refine Grew.drew ?_ | refine Grew.drewN ?_ _))⟩
  case true =>
  have HR := Lib.hid (rot_sm (by rw [hnE, hnA]; exact hs) hE hA c1 c2)
  clear hs hE hA hO hL
  by_cases h30 : 30 < nO
  · have g1 : (30 : Int) < (nO : Int) := by omega
    go_enter Tryd.func5, Tryd.ntmps5
    go_wp2_with (first
      | ((go_at_call 7; apply Calls.mono; (with_reducible exact Hs.out _); rintro e w' ⟨rfl, x, rfl⟩))
      | ((go_at_call 8; apply Calls.mono; (with_reducible exact Haw.out _ (by (repeat (first | exact Grew.refl _ | refine Grew.over ?_ _ | refine Grew.alloc ?_ _ | refine Grew.drew ?_ | refine Grew.drewN ?_ _)))); rintro e w' ⟨rfl, x, rfl⟩)))
    go_ret
    exact ⟨rfl, by (repeat (first | exact Grew.refl _ | refine Grew.over ?_ _ | refine Grew.alloc ?_ _ | refine Grew.drew ?_ | refine Grew.drewN ?_ _))⟩
  have g1 : ¬ (30 : Int) < (nO : Int) := by omega
  obtain ⟨t, ht⟩ : ∃ t, chkO N E A O = t := ⟨_, rfl⟩
  have Hkr : Hid (∀ W1, Grew w W1 → Calls Tryd.prog 12 #[.agg #[.int .i64 N, .slice pE nE cE, .slice pA nA cA], .slice pO nO cO] W1 fun e w' => e = .returned (.bool t) ∧ Grew W1 w') := Lib.hid (fun W1 h => by
    rw [← ht, ← chk_same]
    exact check36_r _ _ _ _ _ _ _ _ _ _ _ _ _ _ (HR.out.grew h) (HO.out.grew h) (by omega) c3 c4 hnE hnA hnO)
  cases t
  case false =>
    clear ht
    go_enter Tryd.func5, Tryd.ntmps5
    go_wp2_with (first
      | ((go_at_call 7; apply Calls.mono; (with_reducible exact Hs.out _); rintro e w' ⟨rfl, x, rfl⟩))
      | ((go_at_call 12; apply Calls.mono; (with_reducible exact Hkr.out _ (by (repeat (first | exact Grew.refl _ | refine Grew.over ?_ _ | refine Grew.alloc ?_ _ | refine Grew.drew ?_ | refine Grew.drewN ?_ _)))); rintro e w' ⟨rfl, x, rfl⟩))
      | ((go_at_call 8; apply Calls.mono; (with_reducible exact Haw.out _ (by (repeat (first | exact Grew.refl _ | refine Grew.over ?_ _ | refine Grew.alloc ?_ _ | refine Grew.drew ?_ | refine Grew.drewN ?_ _)))); rintro e w' ⟨rfl, x, rfl⟩)))
    go_ret
    exact ⟨rfl, by (repeat (first | exact Grew.refl _ | refine Grew.over ?_ _ | refine Grew.alloc ?_ _ | refine Grew.drew ?_ | refine Grew.drewN ?_ _))⟩
  case true =>
  have hch := chkO_iff.1 ht
  have hN3 := trg_three hch.1
  have hNl := hch.2.1
  obtain ⟨n, rfl⟩ : ∃ n : Nat, N = (n : Int) := ⟨N.toNat, by omega⟩
  have hnn : nO = n := by omega
  have Ht := Lib.hid ht
  have HnO := Lib.hid hnO
  have HnE := Lib.hid hnE
  have HnA := Lib.hid hnA
  subst hnn
  clear hch hNl ht hnO hnE hnA
  obtain ⟨bO, oO, rfl, lO, cO'⟩ := HO.out.cells (by rw [HnO.out]; omega)
  have HcO := Lib.hid cO'
  clear cO'
  have Hj : Hid (∀ (u v : Int) W1, Grew w W1 → joinB E u v = true → Calls Tryd.prog 17 #[.agg #[.int .i64 nO, .slice pE nE cE, .slice pA nA cA], .int .i64 u, .int .i64 v] W1 fun e w' => e = .returned (.bool true) ∧ Grew W1 w') := Lib.hid (fun u v W1 h hj => by
    have := joined_r nO pE pA nE nA cE cA E u v W1 (HR.out.hE.grew h) HR.out.e1 HnE.out
    rw [hj] at this
    exact this)
  go_enter Tryd.func5, Tryd.ntmps5
  go_wp2_with (first
    | ((go_at_call 7; apply Calls.mono; (with_reducible exact Hs.out _); rintro e w' ⟨rfl, x, rfl⟩))
    | ((go_at_call 12; apply Calls.mono; (with_reducible exact Hkr.out _ (by (repeat (first | exact Grew.refl _ | refine Grew.over ?_ _ | refine Grew.alloc ?_ _ | refine Grew.drew ?_ | refine Grew.drewN ?_ _)))); rintro e w' ⟨rfl, x, rfl⟩)))
  obtain ⟨wB, hwB⟩ : ∃ wB, w.alloc (.cells #[.int .i64 nO, .slice pE nE cE, .slice pA nA cA] 25) = wB := ⟨_, rfl⟩
  have HwB : Hid (Grew w wB) := Lib.hid (by rw [← hwB]; exact (Grew.refl w).alloc _)
  have Hc0 : Hid (wB.cell? ⟨w.heap.size, 0, none⟩ = some (.int .i64 nO)) := Lib.hid (by rw [← hwB]; simp [go_sem])
  have Hc1 : Hid (wB.cell? ⟨w.heap.size, 1, none⟩ = some (.slice pE nE cE)) := Lib.hid (by rw [← hwB]; simp [go_sem])
  have Hc2 : Hid (wB.cell? ⟨w.heap.size, 2, none⟩ = some (.slice pA nA cA)) := Lib.hid (by rw [← hwB]; simp [go_sem])
  have hsB : wB.heap.size = w.heap.size + 1 := by rw [← hwB]; simp
  rw [hwB]
  clear hwB
  go_loopw [5] (fun kv wr => ∃ k : Nat, 2 ≤ k ∧ k ≤ nO + 1 ∧ kv = .int .i64 k ∧ Grew wB wr) (fun kv _ => nO + 1 - (intOf kv).toNat)
  case atStart => exact ⟨2, Nat.le_refl _, by omega, rfl, by (repeat (first | exact Grew.refl _ | refine Grew.over ?_ _ | refine Grew.alloc ?_ _ | refine Grew.drew ?_ | refine Grew.drewN ?_ _))⟩
  case round =>
    obtain ⟨k, hk2, hk, rfl, hgB⟩ := hrel
    have hszr := hgB.below.size
    rw [hsB] at hszr
    have Hgw : Hid (Grew w wr) := Lib.hid (HwB.out.trans hgB)
    have q0 := hgB.cellEq Hc0.out
    have q1 := hgB.cellEq Hc1.out
    have q2 := hgB.cellEq Hc2.out
    have HgB := Lib.hid hgB
    clear hgB
    by_cases hlt : k ≤ nO
    · obtain ⟨C, hC, hG⟩ := cont_goes Ht.out (j := k - 2) (by omega)
      have HG := Lib.hid hG
      have HC := Lib.hid hC
      obtain ⟨m, hm⟩ : ∃ m, C.length = m := ⟨_, rfl⟩
      have Hm := Lib.hid hm
      have hm2 : 2 ≤ m := by rw [← hm]; exact hG.two
      have hm3 : m ≤ k := by rw [← hm]; have := hG.len; omega
      clear hG hC hm
      obtain ⟨a0, ha0⟩ : ∃ a, ge O 0 = a := ⟨_, rfl⟩
      obtain ⟨a1, ha1⟩ : ∃ a, ge O 1 = a := ⟨_, rfl⟩
      obtain ⟨az, haz⟩ : ∃ a, ge O (k - 1) = a := ⟨_, rfl⟩
      have o0 := HcO.out wr Hgw.out 0 (by rw [HnO.out]; omega)
      have o1 := HcO.out wr Hgw.out 1 (by rw [HnO.out]; omega)
      have oz := HcO.out wr Hgw.out (k - 1) (by rw [HnO.out]; omega)
      rw [ha0, Nat.add_zero] at o0
      rw [ha1] at o1
      rw [haz] at oz
      have Hf : Hid (ge C 0 = a0) := Lib.hid (by rw [HG.out.fst, ha0])
      have Hl : Hid (ge C (m - 1) = a1) := Lib.hid (by rw [← Hm.out, HG.out.lst, ha1])
      have Hh : Hid (decide (az ∈ C) = true) := Lib.hid (decide_eq_true (by rw [← haz, show k - 1 = (k - 2) + 1 by omega]; exact HG.out.has))
      have Hz : Hid (k = nO → m = 3 ∧ ge C 1 = az) := Lib.hid (fun e => by
        have := HG.out.fin (by omega)
        rw [← haz, ← Hm.out, show k - 1 = (k - 2) + 1 by omega]
        exact this)
      have Haz := Lib.hid haz
      clear ha0 ha1 haz
      have hkz : ((k : Int) - 1) = ((k - 1 : Nat) : Int) := by omega
      have hmz : ((m : Int) - 1) = ((m - 1 : Nat) : Int) := by omega
      have hm2b : decide ((m : Int) < 2) = false := decide_eq_false (by omega)
      have hli : (k : Int) ≤ (nO : Int) := by omega
      go_upto_region 7 with (first
        | (go_at_call 9; apply Calls.mono; (with_reducible exact cont_yes Ht.out HC.out (show k = (k - 2) + 2 by omega) (by omega) Hm.out (HR.out.grew (Hgw.out.trans (by (repeat (first | exact Grew.refl _ | refine Grew.over ?_ _ | refine Grew.alloc ?_ _ | refine Grew.drew ?_ | refine Grew.drewN ?_ _))))) (HL.out.grew (Hgw.out.trans (by (repeat (first | exact Grew.refl _ | refine Grew.over ?_ _ | refine Grew.alloc ?_ _ | refine Grew.drew ?_ | refine Grew.drewN ?_ _))))) (HO.out.grew (Hgw.out.trans (by (repeat (first | exact Grew.refl _ | refine Grew.over ?_ _ | refine Grew.alloc ?_ _ | refine Grew.drew ?_ | refine Grew.drewN ?_ _))))) (by rw [HnO.out]; omega) c3 c4 HnE.out HnA.out HnO.out); rintro e w4 ⟨hg4, q4, cap4, rfl, hI4, hd1, hd2⟩; have HI4 := Lib.hid hI4; have Hg4 := Lib.hid ((show Grew wr _ by (repeat (first | exact Grew.refl _ | refine Grew.over ?_ _ | refine Grew.alloc ?_ _ | refine Grew.drew ?_ | refine Grew.drewN ?_ _))).trans hg4); clear hI4 hg4))
      obtain ⟨bC, oC, rfl, lC, cC⟩ := HI4.out.cells (by rw [Hm.out]; omega)
      have HcC := Lib.hid cC
      have hs4 := Hg4.out.below.size
      have p0 := cC _ (Grew.refl _) 0 (by rw [Hm.out]; omega)
      have pl := cC _ (Grew.refl _) (m - 1) (by rw [Hm.out]; omega)
      rw [Hf.out, Nat.add_zero] at p0
      rw [Hl.out] at pl
      have u0 := Hg4.out.cellEq o0
      have u1 := Hg4.out.cellEq o1
      have uz := Hg4.out.cellEq oz
      have r0 := Hg4.out.cellEq q0
      have r1 := Hg4.out.cellEq q1
      have r2 := Hg4.out.cellEq q2
      have Hhs : Hid (∀ W1, Grew w4 W1 → Calls Tryd.prog 16 #[.slice (some ⟨bC, oC, none⟩) m cap4, .int .i64 az] W1 fun e w' => e = .returned (.bool true) ∧ Grew W1 w') := Lib.hid (fun W1 h => by
        rw [← Hh.out]
        exact (has14_r _ _ _ _ _ _ (HI4.out.grew h) Hm.out).mono fun e w' ⟨h1, h2⟩ => ⟨h1, h2 ▸ Grew.refl _⟩)
      clear cC
      refine wp_region_over (by kernel_rfl) (by kernel_rfl) ?_; (repeat (go_big_quiet_step ((go_at_call 16; apply over_call; with_reducible exact Hhs.out _ (by (repeat (first | exact Grew.refl _ | refine Grew.over ?_ _ | refine Grew.alloc ?_ _ | refine Grew.drew ?_ | refine Grew.drewN ?_ _))))))); refine wpQuiet_nil ?_; intro wo hW; replace hW : Grew _ wo := hW
      have HW := Lib.hid hW
      have s0 := hW.cellEq r0
      have s1 := hW.cellEq r1
      have s2 := hW.cellEq r2
      have Hwo : Hid (Grew wB wo) := Lib.hid ((HgB.out.trans Hg4.out).trans hW)
      have hsO := Hwo.out.below.size
      rw [hsB] at hsO
      clear hW u0 u1 uz r0 r1 r2 q0 q1 q2 o0 o1 oz p0 pl
      go_wp2
      go_loopw [8] (fun iv wx => ∃ i : Nat, 1 ≤ i ∧ i ≤ m ∧ iv = .int .i64 i ∧ Grew wo wx) (fun iv _ => m - (intOf iv).toNat)
      case atStart => exact ⟨1, Nat.le_refl _, by omega, rfl, by (repeat (first | exact Grew.refl _ | refine Grew.over ?_ _ | refine Grew.alloc ?_ _ | refine Grew.drew ?_ | refine Grew.drewN ?_ _))⟩
      case round =>
        obtain ⟨i, hi1, hi, rfl, hgi⟩ := hrel
        have hszi := hgi.below.size
        have v0 := hgi.cellEq s0
        have v1 := hgi.cellEq s1
        have v2 := hgi.cellEq s2
        have Hgi := Lib.hid hgi
        have Hgx : Hid (Grew w wr) := Lib.hid ((HwB.out.trans Hwo.out).trans hgi)
        have hsw := HW.out.below.size
        clear hgi s0 s1 s2
        by_cases hlm : i < m
        · obtain ⟨x, hx⟩ : ∃ x, ge C i = x := ⟨_, rfl⟩
          obtain ⟨y, hy⟩ : ∃ y, ge C (i - 1) = y := ⟨_, rfl⟩
          have p0 := HcC.out wr (HW.out.trans Hgi.out) i (by rw [Hm.out]; omega)
          have p1 := HcC.out wr (HW.out.trans Hgi.out) (i - 1) (by rw [Hm.out]; omega)
          rw [hx] at p0
          rw [hy] at p1
          have HT := Lib.hid (HI4.out.cut (k := i) (by rw [Hm.out]; omega))
          have Hn : Hid (∀ W1, Grew wr W1 → Calls Tryd.prog 16 #[.slice (some ⟨bC, oC, none⟩) i cap4, .int .i64 x] W1 fun e w' => e = .returned (.bool false) ∧ Grew W1 w') := Lib.hid (fun W1 h => by
            have := has14_r _ _ cap4 _ x _ (HT.out.grew ((HW.out.trans Hgi.out).trans h)) (by rw [List.length_take, Hm.out]; omega : (C.take i).length = i)
            rw [decide_eq_false (by rw [← hx]; exact goes_new HG.out (by rw [Hm.out]; omega))] at this
            exact this.mono fun e w' ⟨h1, h2⟩ => ⟨h1, h2 ▸ Grew.refl _⟩)
          have HJ : Hid (joinB E y x = true) := Lib.hid (by
            have := HG.out.adj (i - 1) (by rw [Hm.out]; omega)
            rw [hy, show i - 1 + 1 = i by omega, hx] at this
            exact this)
          clear hx hy
          have hiz : ((i : Int) - 1) = ((i - 1 : Nat) : Int) := by omega
          have hli2 : (i : Int) < (m : Int) := by omega
          go_upto_region 12 with fail
          refine wp_region_over (by kernel_rfl) (by kernel_rfl) ?_; (repeat (go_big_quiet_step (first
                      | ((go_at_call 16; apply over_call; with_reducible exact Hn.out _ (by (repeat (first | exact Grew.refl _ | refine Grew.over ?_ _ | refine Grew.alloc ?_ _ | refine Grew.drew ?_ | refine Grew.drewN ?_ _)))))
                      | ((go_at_call 17; apply over_call; with_reducible exact Hj.out _ _ _ (Hgx.out.trans (by (repeat (first | exact Grew.refl _ | refine Grew.over ?_ _ | refine Grew.alloc ?_ _ | refine Grew.drew ?_ | refine Grew.drewN ?_ _)))) HJ.out))))); refine wpQuiet_nil ?_; intro wy hW; replace hW : Grew _ wy := hW
          have HY := Lib.hid hW
          clear hW
          go_wp2
          go_roundw
          case rel => exact ⟨i + 1, by omega, by omega, by go_num, Hgi.out.trans HY.out⟩
          case measure => (simp [intOf] <;> omega)
        · by_cases hkn : k = nO
          · subst hkn
            obtain ⟨hm3, hz1⟩ := Hz.out rfl
            have p1 := HcC.out wr (HW.out.trans Hgi.out) 1 (by rw [Hm.out]; omega)
            have oz := HcO.out wr Hgx.out (k - 1) (by rw [HnO.out]; omega)
            rw [hz1] at p1
            rw [Haz.out] at oz
            have hm3b : ((m : Int) == 3) = true := beq_iff_eq.2 (by omega)
            have hm3c : ((m : Int) != 3) = false := by simp [bne, hm3b]
            have hm3d : decide ((m : Int) = 3) = true := decide_eq_true (by omega)
            clear hz1
            go_upto_region 14 with fail
            clear hm3
            refine wp_region_over (by kernel_rfl) (by kernel_rfl) ?_; (repeat (go_big_quiet_step (fail))); refine wpQuiet_nil ?_; intro wy hW; replace hW : Grew _ wy := hW
            have HY := Lib.hid hW
            clear hW
            go_wp2
            go_roundw
            case rel => exact ⟨k + 1, by omega, by omega, by go_num, (Hwo.out.trans Hgi.out).trans HY.out⟩
            case measure => (simp [intOf] <;> omega)
          · have hkb : ((k : Int) == (nO : Int)) = false := beq_eq_false_iff_ne.2 (by omega)
            go_upto_region 14 with fail
            refine wp_region_over (by kernel_rfl) (by kernel_rfl) ?_; (repeat (go_big_quiet_step (fail))); refine wpQuiet_nil ?_; intro wy hW; replace hW : Grew _ wy := hW
            have HY := Lib.hid hW
            clear hW
            go_wp2
            go_roundw
            case rel => exact ⟨k + 1, by omega, by omega, by go_num, (Hwo.out.trans Hgi.out).trans HY.out⟩
            case measure => (simp [intOf] <;> omega)
    · go_wp2_with ((go_at_call 8; apply Calls.mono; (with_reducible exact Haw.out _ (Hgw.out.trans (by (repeat (first | exact Grew.refl _ | refine Grew.over ?_ _ | refine Grew.alloc ?_ _ | refine Grew.drew ?_ | refine Grew.drewN ?_ _))))); rintro e w' ⟨rfl, x, rfl⟩))
      go_ret
      exact ⟨rfl, Hgw.out.trans (by (repeat (first | exact Grew.refl _ | refine Grew.over ?_ _ | refine Grew.alloc ?_ _ | refine Grew.drew ?_ | refine Grew.drewN ?_ _)))⟩

end Go.Proofs.YtdacnkjmimhcaaaDoor
