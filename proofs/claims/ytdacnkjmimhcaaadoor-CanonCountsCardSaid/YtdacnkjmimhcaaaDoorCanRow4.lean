/- CanonCounts returns true for every input, and the input reads as before: the earlier neighbours, plain; the law's walk; the row. -/
import Derived.Test.YtdacnkjmimhcaaaDoorCanQ
import Derived.Test.YtdacnkjmimhcaaaDoorCanRow
set_option linter.unusedSimpArgs false
set_option linter.unusedVariables false
namespace Go.Proofs.YtdacnkjmimhcaaaDoor
open Go.RowKit
attribute [local go_sem ↓] Go.wp_at_zero Go.wp_at_succ

/-- The earlier neighbours of the vertex at place k; of all vertices from the third one on, before place j + 2. -/
def cntE (E : List (Int × Int)) (O : List Int) (k : Nat) : Nat := (O.take k).countP (fun u => joinB E u (ge O k))
def sumE (E : List (Int × Int)) (O : List Int) : Nat → Nat
  | 0 => 0
  | j + 1 => sumE E O j + cntE E O (j + 2)
theorem step_count {E : List (Int × Int)} {S C D : List Int} {w : Int} (h : stepF E S C w = some D) : S.countP (fun u => joinB E u w) + D.length = C.length + 3 ∧ 2 ≤ S.countP (fun u => joinB E u w) := by
  unfold stepF at h
  split at h
  · cases h
  · rename_i hc
    have hc : S.countP (fun u => joinB E u w) = (stepI E C w).length := Classical.byContradiction hc
    obtain ⟨p, q, hpq, hq, _, _, rfl, _, _, hl⟩ := span_inv (fun i hi => stepI_pos hi) h
    rw [cut_len hpq hq]
    omega
theorem sum_cont {E : List (Int × Int)} {O : List Int} : ∀ {j : Nat} {C : List Int}, contR E O j = some C → sumE E O j + C.length = 3 * j + 2
  | 0, C, h => by unfold contR at h; cases h; rfl
  | j + 1, C, h => by
    unfold contR at h
    cases hd : contR E O j with
    | none => rw [hd] at h; cases h
    | some D =>
      rw [hd] at h
      simp only [Option.bind_some] at h
      have h1 := (step_count h).1
      have h2 := sum_cont hd
      show sumE E O j + cntE E O (j + 2) + C.length = _
      unfold cntE
      omega
theorem cnt_two {N : Int} {E : List (Int × Int)} {A : List (List Int)} {O : List Int} (h : chkR N E A O = true) {k : Nat} (h2 : 2 ≤ k) (hk : k < O.length) : 2 ≤ cntE E O k := by
  rw [chk_same] at h
  have hO := chkO_iff.1 h
  obtain ⟨j, rfl⟩ : ∃ j, k = j + 2 := ⟨k - 2, by omega⟩
  obtain ⟨C, hC, _⟩ := cont_goes h (j := j + 1) (by omega)
  rw [← cont_same h (by omega)] at hC
  unfold contR at hC
  cases hd : contR E O j with
  | none => rw [hd] at hC; cases hC
  | some D =>
    rw [hd] at hC
    simp only [Option.bind_some] at hC
    exact (step_count hC).2
theorem sum_all {N : Int} {E : List (Int × Int)} {A : List (List Int)} {O : List Int} (h : chkR N E A O = true) : (sumE E O (O.length - 2) : Int) = 3 * O.length - 7 := by
  rw [chk_same] at h
  have hO := chkO_iff.1 h
  have h3 := trg_three hO.1
  obtain ⟨C, hC, hG⟩ := cont_goes h (j := O.length - 2) (by omega)
  rw [← cont_same h (by omega)] at hC
  have h1 := sum_cont hC
  have h2 := (hG.fin (by omega)).1
  omega

set_option maxRecDepth 8000 in
set_option maxHeartbeats 8000000 in
theorem countsL (N : Int) (pE pA : Option Addr) (nE nA cE cA : Nat) (E : List (Int × Int)) (A : List (List Int)) (w : World) (hE : Prs w pE E) (hA : Mat w pA A) (c1 : E.length ≤ cE) (c2 : cE ≤ maxLen) (hL : Lim w) (hnE : E.length = nE) (hnA : A.length = nA) :
    Calls Tryd.prog 6 #[.agg #[.int .i64 N, .slice pE nE cE, .slice pA nA cA]] w fun e w' => e = .returned (.bool true) ∧ Grew w w' := by
  have HL := Lib.hid hL
  have Haw : Hid (∀ W1, Grew w W1 → Calls Tryd.prog 8 #[] W1 fun e w' => e = .returned (.bool true) ∧ Grew W1 w') := Lib.hid (fun W1 h => awake_l W1 (HL.out.grew h))
  obtain ⟨s, hs⟩ : ∃ s, smB N nE nA = s := ⟨_, rfl⟩
  have Hs : Hid (∀ W1, Calls Tryd.prog 7 #[.agg #[.int .i64 N, .slice pE nE cE, .slice pA nA cA]] W1 fun e w' => e = .returned (.bool s) ∧ Grew W1 w') := Lib.hid (fun W1 => small_le hs W1)
  cases s
  case false =>
    clear hs hE hA hL
    go_enter Tryd.func6, Tryd.ntmps6
    go_wp2_with (first
      | ((go_at_call 7; apply Calls.mono; (with_reducible exact Hs.out _); rintro e w' ⟨rfl, x, rfl⟩))
      | ((go_at_call 8; apply Calls.mono; (with_reducible exact Haw.out _ (by (repeat (first | exact Grew.refl _ | refine Grew.over ?_ _ | refine Grew.alloc ?_ _ | refine Grew.drew ?_ | refine Grew.drewN ?_ _)))); rintro e w' ⟨rfl, x, rfl⟩)))
    go_ret
    exact ⟨rfl, by (repeat (first | exact Grew.refl _ | refine Grew.over ?_ _ | refine Grew.alloc ?_ _ | refine Grew.drew ?_ | refine Grew.drewN ?_ _))⟩
  case true =>
  have HR := Lib.hid (rot_sm (by rw [hnE, hnA]; exact hs) hE hA c1 c2)
  have hA30 : nA ≤ 30 := by
    unfold smB at hs
    simp only [Bool.and_eq_true, decide_eq_true_iff] at hs
    exact hs.2
  clear hs hE hA hL
  obtain ⟨t, ht⟩ : ∃ t, trgB N E A = t := ⟨_, rfl⟩
  have Htr : Hid (∀ W1, Grew w W1 → Calls Tryd.prog 15 #[.agg #[.int .i64 N, .slice pE nE cE, .slice pA nA cA]] W1 fun e w' => e = .returned (.bool t) ∧ Grew W1 w') := Lib.hid (fun W1 h => by
    rw [← ht]
    exact trg_r _ _ _ _ _ _ _ _ _ _ (HR.out.grew h) hnE hnA)
  cases t
  case false =>
    clear ht
    go_enter Tryd.func6, Tryd.ntmps6
    go_wp2_with (first
      | ((go_at_call 7; apply Calls.mono; (with_reducible exact Hs.out _); rintro e w' ⟨rfl, x, rfl⟩))
      | ((go_at_call 15; apply Calls.mono; (with_reducible exact Htr.out _ (by (repeat (first | exact Grew.refl _ | refine Grew.over ?_ _ | refine Grew.alloc ?_ _ | refine Grew.drew ?_ | refine Grew.drewN ?_ _)))); rintro e w' ⟨rfl, x, rfl⟩))
      | ((go_at_call 8; apply Calls.mono; (with_reducible exact Haw.out _ (by (repeat (first | exact Grew.refl _ | refine Grew.over ?_ _ | refine Grew.alloc ?_ _ | refine Grew.drew ?_ | refine Grew.drewN ?_ _)))); rintro e w' ⟨rfl, x, rfl⟩)))
    go_ret
    exact ⟨rfl, by (repeat (first | exact Grew.refl _ | refine Grew.over ?_ _ | refine Grew.alloc ?_ _ | refine Grew.drew ?_ | refine Grew.drewN ?_ _))⟩
  case true =>
  obtain ⟨O, hO, hcall⟩ := order_any N pE pA nE nA cE cA E A w HR.out HL.out (by omega) ht hnE hnA
  have hOl := (chkR_iff.1 hO).2.1
  have hN3 := trg_three ht
  have hal := (trg_valid ht).al
  have HO := Lib.hid hO
  obtain ⟨n, hn⟩ : ∃ n, O.length = n := ⟨_, rfl⟩
  obtain rfl : N = (n : Int) := by omega
  have Hn := Lib.hid hn
  have hn30 : n ≤ 30 := by omega
  have hn3 : 3 ≤ n := by omega
  have Ho : Hid (∀ W1, Grew w W1 → Calls Tryd.prog 14 #[.agg #[.int .i64 n, .slice pE nE cE, .slice pA nA cA]] W1 fun e w' => Grew W1 w' ∧ ∃ q cap, e = .returned (.tuple #[.slice q n cap, .int .i64 0]) ∧ Ints w' q O ∧ n ≤ cap ∧ cap ≤ maxLen) := Lib.hid (fun W1 h => by
    have := hcall W1 h
    unfold TwoPost at this
    rw [hn] at this
    exact this)
  have Hsum : Hid ((sumE E O (n - 2) : Int) = 3 * n - 7) := Lib.hid (by rw [← hn]; exact sum_all hO)
  have Htwo : Hid (∀ k, 2 ≤ k → k < n → 2 ≤ cntE E O k) := Lib.hid (fun k h1 h2 => cnt_two hO h1 (by omega))
  have Hj : Hid (∀ (u v : Int) (b : Bool) W1, Grew w W1 → joinB E u v = b → Calls Tryd.prog 17 #[.agg #[.int .i64 n, .slice pE nE cE, .slice pA nA cA], .int .i64 u, .int .i64 v] W1 fun e w' => e = .returned (.bool b) ∧ Grew W1 w') := Lib.hid (fun u v b W1 h hj => by
    rw [← hj]
    exact joined_r n pE pA nE nA cE cA E u v W1 (HR.out.hE.grew h) HR.out.e1 hnE)
  have HwB : Hid (Grew w (w.alloc (.cells #[.int .i64 n, .slice pE nE cE, .slice pA nA cA] 25))) := Lib.hid ((Grew.refl w).alloc _)
  have Hc0 : Hid ((w.alloc (.cells #[.int .i64 n, .slice pE nE cE, .slice pA nA cA] 25)).cell? ⟨w.heap.size, 0, none⟩ = some (.int .i64 n)) := Lib.hid (by simp [go_sem])
  have Hc1 : Hid ((w.alloc (.cells #[.int .i64 n, .slice pE nE cE, .slice pA nA cA] 25)).cell? ⟨w.heap.size, 1, none⟩ = some (.slice pE nE cE)) := Lib.hid (by simp [go_sem])
  have Hc2 : Hid ((w.alloc (.cells #[.int .i64 n, .slice pE nE cE, .slice pA nA cA] 25)).cell? ⟨w.heap.size, 2, none⟩ = some (.slice pA nA cA)) := Lib.hid (by simp [go_sem])
  have hsB : (w.alloc (.cells #[.int .i64 n, .slice pE nE cE, .slice pA nA cA] 25)).heap.size = w.heap.size + 1 := by simp
  have HsB := Lib.hid hsB
  have HnE := Lib.hid hnE
  have HnA := Lib.hid hnA
  clear hO hcall hOl hal hn ht hnE hnA hsB hN3
  go_enter Tryd.func6, Tryd.ntmps6
  go_wp2_with (first
    | ((go_at_call 7; apply Calls.mono; (with_reducible exact Hs.out _); rintro e w' ⟨rfl, x, rfl⟩))
    | ((go_at_call 15; apply Calls.mono; (with_reducible exact Htr.out _ (by (repeat (first | exact Grew.refl _ | refine Grew.over ?_ _ | refine Grew.alloc ?_ _ | refine Grew.drew ?_ | refine Grew.drewN ?_ _)))); rintro e w' ⟨rfl, x, rfl⟩))
    | (go_at_call 14; apply Calls.mono; (with_reducible exact Ho.out _ (by (repeat (first | exact Grew.refl _ | refine Grew.over ?_ _ | refine Grew.alloc ?_ _ | refine Grew.drew ?_ | refine Grew.drewN ?_ _)))); rintro e wB ⟨hg4, qa, ca, rfl, hIa, hd1, hd2⟩; have HIa := Lib.hid hIa; have HgB := Lib.hid ((show Grew (w.alloc (.cells #[.int .i64 n, .slice pE nE cE, .slice pA nA cA] 25)) _ by (repeat (first | exact Grew.refl _ | refine Grew.over ?_ _ | refine Grew.alloc ?_ _ | refine Grew.drew ?_ | refine Grew.drewN ?_ _))).trans hg4); have q0 := HgB.out.cellEq Hc0.out; have q1 := HgB.out.cellEq Hc1.out; have q2 := HgB.out.cellEq Hc2.out; clear hIa hg4))
  have Q0 := Lib.hid q0
  have Q1 := Lib.hid q1
  have Q2 := Lib.hid q2
  have hsB := HgB.out.below.size
  rw [HsB.out] at hsB
  have HwW : Hid (Grew w wB) := Lib.hid (HwB.out.trans HgB.out)
  obtain ⟨bO, oO, rfl, lO, cO'⟩ := HIa.out.cells (by rw [Hn.out]; omega)
  have HcO := Lib.hid cO'
  clear cO' q0 q1 q2
  go_loopw [5, 6] (fun sv kv wr => ∃ j : Nat, j + 2 ≤ n ∧ sv = .int .i64 (sumE E O j : Nat) ∧ kv = .int .i64 ((j + 2 : Nat) : Int) ∧ sumE E O j ≤ 10000 * j ∧ Grew wB wr) (fun _ kv _ => n - (intOf kv).toNat)
  case atStart => exact ⟨0, by omega, rfl, rfl, Nat.zero_le _, by (repeat (first | exact Grew.refl _ | refine Grew.over ?_ _ | refine Grew.alloc ?_ _ | refine Grew.drew ?_ | refine Grew.drewN ?_ _))⟩
  case round =>
    obtain ⟨j, hj, rfl, rfl, hsm, hgB⟩ := hrel
    have hszr := hgB.below.size
    have q0 := hgB.cellEq Q0.out
    have q1 := hgB.cellEq Q1.out
    have q2 := hgB.cellEq Q2.out
    have Hgr := Lib.hid hgB
    clear hgB
    obtain ⟨S, hS⟩ : ∃ S, sumE E O j = S := ⟨_, rfl⟩
    have HS := Lib.hid hS
    rw [hS] at hsm ⊢
    clear hS
    by_cases hlt : j + 2 < n
    · have hli : ((j + 2 : Nat) : Int) < (n : Int) := by omega
      obtain ⟨z, hz⟩ : ∃ z, ge O (j + 2) = z := ⟨_, rfl⟩
      have oz := HcO.out wr Hgr.out (j + 2) (by rw [Hn.out]; omega)
      rw [hz] at oz
      have Hz := Lib.hid hz
      have Hoz : Hid (∀ W, Grew wr W → W.cell? ⟨bO, oO + (j + 2), none⟩ = some (.int .i64 z)) := Lib.hid (fun W h => h.cellEq oz)
      clear hz oz
      go_wp2
      go_loopw [7, 8] (fun nv iv wx => ∃ i : Nat, i ≤ j + 2 ∧ nv = .int .i64 (((O.take i).countP (fun u => joinB E u z) : Nat) : Int) ∧ iv = .int .i64 i ∧ Grew wr wx) (fun _ iv _ => j + 2 - (intOf iv).toNat)
      case atStart => exact ⟨0, Nat.zero_le _, rfl, rfl, by (repeat (first | exact Grew.refl _ | refine Grew.over ?_ _ | refine Grew.alloc ?_ _ | refine Grew.drew ?_ | refine Grew.drewN ?_ _))⟩
      case round =>
        obtain ⟨i, hi, rfl, rfl, hgi⟩ := hrel
        have hszi := hgi.below.size
        have v0 := hgi.cellEq q0
        have v1 := hgi.cellEq q1
        have v2 := hgi.cellEq q2
        have v3 := Hoz.out _ hgi
        have Hgi := Lib.hid hgi
        have Hgx : Hid (Grew w wr) := Lib.hid ((HwW.out.trans Hgr.out).trans hgi)
        clear hgi q0 q1 q2
        have hcl : (O.take i).countP (fun u => joinB E u z) ≤ i := Nat.le_trans List.countP_le_length (by rw [List.length_take]; omega)
        obtain ⟨c, hc⟩ : ∃ c, (O.take i).countP (fun u => joinB E u z) = c := ⟨_, rfl⟩
        have Hc := Lib.hid hc
        rw [hc] at hcl ⊢
        clear hc
        by_cases hlm : i < j + 2
        · obtain ⟨x, hx⟩ : ∃ x, ge O i = x := ⟨_, rfl⟩
          have p0 := HcO.out _ (Hgr.out.trans Hgi.out) i (by rw [Hn.out]; omega)
          rw [hx] at p0
          obtain ⟨b, hb⟩ : ∃ b, joinB E x z = b := ⟨_, rfl⟩
          have Hb := Lib.hid hb
          have Hct : Hid ((O.take (i + 1)).countP (fun u => joinB E u z) = c + if b = true then 1 else 0) := Lib.hid (by
            rw [countP_take (by rw [Hn.out]; omega), Hc.out, hx, hb])
          have hli2 : (i : Int) < ((j + 2 : Nat) : Int) := by omega
          clear hx hb
          cases b
          · replace Hct : Hid ((O.take (i + 1)).countP (fun u => joinB E u z) = c) := Lib.hid (by rw [Hct.out]; simp)
            go_upto_region 14 with fail
            refine wp_region_over (by kernel_rfl) (by kernel_rfl) ?_; (repeat (go_big_quiet_step (((go_at_call 17; apply over_call; with_reducible exact Hj.out _ _ _ _ (Hgx.out.trans (by (repeat (first | exact Grew.refl _ | refine Grew.over ?_ _ | refine Grew.alloc ?_ _ | refine Grew.drew ?_ | refine Grew.drewN ?_ _)))) Hb.out))))); refine wpQuiet_nil ?_; intro wy hW; replace hW : Grew _ wy := hW
            have HY := Lib.hid hW
            clear hW
            go_wp2
            go_roundw
            case rel => exact ⟨i + 1, by omega, by rw [Hct.out], by go_num, Hgi.out.trans HY.out⟩
            case measure => (simp [intOf] <;> omega)
          · replace Hct : Hid ((O.take (i + 1)).countP (fun u => joinB E u z) = c + 1) := Lib.hid (by rw [Hct.out]; simp)
            go_upto_region 14 with fail
            refine wp_region_over (by kernel_rfl) (by kernel_rfl) ?_; (repeat (go_big_quiet_step (((go_at_call 17; apply over_call; with_reducible exact Hj.out _ _ _ _ (Hgx.out.trans (by (repeat (first | exact Grew.refl _ | refine Grew.over ?_ _ | refine Grew.alloc ?_ _ | refine Grew.drew ?_ | refine Grew.drewN ?_ _)))) Hb.out))))); refine wpQuiet_nil ?_; intro wy hW; replace hW : Grew _ wy := hW
            have HY := Lib.hid hW
            clear hW
            go_wp2
            go_roundw
            case rel => exact ⟨i + 1, by omega, by rw [Hct.out]; go_num, by go_num, Hgi.out.trans HY.out⟩
            case measure => (simp [intOf] <;> omega)
        · obtain rfl : i = j + 2 := by omega
          have Hce : Hid (cntE E O (j + 2) = c) := Lib.hid (by unfold cntE; rw [Hz.out]; exact Hc.out)
          have hc2 : 2 ≤ c := by rw [← Hce.out]; exact Htwo.out _ (by omega) hlt
          have hc2i : ¬ (c : Int) < 2 := by omega
          have Hse : Hid (sumE E O (j + 1) = S + c) := Lib.hid (by show sumE E O j + cntE E O (j + 2) = _; rw [HS.out, Hce.out])
          go_wp2
          go_roundw
          case rel => exact ⟨j + 1, by omega, by rw [Hse.out]; go_num, by go_num, by rw [Hse.out]; omega, (Hgr.out.trans Hgi.out).trans (by (repeat (first | exact Grew.refl _ | refine Grew.over ?_ _ | refine Grew.alloc ?_ _ | refine Grew.drew ?_ | refine Grew.drewN ?_ _)))⟩
          case measure => (simp [intOf] <;> omega)
    · have hje : j = n - 2 := by omega
      have Hfin : Hid ((S : Int) = 3 * n - 7) := Lib.hid (by rw [← HS.out, hje]; exact Hsum.out)
      have hfin := Hfin.out
      have hfb : ((S : Int) == 3 * (n : Int) - 7) = true := beq_iff_eq.2 hfin
      have hnl : ¬ ((j + 2 : Nat) : Int) < (n : Int) := by omega
      go_wp2_with ((go_at_call 8; apply Calls.mono; (with_reducible exact Haw.out _ ((HwW.out.trans Hgr.out).trans (by (repeat (first | exact Grew.refl _ | refine Grew.over ?_ _ | refine Grew.alloc ?_ _ | refine Grew.drew ?_ | refine Grew.drewN ?_ _))))); rintro e w' ⟨rfl, x, rfl⟩))
      go_ret
      exact ⟨rfl, (HwW.out.trans Hgr.out).trans (by (repeat (first | exact Grew.refl _ | refine Grew.over ?_ _ | refine Grew.alloc ?_ _ | refine Grew.drew ?_ | refine Grew.drewN ?_ _)))⟩
end Go.Proofs.YtdacnkjmimhcaaaDoor
namespace Go.Proofs.YtdacnkjmimhcaaaDoor
open Go.RowKit Go.ChangeShapes Go.WideShapes

theorem CanonCounts_row : Rows.CanonCountsSaid :=
  OpenClaim.holds_of_wide 6 Tryd.f6 rfl rfl rfl rfl rfl rfl rfl ⟨rfl, rfl, rfl, rfl, rfl⟩ rfl rfl rfl rfl rfl (by kernel_rfl) Tryd.func6 (by kernel_rfl)
    (of_decide_eq_true (by kernel_rfl)) (by unfold Func.isWrapper; first | (rw [if_pos (by decide +kernel)]; kernel_rfl) | (rw [if_neg (by decide +kernel)]; exact ⟨rfl, rfl⟩))
    (fun os started H enc _ => by
      refine law_laid (C := Tryd.checked) (s := Rows.canonCountsSpec) laidL Tryd.own started (by kernel_rfl) Tryd.func6
        (ChangeSpec.witness_at (enc := enc) (C := Tryd.checked) (os := os) (X := fun w _ => laidMet Tryd.prog laidL w) false (laidWorld os) #[.agg #[.int .i64 0, .slice none 0 0, .slice none 0 0]] 8 rfl (by kernel_rfl) (by kernel_rfl) (by kernel_rfl) (by kernel_rfl) (by kernel_rfl)
          (laidMet_of_run' 8 (by kernel_rfl) (by kernel_rfl)))
        Tryd.laidOut rfl Tryd.underlying4 (by kernel_rfl) rfl ?_ ?_
      · intro ds hds
        match ds, hds with
        | [_], _ => exact ⟨rfl, rfl, rfl⟩
      · intro W base args ds ps hval hA hLd
        have hA' := hA
        rw [Tryd.params6] at hA'
        obtain ⟨v0, rfl, ⟨n0, y0, h0⟩⟩ := trodAll_split1 hA'
        obtain ⟨N, p, q, cE, cA, E, A, rfl, hE, hM, c1, c2⟩ := arg_rot (hval 0 _ _ rfl rfl) h0
        exact countsL _ _ _ _ _ _ _ _ _ _ hE hM c1 c2 (lim_of hLd) rfl rfl)

theorem CanonCounts_card : Rows.CanonCountsCardSaid :=
  Claim7.holds_tied_plain_at .later [] [.data] true Rows.canonCountsCard.stood.harness false
    CanonCounts_row (fun _ h => by cases h) (by kernel_rfl) (fun _ h => by cases h) canonCounts_row_tie rfl ⟨rfl, rfl⟩ (by kernel_rfl) rfl
    (fun f fn hf hfn => by
      obtain rfl : f = 6 := (Option.some.inj ((show Tryd.prog.funcNamed "layout/layoutlaw36.CanonCounts" = some 6 by kernel_rfl).symm.trans hf)).symm
      obtain rfl : fn = Tryd.f6 := (Option.some.inj (Tryd.func6.symm.trans hfn)).symm
      refine ⟨by kernel_rfl, fun j t ht => ?_⟩
      rw [Tryd.params6] at ht
      match j, ht with
        | 0, ht => cases ht; exact (show Tryd.prog.wantsStandIn 25 = false by kernel_rfl))
    (by kernel_rfl)
end Go.Proofs.YtdacnkjmimhcaaaDoor
