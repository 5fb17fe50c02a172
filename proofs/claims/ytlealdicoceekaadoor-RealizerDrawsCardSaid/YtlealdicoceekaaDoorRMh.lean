/- Joined by a program from the texts RefI RefJ ReaJ RefK RefL RefM. -/
import Derived.Test.YtlealdicoceekaaDoorRMg
/- The reference: Region. -/
set_option linter.unusedSimpArgs false
set_option linter.unusedVariables false
namespace Go.Proofs.YtlealdicoceekaaDoor
open Go.RowKit
attribute [local go_sem ↓] Go.wp_at_zero Go.wp_at_succ

theorem own_put {w : World} {g n : Nat} {I : List Bool} (h : Owns w g [rB g n I]) (i : Nat) (x : Bool) : Owns (w.setCell ⟨g, i, none⟩ (.bool x)) g [rB g n (I.set i x)] := own_setB h (j := 0) rfl i x
set_option maxRecDepth 8000 in
set_option maxHeartbeats 16000000 in
theorem region_r (N : Int) (pE pA pL : Option Addr) (nE nA nL cE cA cL : Nat) (E : List (Int × Int)) (A : List (List Int)) (L : List Int) (w : World) (hR : RotIn w pE pA cE E A) (hT : trgB N E A = true) (hS : Sch E A L) (hAc : Acy E A L) (hI : Ints w pL L) (hnE : E.length = nE) (hnA : A.length = nA) (hnL : L.length = nL) (v : Nat) (hv : v < A.length)
    (t ra rb d0 : Nat) (ht : t < 3) (hta : ((t : Int) + 1) % 3 = (ra : Int)) (htb : ((t : Int) + 2) % 3 = (rb : Int)) (hd0 : d0 < 2 * E.length) (hda : tailE E d0 = ge (rts E A) ra) (hdb : tailE E (oth d0) = ge (rts E A) rb) (hfc : ge (faceL N E A) d0 = ge (faceL N E A) 0) :
    Calls Tryd.prog 45 #[.agg #[.int .i64 N, .slice pE nE cE, .slice pA nA cA], .slice pL nL cL, .int .i64 v, .int .i64 t] w fun e w' => e = .returned (.int .i64 (regF N E A L v (oth d0))) ∧ Grew w w' := by
  have hV := trg_valid hT
  have hal := hV.al
  obtain rfl : N = (nA : Int) := by omega
  obtain ⟨res, hres⟩ : ∃ res, regF nA E A L v (oth d0) = res := ⟨_, rfl⟩
  have HV := Lib.hid hV
  have HT := Lib.hid hT
  have HS := Lib.hid hS
  have HAc := Lib.hid hAc
  have HR := Lib.hid hR
  have HI := Lib.hid hI
  have HnL := Lib.hid hnL
  have HnE := Lib.hid hnE
  have HnA := Lib.hid hnA
  have hE1 : nE ≤ 100 := by have := hR.e1; omega
  have hA1 : nA ≤ 100 := by have := hR.a1; omega
  have hE0 := trg_pos hT
  have hE0n : 0 < nE := by omega
  have HRt := Lib.hid (HR.out.at HR.out.e5 (vRotB_iff.2 hV))
  have Hfc : Hid (∀ W1, Grew w W1 → Calls Tryd.prog 47 #[.agg #[.int .i64 nA, .slice pE nE cE, .slice pA nA cA]] W1 (FacesPost (facesO nA E A) W1)) := Lib.hid (fun W1 h => faces_r _ _ _ _ _ _ _ _ _ _ (HRt.out.grew h) HnE.out HnA.out)
  have Hwl : Hid (∀ W1, Grew w W1 → Calls Tryd.prog 68 #[.agg #[.int .i64 nA, .slice pE nE cE, .slice pA nA cA], .slice pL nL cL, .int .i64 v] W1 fun e w' => Grew W1 w' ∧ ∃ g, e = .returned (.slice (some ⟨g, 0, none⟩) nE nE) ∧ W1.heap.size ≤ g ∧ ∃ W, Owns w' g [rB g nE W] ∧ WallIs nE W (wallF E A L v)) := Lib.hid (fun W1 h => walls_r nA pE pA pL nE nA nL cE cA cL E A L W1 (HR.out.grew h) HT.out HS.out HAc.out (HI.out.grew h) HnE.out HnA.out HnL.out v hv)
  have Hrts : Hid (∀ W1, Grew w W1 → Calls Tryd.prog 23 #[.agg #[.int .i64 nA, .slice pE nE cE, .slice pA nA cA]] W1 fun e w' => Grew W1 w' ∧ ∃ q cap, e = .returned (.slice q 3 cap) ∧ Ints w' q (rts E A)) := Lib.hid (fun W1 h => (roots_r _ pE pA nE nA cE cA E A W1 (HR.out.grew h) HT.out HnE.out HnA.out).mono fun e w' ⟨h1, q, cap, h2, h3, _⟩ => ⟨h1, q, cap, h2, h3⟩)
  obtain ⟨xa, hxa⟩ : ∃ xa, ge (rts E A) ra = xa := ⟨_, rfl⟩
  obtain ⟨xb, hxb⟩ : ∃ xb, ge (rts E A) rb = xb := ⟨_, rfl⟩
  have Hdt : Hid (∀ W1, Grew w W1 → Calls Tryd.prog 34 #[.agg #[.int .i64 nA, .slice pE nE cE, .slice pA nA cA], .int .i64 xa, .int .i64 xb] W1 fun e w' => e = .returned (.int .i64 (d0 : Int)) ∧ Grew W1 w') := Lib.hid (fun W1 h => dart_r nA pE pA nE nA cE cA E xa xb W1 (HR.out.hE.grew h) HR.out.e1 HnE.out d0 (dartF_eq HT.out ⟨by omega, by omega⟩ (by rw [hda, hxa]) (by rw [hdb, hxb])))
  obtain ⟨d1, hd1⟩ : ∃ d1 : Nat, oth (d0 : Int) = (d1 : Int) := ⟨(oth d0).toNat, by have := oth_in (d := d0) (M := E.length) (by omega) (by omega); omega⟩
  have hd1l : d1 < 2 * nE := by have := oth_in (d := d0) (M := E.length) (by omega) (by omega); omega
  have hd0l : d0 < 2 * nE := by omega
  have Hoth : Hid (∀ W1, Calls Tryd.prog 65 #[.int .i64 d0] W1 fun e w' => e = .returned (.int .i64 d1) ∧ W1 = w') := Lib.hid (fun W1 => by rw [← hd1]; exact other_r d0 W1 (by omega))
  have hmk : ∀ W, (Instr.makeSlice 26 (.int .i64 (2 * (nE : Int))) (.int .i64 (2 * (nE : Int)))).run Tryd.prog W = .ok (.slice (some ⟨W.heap.size, 0, none⟩) (2 * nE) (2 * nE)) (W.alloc (.cells (Array.replicate (2 * nE) (.int .i64 0)) 3)) := fun W => by
    have := mk_ints (2 * nE) (by omega) W
    push_cast at this
    exact this
  have hwr : IntKind.i64.wrap (2 * (nE : Int)) = 2 * (nE : Int) := IntWalk.i64_in _ ⟨by omega, by omega⟩
  obtain ⟨F, hF⟩ : ∃ F, facesO nA E A = F := ⟨_, rfl⟩
  have HFe := Lib.hid hF
  have HFO : Hid (FcsOK (2 * nE) F) := Lib.hid (by rw [← hF, ← hnE]; exact facs_ok hV)
  rw [hF] at Hfc
  have hFl := HFO.out.len
  have Hface : Hid (∀ d, d < 2 * nE → 0 ≤ ge (faceL nA E A) d ∧ ge (faceL nA E A) d < (F.length : Int)) := Lib.hid (fun d hd => by
    have := face_range HV.out (d := d) (by rw [HnE.out]; exact hd)
    rw [hF] at this
    exact ⟨this.1, this.2.1⟩)
  have Hres : Hid (regN (edgR (2 * nE) (faceL nA E A) (wallF E A L v)) F.length (ge (faceL nA E A) d1) = res) := Lib.hid (by
    rw [← hres]
    unfold regF
    rw [hF, hd1, hnE, Int.toNat_natCast])
  have Hfl : Hid ((faceL nA E A).length = 2 * nE) := Lib.hid (by unfold faceL; rw [tab_length, hnE])
  have Hf0 := Lib.hid hfc
  have hmkb := mk_bools F.length (by omega)
  have hF0 : 0 < F.length := by have := Hface.out 0 (by omega); omega
  have hra3 : ra < 3 := by omega
  have hrb3 : rb < 3 := by omega
  rw [hres]
  clear hR hT hS hAc hI hnE hnA hnL hV hal hE0 hv hres hd1 hfc hda hdb hF hd0
  go_enter Tryd.func45, Tryd.ntmps45
  go_upto_region 1 with fail
  have HgB : Hid (Grew w (w.alloc (.cells #[.int .i64 nA, .slice pE nE cE, .slice pA nA cA] 25))) := Lib.hid ((Grew.refl w).alloc _)
  have k0 : (w.alloc (.cells #[.int .i64 nA, .slice pE nE cE, .slice pA nA cA] 25)).cell? ⟨w.heap.size, 0, none⟩ = some (.int .i64 nA) := by simp [go_sem]
  have k1 : (w.alloc (.cells #[.int .i64 nA, .slice pE nE cE, .slice pA nA cA] 25)).cell? ⟨w.heap.size, 1, none⟩ = some (.slice pE nE cE) := by simp [go_sem]
  have k2 : (w.alloc (.cells #[.int .i64 nA, .slice pE nE cE, .slice pA nA cA] 25)).cell? ⟨w.heap.size, 2, none⟩ = some (.slice pA nA cA) := by simp [go_sem]
  obtain ⟨wB, hwB⟩ : ∃ wB, w.alloc (.cells #[.int .i64 nA, .slice pE nE cE, .slice pA nA cA] 25) = wB := ⟨_, rfl⟩
  rw [hwB] at HgB k0 k1 k2 ⊢
  have hwl := World.block_lt_of_cell? wB _ k0
  dsimp only at hwl
  clear hwB
  go_upto_region 2 with (go_at_call 47; apply Calls.mono; (with_reducible exact Hfc.out _ (HgB.out.trans (by (repeat (first | exact gR _ | refine gO ?_ _ | refine gA ?_ _ | refine gD ?_ | refine gN ?_ _))))); rintro e wF ⟨hg3, q3, c3, rfl, hM3⟩; have HM3 := Lib.hid hM3; have HgF := Lib.hid ((show Grew wB _ by (repeat (first | exact gR _ | refine gO ?_ _ | refine gA ?_ _ | refine gD ?_ | refine gN ?_ _))).trans hg3); clear hM3 hg3)
  have k0 := HgF.out.cellEq k0
  have k1 := HgF.out.cellEq k1
  have k2 := HgF.out.cellEq k2
  have hwl := World.block_lt_of_cell? wF _ k0
  dsimp only at hwl
  have HgwF : Hid (Grew w wF) := Lib.hid (HgB.out.trans HgF.out)
  go_upto_region 3 with fail
  have HO0 := Lib.hid (own_newI (Owns.nil wF wF.heap.size) (Nat.le_refl _) (2 * nE) wF.heap.size (by omega) rfl)
  have Hg0 : Hid (Grew wF (wF.alloc (.cells (Array.replicate (2 * nE) (.int .i64 0)) 3))) := Lib.hid ((Grew.refl wF).alloc _)
  obtain ⟨wA, hwA⟩ : ∃ wA, wF.alloc (.cells (Array.replicate (2 * nE) (.int .i64 0)) 3) = wA := ⟨_, rfl⟩
  rw [hwA] at HO0 Hg0 ⊢
  obtain ⟨g, hg⟩ : ∃ g, wF.heap.size = g := ⟨_, rfl⟩
  have Hgs := Lib.hid hg
  rw [hg] at HO0 hwl ⊢
  clear hwA hg
  go_wp2
  go_loopw [11] (fun iv wr => ∃ i : Nat, i ≤ F.length ∧ iv = .int .i64 i ∧ Grew wF wr ∧ ∃ X : List Int, X.length = 2 * nE ∧ Owns wr g [rI g (2 * nE) X] ∧ ∀ j, j < i → ∀ d : Nat, (d : Int) ∈ rowOf F j → ge X d = j) (fun iv _ => F.length - (intOf iv).toNat)
  case atStart => exact ⟨0, Nat.zero_le _, rfl, Hg0.out.trans (by (repeat (first | exact gR _ | refine gO ?_ _ | refine gA ?_ _ | refine gD ?_ | refine gN ?_ _))), _, by simp, HO0.out.grew (by (repeat (first | exact gR _ | refine gO ?_ _ | refine gA ?_ _ | refine gD ?_ | refine gN ?_ _))), fun j hj => by omega⟩
  case round =>
    clear HO0 Hg0
    obtain ⟨i, hi, rfl, hgr, X, hXl, hO, hall⟩ := hrel
    have HO := Lib.hid hO
    have Hgr := Lib.hid hgr
    have Hall := Lib.hid hall
    have HXl := Lib.hid hXl
    clear hgr hO hall hXl
    by_cases hlt : i < F.length
    · obtain ⟨bF, oF, rp, rc, rfl, lF, cF⟩ := HM3.out.rows (by omega)
      obtain ⟨f1, f2⟩ := cF wF (Grew.refl _) i hlt
      have f1r := Hgr.out.cellEq f1
      obtain ⟨xs, hxs⟩ : ∃ xs, rowOf F i = xs := ⟨_, rfl⟩
      rw [hxs] at f1r f2
      have Hxi : Hid (∀ d ∈ xs, 0 ≤ d ∧ d < ((2 * nE : Nat) : Int)) := Lib.hid (fun d hd => HFO.out.inn i hlt d (by rw [hxs]; exact hd))
      have hxl : xs.length ≤ 2 * nE := by rw [← hxs]; exact HFO.out.row i hlt
      have Hxd : Hid (∀ j, j < i → ∀ d : Int, d ∈ xs → d ∉ rowOf F j) := Lib.hid (fun j hj d hd hd2 => by
        have := HFO.out.dis i j hlt (by omega) d (by rw [hxs]; exact hd) hd2
        omega)
      have Hxs := Lib.hid hxs
      obtain ⟨pr, hpr⟩ : ∃ pr, rp i = pr := ⟨_, rfl⟩
      obtain ⟨cr, hcr⟩ : ∃ cr, rc i = cr := ⟨_, rfl⟩
      rw [hpr] at f1r f2
      rw [hcr] at f1r
      have F1 := Lib.hid f1
      rw [hpr, hcr, hxs] at F1
      have HIx := Lib.hid f2
      clear f1 f2 cF hpr hcr hxs
      have hfi : (i : Int) < (F.length : Int) := by omega
      go_wp2
      go_loopw [12] (fun kv wx => ∃ k : Nat, k ≤ xs.length ∧ kv = .int .i64 k ∧ Grew wF wx ∧ ∃ X : List Int, X.length = 2 * nE ∧ Owns wx g [rI g (2 * nE) X] ∧ (∀ j, j < i → ∀ d : Nat, (d : Int) ∈ rowOf F j → ge X d = j) ∧ ∀ d : Nat, (d : Int) ∈ xs.take k → ge X d = i) (fun kv _ => xs.length - (intOf kv).toNat)
      case atStart => exact ⟨0, Nat.zero_le _, rfl, Hgr.out.trans (by (repeat (first | exact gR _ | refine gO ?_ _ | refine gA ?_ _ | refine gD ?_ | refine gN ?_ _))), X, HXl.out, HO.out.grew (by (repeat (first | exact gR _ | refine gO ?_ _ | refine gA ?_ _ | refine gD ?_ | refine gN ?_ _))), Hall.out, fun d hd => by simp at hd⟩
      case round =>
        clear HO Hall HXl f1r
        obtain ⟨k, hk, rfl, hgr2, Y, hYl, hO2, hall1, hall2⟩ := hrel
        have HO2 := Lib.hid hO2
        have Hgr2 := Lib.hid hgr2
        have Hall1 := Lib.hid hall1
        have Hall2 := Lib.hid hall2
        have HYl := Lib.hid hYl
        have f1r := hgr2.cellEq F1.out
        clear hgr2 hO2 hall1 hall2 hYl
        by_cases hlk : k < xs.length
        · obtain ⟨bR, oR, rfl, lR, cR⟩ := HIx.out.cells (by omega)
          have e1 := cR wr Hgr2.out k hlk
          have hdr := Hxi.out _ (ge_mem hlk)
          obtain ⟨d, hd⟩ : ∃ d : Nat, ge xs k = (d : Int) := ⟨(ge xs k).toNat, by omega⟩
          rw [hd] at e1 hdr
          have hd2 : d < 2 * nE := by omega
          have hdi2 : (d : Int) < 2 * (nE : Int) := by omega
          have x1 := own_atI HO2.out (j := 0) rfl hd2
          have x2 := own_fr HO2.out (j := 0) rfl d
          have Hset : Hid (Owns (wr.setCell ⟨g, d, none⟩ (.int .i64 (i : Int))) g [rI g (2 * nE) (Y.set d (i : Int))]) := Lib.hid (own_setI HO2.out (j := 0) rfl d (i : Int))
          have Hd := Lib.hid hd
          have hki : (k : Int) < (xs.length : Int) := by omega
          clear hdr hd cR
          go_wp2
          go_roundw
          case rel => exact ⟨k + 1, by omega, by go_num, (Hgr2.out.setCell (show wF.heap.size ≤ g from Nat.le_of_eq Hgs.out) _).trans (by (repeat (first | exact gR _ | refine gO ?_ _ | refine gA ?_ _ | refine gD ?_ | refine gN ?_ _))), Y.set d i, by rw [List.length_set]; exact HYl.out, Hset.out.grew (by (repeat (first | exact gR _ | refine gO ?_ _ | refine gA ?_ _ | refine gD ?_ | refine gN ?_ _))), fun j hj d' hd' => by
              rw [ge_set_other Y (fun e => by
                rw [← e] at hd'
                exact Hxd.out j hj d (by rw [← Hd.out]; exact ge_mem hlk) hd')]
              exact Hall1.out j hj d' hd', fun d' hd' => by
              by_cases e : d = d'
              · rw [← e, ge_set_same Y (by rw [HYl.out]; exact hd2)]
              · rw [ge_set_other Y e]
                rw [List.take_succ_eq_append_getElem hlk, ← ge_eq xs hlk, Hd.out, List.mem_append, List.mem_singleton] at hd'
                rcases hd' with h | h
                · exact Hall2.out d' h
                · omega⟩
          case measure => (simp [intOf] <;> omega)
        · obtain rfl : k = xs.length := by omega
          rw [List.take_length] at Hall2
          go_wp2
          go_roundw
          case rel => exact ⟨i + 1, by omega, by go_num, Hgr2.out.trans (by (repeat (first | exact gR _ | refine gO ?_ _ | refine gA ?_ _ | refine gD ?_ | refine gN ?_ _))), Y, HYl.out, HO2.out.grew (by (repeat (first | exact gR _ | refine gO ?_ _ | refine gA ?_ _ | refine gD ?_ | refine gN ?_ _))), fun j hj d hd => by
            by_cases e : j = i
            · rw [e]
              rw [e, Hxs.out] at hd
              exact Hall2.out d hd
            · exact Hall1.out j (by omega) d hd⟩
          case measure => (simp [intOf] <;> omega)
    · obtain rfl : i = F.length := by omega
      obtain rfl : X = faceL nA E A := faceL_of HV.out (by rw [HXl.out, HnE.out]) (fun j hj d hd => Hall.out j (by rw [HFe.out] at hj; exact hj) d (by rw [HFe.out] at hd; exact hd))
      obtain ⟨X, hX⟩ : ∃ X, faceL nA E A = X := ⟨_, rfl⟩
      rw [hX] at HO Hres Hfl Hf0 Hface
      clear Hall HXl hX HFe
      have k0 := Hgr.out.cellEq k0
      have k1 := Hgr.out.cellEq k1
      have k2 := Hgr.out.cellEq k2
      have hwlr := World.block_lt_of_cell? wr _ k0
      dsimp only at hwlr
      have Hgwr : Hid (Grew w wr) := Lib.hid (HgwF.out.trans Hgr.out)
      go_upto_region 12 with (first
        | (go_at_call 68; apply Calls.mono; (with_reducible exact Hwl.out _ (Hgwr.out.trans (by (repeat (first | exact gR _ | refine gO ?_ _ | refine gA ?_ _ | refine gD ?_ | refine gN ?_ _))))); rintro e w4 ⟨hg4, gw, rfl, hgw, W, hOw, hWl⟩; have HOw := Lib.hid hOw; have HWl := Lib.hid hWl; have Hg4 := Lib.hid ((show Grew wr _ by (repeat (first | exact gR _ | refine gO ?_ _ | refine gA ?_ _ | refine gD ?_ | refine gN ?_ _))).trans hg4); have n0 := Hg4.out.cellEq k0; have n1 := Hg4.out.cellEq k1; have n2 := Hg4.out.cellEq k2; have hlw4 := World.block_lt_of_cell? w4 _ n0; dsimp only at hlw4; clear hOw hWl hg4)
        | (go_at_call 23; apply Calls.mono; (with_reducible exact Hrts.out _ (Hgwr.out.trans (Hg4.out.trans (by (repeat (first | exact gR _ | refine gO ?_ _ | refine gA ?_ _ | refine gD ?_ | refine gN ?_ _)))))); rintro e w5 ⟨hg5, q5, c5, rfl, hI5⟩; have HI5 := Lib.hid hI5; have Hg5r := Lib.hid ((show Grew w4 _ by (repeat (first | exact gR _ | refine gO ?_ _ | refine gA ?_ _ | refine gD ?_ | refine gN ?_ _))).trans hg5); have Hg5 := Lib.hid (Hg4.out.trans Hg5r.out); clear hI5 hg5))
      have m0 := Hg5.out.cellEq k0
      have m1 := Hg5.out.cellEq k1
      have m2 := Hg5.out.cellEq k2
      have hlw5 := World.block_lt_of_cell? w5 _ m0
      dsimp only at hlw5
      obtain ⟨bT, oT, rfl, lT, cT⟩ := HI5.out.cells (by simp [rts])
      have ta := cT w5 (Grew.refl _) ra (by simpa [rts] using hra3)
      have tb := cT w5 (Grew.refl _) rb (by simpa [rts] using hrb3)
      rw [hxa] at ta
      rw [hxb] at tb
      have hrai : (ra : Int) < 3 := by omega
      have hrbi : (rb : Int) < 3 := by omega
      have Hgw5 : Hid (Grew w w5) := Lib.hid (Hgwr.out.trans Hg5.out)
      clear cT k0 k1 k2 n0 n1 n2
      refine wp_region_over (by kernel_rfl) (by kernel_rfl) ?_; (repeat (go_big_quiet_step ((go_at_call 34; apply over_call; with_reducible exact Hdt.out _ (Hgw5.out.trans (by (repeat (first | exact gR _ | refine gO ?_ _ | refine gA ?_ _ | refine gD ?_ | refine gN ?_ _)))))))); refine wpQuiet_nil ?_; intro w6 hW; replace hW : Grew _ w6 := hW
      have Hg6 := Lib.hid (Hg5.out.trans hW)
      have HO6 := Lib.hid (HO.out.grew (Hg6.out))
      have HOw6 := Lib.hid (HOw.out.grew (Hg5r.out.trans hW))
      have l0 := own_atI HO6.out (j := 0) rfl (i := 0) (by omega)
      have l1 := own_atI HO6.out (j := 0) rfl hd0l
      have l2 := own_atI HO6.out (j := 0) rfl hd1l
      have hgm := own_lt HO6.out (j := 0) rfl
      rw [Hf0.out] at l1
      obtain ⟨z0, hz0⟩ : ∃ z0, ge X 0 = z0 := ⟨_, rfl⟩
      rw [hz0] at l0 l1
      have hz1r := Hface.out d1 hd1l
      obtain ⟨z1, hz1⟩ : ∃ z1 : Nat, ge X d1 = (z1 : Int) := ⟨(ge X d1).toNat, by omega⟩
      rw [hz1] at l2 hz1r Hres
      have hz1l : z1 < F.length := by omega
      have m0 := hW.cellEq m0
      have m1 := hW.cellEq m1
      have m2 := hW.cellEq m2
      have hlw6 := World.block_lt_of_cell? w6 _ m0
      dsimp only at hlw6
      have hd0i : (d0 : Int) < 2 * (nE : Int) := by omega
      have hd1i : (d1 : Int) < 2 * (nE : Int) := by omega
      have h20 : (0 : Int) < 2 * (nE : Int) := by omega
      have h20n : 0 < 2 * nE := by omega
      clear hW ta tb HOw HO hz0 hlw5 hlw4 lT hz1r Hg5 Hg5r Hg4 Hgw5
      go_wp2
      go_region
      go_upto_region 15 with ((go_at_call 65; apply Calls.mono; (with_reducible exact Hoth.out _); rintro e w' ⟨rfl, rfl⟩))
      obtain ⟨wD, hwD⟩ : ∃ wD, w6.drew = wD := ⟨_, rfl⟩
      have HgD : Hid (Grew w6 wD) := Lib.hid (by rw [← hwD]; exact (Grew.refl w6).drew)
      rw [hwD]
      have l2 := HgD.out.cellEq l2
      have m0 := HgD.out.cellEq m0
      have m1 := HgD.out.cellEq m1
      have m2 := HgD.out.cellEq m2
      have M1 := Lib.hid m1
      have HOD := Lib.hid (HO6.out.grew HgD.out)
      have HOwD := Lib.hid (HOw6.out.grew HgD.out)
      have HgwD : Hid (Grew w wD) := Lib.hid (Hgwr.out.trans (Hg6.out.trans HgD.out))
      have hlwD := World.block_lt_of_cell? wD _ m0
      have hgmD := World.block_lt_of_cell? wD _ l2
      dsimp only at hlwD hgmD
      clear hwD l0 l1 HO6 HOw6 hlw6 hgm Hg6 HgD Hgwr
      go_upto_region 16 with fail
      have HO0 := Lib.hid (own_newB (Owns.nil wD wD.heap.size) (Nat.le_refl _) F.length wD.heap.size (by omega) rfl)
      have Hg0 : Hid (Grew wD (wD.alloc (.cells (Array.replicate F.length (.bool false)) 4))) := Lib.hid ((Grew.refl wD).alloc _)
      obtain ⟨wE, hwE⟩ : ∃ wE, wD.alloc (.cells (Array.replicate F.length (.bool false)) 4) = wE := ⟨_, rfl⟩
      rw [hwE] at HO0 Hg0 ⊢
      obtain ⟨gi, hgi⟩ : ∃ gi, wD.heap.size = gi := ⟨_, rfl⟩
      have Hgis := Lib.hid hgi
      rw [hgi] at HO0 hlwD hgmD ⊢
      have l2 := Hg0.out.cellEq l2
      have x2 := own_fr HO0.out (j := 0) rfl z1
      have x1 := own_atB HO0.out (j := 0) rfl hz1l
      have hgiE := own_lt HO0.out (j := 0) rfl
      have hz1i : (z1 : Int) < (F.length : Int) := by omega
      have hneq : ¬ g = gi := by omega
      clear hwE hgi m0 m1 m2
      go_upto_region 17 with fail
      have HO1 : Hid (Owns (wE.setCell ⟨gi, z1, none⟩ (.bool true)) gi [rB gi F.length ((List.replicate F.length false).set z1 true)]) := Lib.hid (own_put HO0.out z1 true)
      have Hg1 : Hid (Grew wD (wE.setCell ⟨gi, z1, none⟩ (.bool true))) := Lib.hid (Hg0.out.setCell (show wD.heap.size ≤ gi from Nat.le_of_eq Hgis.out) _)
      obtain ⟨w7, hw7⟩ : ∃ w7, wE.setCell ⟨gi, z1, none⟩ (.bool true) = w7 := ⟨_, rfl⟩
      rw [hw7] at HO1 Hg1 ⊢
      obtain ⟨I0, hI0⟩ : ∃ I0, (List.replicate F.length false).set z1 true = I0 := ⟨_, rfl⟩
      have Hcnt : Hid (cntT (flN W X nE F.length I0) F.length = res) := Lib.hid (by
        rw [← hI0, ← Hres.out]
        have := flood_count (a := (z1 : Int)) HWl.out Hface.out ⟨by omega, by omega⟩
        rw [Int.toNat_natCast] at this
        exact this)
      have Hil : Hid (I0.length = F.length) := Lib.hid (by rw [← hI0]; simp)
      rw [hI0] at HO1
      clear hw7 hI0 HO0 Hg0 l2 x1 x2 hgiE Hres
      go_wp2
      go_loopw [17] (fun rv wr => ∃ r : Nat, r ≤ F.length ∧ rv = .int .i64 r ∧ Grew wD wr ∧ Owns wr gi [rB gi F.length (flN W X nE r I0)]) (fun rv _ => F.length - (intOf rv).toNat)
      case atStart => exact ⟨0, Nat.zero_le _, rfl, Hg1.out.trans (by (repeat (first | exact gR _ | refine gO ?_ _ | refine gA ?_ _ | refine gD ?_ | refine gN ?_ _))), HO1.out.grew (by (repeat (first | exact gR _ | refine gO ?_ _ | refine gA ?_ _ | refine gD ?_ | refine gN ?_ _)))⟩
      case round =>
        clear Hg1 HO1 Hgr
        obtain ⟨r, hr, rfl, hgr, hO⟩ := hrel
        have HO := Lib.hid hO
        have Hgr := Lib.hid hgr
        clear hgr hO
        by_cases hrl : r < F.length
        · have hri : (r : Int) < (F.length : Int) := by omega
          go_wp2
          go_loopw [18] (fun iv wr => ∃ i : Nat, i ≤ nE ∧ iv = .int .i64 i ∧ Grew wD wr ∧ Owns wr gi [rB gi F.length (flR W X i (flN W X nE r I0))]) (fun iv _ => nE - (intOf iv).toNat)
          case atStart => exact ⟨0, Nat.zero_le _, rfl, Hgr.out.trans (by (repeat (first | exact gR _ | refine gO ?_ _ | refine gA ?_ _ | refine gD ?_ | refine gN ?_ _))), HO.out.grew (by (repeat (first | exact gR _ | refine gO ?_ _ | refine gA ?_ _ | refine gD ?_ | refine gN ?_ _)))⟩
          case round =>
            clear Hgr HO
            obtain ⟨i, hi, rfl, hgr, hO⟩ := hrel
            have HO := Lib.hid hO
            have Hgr := Lib.hid hgr
            have HgwR : Hid (Grew w wr) := Lib.hid (HgwD.out.trans hgr)
            obtain ⟨I, hII⟩ : ∃ I, flR W X i (flN W X nE r I0) = I := ⟨_, rfl⟩
            have HII := Lib.hid hII
            rw [hII] at HO
            have hIl : Hid (I.length = F.length) := Lib.hid (by rw [← hII, flR_len, flN_len]; exact Hil.out)
            have HOm := Lib.hid (HOD.out.grew hgr)
            have HOw := Lib.hid (HOwD.out.grew hgr)
            have k1 := hgr.cellEq M1.out
            have hlwr := World.block_lt_of_cell? wr _ k1
            dsimp only at hlwr
            clear hgr hO hII
            by_cases hil : i < nE
            · have hii : (i : Int) < (nE : Int) := by omega
              have c0 := own_atB HOw.out (j := 0) rfl hil
              have ha := own_atI HOm.out (j := 0) rfl (i := 2 * i) (by omega)
              have hb := own_atI HOm.out (j := 0) rfl (i := 2 * i + 1) (by omega)
              have hxr := Hface.out (2 * i) (by omega)
              have hyr := Hface.out (2 * i + 1) (by omega)
              obtain ⟨x, hx⟩ : ∃ x : Nat, ge X (2 * i) = (x : Int) := ⟨(ge X (2 * i)).toNat, by omega⟩
              obtain ⟨y, hy⟩ : ∃ y : Nat, ge X (2 * i + 1) = (y : Int) := ⟨(ge X (2 * i + 1)).toNat, by omega⟩
              have hxl : x < F.length := by omega
              have hyl : y < F.length := by omega
              have hxi : (x : Int) < (F.length : Int) := by omega
              have hyi : (y : Int) < (F.length : Int) := by omega
              have HfE : Hid (flE W X I i = if gb W i = false ∧ (gb I x = true ∨ gb I y = true) then (I.set x true).set y true else I) := Lib.hid (by unfold flE; rw [hx, hy, Int.toNat_natCast, Int.toNat_natCast])
              have HfR : Hid (flR W X (i + 1) (flN W X nE r I0) = flE W X I i) := Lib.hid (by rw [← HII.out]; rfl)
              rw [hx] at ha
              rw [hy] at hb
              have Hy := Lib.hid hy
              have ix := own_atB HO.out (j := 0) rfl hxl
              have iy := own_atB HO.out (j := 0) rfl hyl
              have ifx := own_fr HO.out (j := 0) rfl x
              have ify := own_fr HO.out (j := 0) rfl y
              have hgil := own_lt HO.out (j := 0) rfl
              have hd1 : 2 * (i : Int) < 2 * (nE : Int) := by omega
              have hd2 : 2 * (i : Int) + 1 < 2 * (nE : Int) := by omega
              obtain ⟨bw, hbw⟩ : ∃ bw, gb W i = bw := ⟨_, rfl⟩
              obtain ⟨bx, hbx⟩ : ∃ bx, gb I x = bx := ⟨_, rfl⟩
              obtain ⟨bY, hbY⟩ : ∃ bY, gb I y = bY := ⟨_, rfl⟩
              rw [hbw] at c0 HfE
              rw [hbx] at ix HfE
              rw [hbY] at iy HfE
              clear hx hy hxr hyr hbw hbx hbY
              cases bw
              case true =>
                replace HfE : Hid (flE W X I i = I) := Lib.hid (by rw [HfE.out]; simp)
                go_wp2
                go_roundw
                case rel => exact ⟨i + 1, by omega, by go_num, Hgr.out.trans (by (repeat (first | exact gR _ | refine gO ?_ _ | refine gA ?_ _ | refine gD ?_ | refine gN ?_ _))), by rw [HfR.out, HfE.out]; exact HO.out.grew (by (repeat (first | exact gR _ | refine gO ?_ _ | refine gA ?_ _ | refine gD ?_ | refine gN ?_ _)))⟩
                case measure => (simp [intOf] <;> omega)
              case false =>
                have key : bx = false ∧ bY = false ∨ bx = true ∨ (bx = false ∧ bY = true) := by cases bx <;> cases bY <;> simp
                rcases key with ⟨rfl, rfl⟩ | hor
                · replace HfE : Hid (flE W X I i = I) := Lib.hid (by rw [HfE.out]; simp)
                  go_wp2
                  go_roundw
                  case rel => exact ⟨i + 1, by omega, by go_num, Hgr.out.trans (by (repeat (first | exact gR _ | refine gO ?_ _ | refine gA ?_ _ | refine gD ?_ | refine gN ?_ _))), by rw [HfR.out, HfE.out]; exact HO.out.grew (by (repeat (first | exact gR _ | refine gO ?_ _ | refine gA ?_ _ | refine gD ?_ | refine gN ?_ _)))⟩
                  case measure => (simp [intOf] <;> omega)
                · replace HfE : Hid (flE W X I i = (I.set x true).set y true) := Lib.hid (by rw [HfE.out]; rcases hor with rfl | ⟨rfl, rfl⟩ <;> simp)
                  rcases hor with rfl | ⟨rfl, rfl⟩
                  · go_upto_region 25 with fail
                    have HO1 := Lib.hid (own_put HO.out x true)
                    have HgS : Hid (Grew wD (wr.setCell ⟨gi, x, none⟩ (.bool true))) := Lib.hid (Hgr.out.setCell (show wD.heap.size ≤ gi from Nat.le_of_eq Hgis.out) _)
                    obtain ⟨wS, hwS⟩ : ∃ wS, wr.setCell ⟨gi, x, none⟩ (.bool true) = wS := ⟨_, rfl⟩
                    rw [hwS] at HO1 HgS ⊢
                    clear hwS ix iy ifx ify k1 hlwr hb
                    have iy := own_atB HO1.out (j := 0) rfl hyl
                    have ify := own_fr HO1.out (j := 0) rfl y
                    have hb := own_atI (HOD.out.grew HgS.out) (j := 0) rfl (i := 2 * i + 1) (by omega)
                    rw [Hy.out] at hb
                    have hgil := own_lt HO1.out (j := 0) rfl
                    have HO2 := Lib.hid (own_put HO1.out y true)
                    go_wp2
                    go_roundw
                    case rel => exact ⟨i + 1, by omega, by go_num, (HgS.out.setCell (show wD.heap.size ≤ gi from Nat.le_of_eq Hgis.out) _).trans (by (repeat (first | exact gR _ | refine gO ?_ _ | refine gA ?_ _ | refine gD ?_ | refine gN ?_ _))), by rw [HfR.out, HfE.out]; exact HO2.out.grew (by (repeat (first | exact gR _ | refine gO ?_ _ | refine gA ?_ _ | refine gD ?_ | refine gN ?_ _)))⟩
                    case measure => (simp [intOf] <;> omega)
                  · go_upto_region 25 with fail
                    have HO1 := Lib.hid (own_put HO.out x true)
                    have HgS : Hid (Grew wD (wr.setCell ⟨gi, x, none⟩ (.bool true))) := Lib.hid (Hgr.out.setCell (show wD.heap.size ≤ gi from Nat.le_of_eq Hgis.out) _)
                    obtain ⟨wS, hwS⟩ : ∃ wS, wr.setCell ⟨gi, x, none⟩ (.bool true) = wS := ⟨_, rfl⟩
                    rw [hwS] at HO1 HgS ⊢
                    clear hwS ix iy ifx ify k1 hlwr hb
                    have iy := own_atB HO1.out (j := 0) rfl hyl
                    have ify := own_fr HO1.out (j := 0) rfl y
                    have hb := own_atI (HOD.out.grew HgS.out) (j := 0) rfl (i := 2 * i + 1) (by omega)
                    rw [Hy.out] at hb
                    have hgil := own_lt HO1.out (j := 0) rfl
                    have HO2 := Lib.hid (own_put HO1.out y true)
                    go_wp2
                    go_roundw
                    case rel => exact ⟨i + 1, by omega, by go_num, (HgS.out.setCell (show wD.heap.size ≤ gi from Nat.le_of_eq Hgis.out) _).trans (by (repeat (first | exact gR _ | refine gO ?_ _ | refine gA ?_ _ | refine gD ?_ | refine gN ?_ _))), by rw [HfR.out, HfE.out]; exact HO2.out.grew (by (repeat (first | exact gR _ | refine gO ?_ _ | refine gA ?_ _ | refine gD ?_ | refine gN ?_ _)))⟩
                    case measure => (simp [intOf] <;> omega)
            · obtain rfl : i = nE := by omega
              go_wp2
              go_roundw
              case rel => exact ⟨r + 1, by omega, by go_num, Hgr.out.trans (by (repeat (first | exact gR _ | refine gO ?_ _ | refine gA ?_ _ | refine gD ?_ | refine gN ?_ _))), by show Owns _ _ [rB _ _ (flR W X i (flN W X i r I0))]; rw [HII.out]; exact HO.out.grew (by (repeat (first | exact gR _ | refine gO ?_ _ | refine gA ?_ _ | refine gD ?_ | refine gN ?_ _)))⟩
              case measure => (simp [intOf] <;> omega)
        · have Hre : Hid (r = F.length) := Lib.hid (by omega)
          have HgwR : Hid (Grew w wr) := Lib.hid (HgwD.out.trans Hgr.out)
          obtain ⟨I, hII⟩ : ∃ I, flN W X nE r I0 = I := ⟨_, rfl⟩
          rw [hII] at HO
          have Hc2 : Hid (cntT I F.length = res) := Lib.hid (by rw [← hII, Hre.out]; exact Hcnt.out)
          have hri : ¬ (r : Int) < (F.length : Int) := by omega
          have hcl := cnt_le I
          clear hII
          go_wp2
          go_loop [19, 20] (fun nv fv => ∃ f : Nat, f ≤ F.length ∧ fv = .int .i64 f ∧ nv = .int .i64 (cntT I f)) (fun _ fv => F.length - (intOf fv).toNat)
          case atStart => exact ⟨0, Nat.zero_le _, rfl, rfl⟩
          case round =>
            obtain ⟨f, hf, rfl, rfl⟩ := hrel
            have hcf := hcl f
            by_cases hfl : f < F.length
            · have ix := own_atB HO.out (j := 0) rfl hfl
              obtain ⟨bx, hbx⟩ : ∃ bx, gb I f = bx := ⟨_, rfl⟩
              have Hs : Hid (cntT I (f + 1) = if bx = true then cntT I f + 1 else cntT I f) := Lib.hid (by rw [← hbx]; rfl)
              rw [hbx] at ix
              obtain ⟨c, hc⟩ : ∃ c, cntT I f = c := ⟨_, rfl⟩
              rw [hc] at Hs hcf ⊢
              have hfi : (f : Int) < (F.length : Int) := by omega
              clear hbx hc
              cases bx
              · replace Hs : Hid (cntT I (f + 1) = c) := Lib.hid (by rw [Hs.out]; simp)
                go_wp2
                go_round
                case rel => exact ⟨f + 1, by omega, by go_num, by rw [Hs.out]⟩
                case measure => (simp [intOf] <;> omega)
              · replace Hs : Hid (cntT I (f + 1) = c + 1) := Lib.hid (by rw [Hs.out]; simp)
                go_wp2
                go_round
                case rel => exact ⟨f + 1, by omega, by go_num, by rw [Hs.out]; go_num⟩
                case measure => (simp [intOf] <;> omega)
            · obtain rfl : f = F.length := by omega
              rw [Hc2.out]
              go_wp2
              go_ret
              exact ⟨rfl, HgwR.out.trans (by (repeat (first | exact gR _ | refine gO ?_ _ | refine gA ?_ _ | refine gD ?_ | refine gN ?_ _)))⟩
end Go.Proofs.YtlealdicoceekaaDoor

/- The reference: Draw. -/
namespace Go.Proofs.YtlealdicoceekaaDoor
open Go.RowKit
attribute [local go_sem ↓] Go.wp_at_zero Go.wp_at_succ

/-- The cells of a list of pairs. -/
def prVs (E : List (Int × Int)) : List Value := E.flatMap fun a => [.int .i64 a.1, .int .i64 a.2]
theorem prVs_app (a b : List (Int × Int)) : prVs (a ++ b) = prVs a ++ prVs b := by simp [prVs]
theorem prVs_len (E : List (Int × Int)) : (prVs E).length = E.length * 2 := by
  induction E with
  | nil => rfl
  | cons a E ih => simp only [prVs, List.flatMap_cons, List.length_append] at ih ⊢; simp [ih]; omega
theorem prVs_get (E : List (Int × Int)) : ∀ i, i < E.length → (prVs E)[i * 2]? = some (.int .i64 (pr E i).1) ∧ (prVs E)[i * 2 + 1]? = some (.int .i64 (pr E i).2) := by
  induction E with
  | nil => intro i hi; simp at hi
  | cons a E ih =>
    intro i hi
    cases i with
    | zero => exact ⟨rfl, rfl⟩
    | succ i =>
      have := ih i (by simpa using hi)
      have e1 : (i + 1) * 2 = i * 2 + 1 + 1 := by omega
      rw [e1]
      exact this
/-- A row of pairs, read. -/
theorem prs_of_owns {w : World} {B : Nat} {rs : List Row} {k : Nat} {v : Value} {e : TypeId} {n : Nat} {E : List (Int × Int)} (h : Owns w B rs) (hk : rs[k]? = some ⟨v, e, 2, n, prVs E⟩) : ∃ q cap, v = .slice q n cap ∧ E.length = n ∧ Prs w q E := by
  obtain ⟨h1, h2⟩ := h.get hk
  rw [prVs_len] at h1
  have hn : E.length = n := by omega
  rcases h2 with ⟨rfl, rfl⟩ | ⟨g, cap, rfl, hB, hg, hle, hmx, _, hc⟩
  · exact ⟨none, 0, rfl, hn, by omega, 0, 0, fun h => by omega, fun i hi => by omega⟩
  · refine ⟨some ⟨g, 0, none⟩, cap, rfl, hn, by simp only [maxLen] at hmx; omega, g, 0, fun _ => ⟨rfl, hg⟩, fun i hi => ?_⟩
    obtain ⟨g1, g2⟩ := prVs_get E i hi
    rw [Nat.zero_add]
    exact ⟨hc _ _ g1, hc _ _ g2⟩

/-- A list of points of the call's own. -/
abbrev ptRow (v : Value) (P : List (Int × Int)) : Row := ⟨v, 43, 2, P.length, prVs P⟩

/-- A point appended. -/
theorem wp_append_pt {ops : Array Oper} {rest : List Oper} {o : Oper} {a : Act} {Q : Exit → Act → World → Prop} {w : World} (hgd : o.guard = none) (s x : Operand)
    (ho : o.op = .call { callee := .builtin .append, args := #[s, x], argTypes := #[36, 36] }) (wb : World) (v0 : Value) (P : List (Int × Int))
    (hO : Owns w wb.heap.size [ptRow v0 P]) (hg : Grew wb w) (hs : a.eval s = v0) (g : Nat) (hx : a.eval x = .slice (some ⟨g, 0, none⟩) 1 1) (c d : Int)
    (h0 : w.cell? ⟨g, 0, none⟩ = some (.int .i64 c)) (h1 : w.cell? ⟨g, 1, none⟩ = some (.int .i64 d)) (hl : P.length ≤ 2000)
    (h : ∀ v' w', Owns w' wb.heap.size [ptRow v' (P ++ [(c, d)])] → Grew wb w' → wpList Tryd.prog ops Q rest (a.put o.dst v') w') :
    wpList Tryd.prog ops Q (o :: rest) a w := by
  refine wp_append_owns hgd s x 36 ho 43 2 16 (.agg #[.int .i64 0, .int .i64 0]) Tryd.underlying36 infoPt rfl (by decide) wb.heap.size _ 0 v0 P.length (prVs P) hO rfl hs _ 1 1 hx
    [.int .i64 c, .int .i64 d] rfl (fun h => by cases h) (two_news h0 h1) (by simp [Value.oneCell']) (by simp only [maxLen]; omega) (by omega) hg.below.size ?_
  intro v1 w1 hO1 hg1 hb1 _
  refine h v1 w1 ?_ (hg.grownBy hg1 hb1)
  have e : (⟨v1, 43, 2, P.length + 1, prVs P ++ [.int .i64 c, .int .i64 d]⟩ : Row) = ptRow v1 (P ++ [(c, d)]) := by
    simp [ptRow, prVs_app, prVs]
  have h2 := hO1
  rw [List.set_cons_zero, e] at h2
  exact h2

/-- Points and an error. -/
def PtsR (xs : List (Int × Int)) (er : Int) (w : World) (e : Ending) (w' : World) : Prop :=
  Grew w w' ∧ ∃ q cap, e = .returned (.tuple #[.slice q xs.length cap, .int .i64 er]) ∧ Prs w' q xs
theorem PtsR.none {w w' : World} {er : Int} (hg : Grew w w') : PtsR [] er w (.returned (.tuple #[.slice none 0 0, .int .i64 er])) w' :=
  ⟨hg, Option.none, 0, rfl, ⟨by simp, 0, 0, (fun h => by simp at h), (fun i h => by simp at h)⟩⟩
theorem drawRes_err {N : Int} {E : List (Int × Int)} {A : List (List Int)} {L : List Int} (h : err38 N E A L ≠ 0) : drawRes N E A L = ([], err38 N E A L) := by
  unfold err38 at h ⊢
  unfold drawRes
  split
  · rfl
  · rename_i h1
    rw [if_neg h1] at h
    split
    · rfl
    · rename_i h2
      rw [if_neg h2] at h
      exact absurd rfl h
set_option maxRecDepth 8000 in
set_option maxHeartbeats 16000000 in
theorem draw_r (N : Int) (pE pA pL : Option Addr) (nE nA nL cE cA cL : Nat) (E : List (Int × Int)) (A : List (List Int)) (L : List Int) (w : World) (hR : RotIn w pE pA cE E A) (hI : Ints w pL L) (hnE : E.length = nE) (hnA : A.length = nA) (hnL : L.length = nL) (hL1 : nL ≤ 1000)
    (hAc : trgB N E A = true → fitB E A L = true → Acy E A L) :
    Calls Tryd.prog 18 #[.agg #[.int .i64 N, .slice pE nE cE, .slice pA nA cA], .slice pL nL cL] w (PtsR (drawRes N E A L).1 (drawRes N E A L).2 w) := by
  have HR := Lib.hid hR
  have HI := Lib.hid hI
  obtain ⟨er, her⟩ : ∃ er, err38 N E A L = er := ⟨_, rfl⟩
  have Hck : Hid (∀ W1, Grew w W1 → Calls Tryd.prog 38 #[.agg #[.int .i64 N, .slice pE nE cE, .slice pA nA cA], .slice pL nL cL] W1 fun e w' => e = .returned (.int .i64 er) ∧ Grew W1 w') := Lib.hid (fun W1 h => by
    have := err38_r N pE pA pL nE nA nL cE cA cL E A L W1 (HR.out.grew h) (HI.out.grew h) hnE hnA hnL hL1
    rw [her] at this
    exact this)
  by_cases he0 : er = 0
  case neg =>
    have Hf : Hid (drawRes N E A L = ([], er)) := Lib.hid (by rw [← her]; exact drawRes_err (by rw [her]; exact he0))
    have hern : (er == 0) = false := beq_eq_false_iff_ne.2 he0
    have hern2 : (er != 0) = true := by simp [bne, hern]
    clear her he0 hR hI hAc
    go_enter Tryd.func18, Tryd.ntmps18
    go_wp2_with ((go_at_call 38; apply Calls.mono; (with_reducible exact Hck.out _ (by (repeat (first | exact gR _ | refine gO ?_ _ | refine gA ?_ _ | refine gD ?_ | refine gN ?_ _)))); rintro e w' ⟨rfl, x, rfl⟩))
    go_ret2
    rw [Hf.out]
    exact PtsR.none (by (repeat (first | exact gR _ | refine gO ?_ _ | refine gA ?_ _ | refine gD ?_ | refine gN ?_ _)))
  subst he0
  obtain ⟨hT, hF⟩ := err_ok her
  have hS := fit_sch hT hF
  have hV := trg_valid hT
  have hal := hV.al
  have hN3 := trg_three hT
  obtain rfl : N = (nA : Int) := by omega
  have HAc := Lib.hid (hAc hT hF)
  have HV := Lib.hid hV
  have HS := Lib.hid hS
  have HT := Lib.hid hT
  have HnA := Lib.hid hnA
  have HnE := Lib.hid hnE
  have HnL := Lib.hid hnL
  have hnA1 : nA ≤ 100 := by have := hR.a1; omega
  have hnA3 : 3 ≤ nA := by omega
  have hE0 := trg_pos hT
  obtain ⟨s1, s2, hs1, hs2, hs1l, hs2l⟩ := sdL_nat hV hE0
  have Hs2 := Lib.hid hs2
  obtain ⟨_, _, _, _, ot5⟩ := outer_tails hT
  have Hf : Hid (drawRes nA E A L = (drawL nA E A L, 0)) := Lib.hid (by unfold drawRes; rw [if_neg (by rw [hT]; simp), if_neg (by rw [hF]; simp)])
  have hf2 : ge (faceL nA E A) s2 = ge (faceL nA E A) 0 := by
    have h1 := face_next hV (d := 0) (d' := s1) (by omega) hs1l hs1
    have h2 := face_next hV (d := s1) (d' := s2) hs1l hs2l (by rw [← hs1, hs2])
    rw [h2, h1]
  have Hr1 : Hid (∀ (v : Nat) W1, Grew w W1 → v < nA → Calls Tryd.prog 45 #[.agg #[.int .i64 nA, .slice pE nE cE, .slice pA nA cA], .slice pL nL cL, .int .i64 v, .int .i64 1] W1 fun e w' => e = .returned (.int .i64 (regF nA E A L v (oth (nxF A (nxF A 0))))) ∧ Grew W1 w') := Lib.hid (fun v W1 h hv => by
    have := region_r nA pE pA pL nE nA nL cE cA cL E A L W1 (HR.out.grew h) HT.out HS.out HAc.out (HI.out.grew h) HnE.out HnA.out HnL.out v (by rw [HnA.out]; exact hv) 1 2 0 s2 (by omega) (by decide) (by decide) hs2l (by rw [← hs2]; rfl) (by rw [← hs2, ot5]; rfl) hf2
    rw [← hs2] at this
    exact this)
  have Hr2 : Hid (∀ (v : Nat) W1, Grew w W1 → v < nA → Calls Tryd.prog 45 #[.agg #[.int .i64 nA, .slice pE nE cE, .slice pA nA cA], .slice pL nL cL, .int .i64 v, .int .i64 2] W1 fun e w' => e = .returned (.int .i64 (regF nA E A L v 1)) ∧ Grew W1 w') := Lib.hid (fun v W1 h hv => region_r nA pE pA pL nE nA nL cE cA cL E A L W1 (HR.out.grew h) HT.out HS.out HAc.out (HI.out.grew h) HnE.out HnA.out HnL.out v (by rw [HnA.out]; exact hv) 2 0 1 0 (by omega) (by decide) (by decide) (by omega) rfl rfl rfl)
  have Hrts : Hid (∀ W1, Grew w W1 → Calls Tryd.prog 23 #[.agg #[.int .i64 nA, .slice pE nE cE, .slice pA nA cA]] W1 fun e w' => Grew W1 w' ∧ ∃ q cap, e = .returned (.slice q 3 cap) ∧ Ints w' q (rts E A)) := Lib.hid (fun W1 h => (roots_r _ pE pA nE nA cE cA E A W1 (HR.out.grew h) HT.out HnE.out HnA.out).mono fun e w' ⟨h1, q, cap, h2, h3, _⟩ => ⟨h1, q, cap, h2, h3⟩)
  clear her hR hI hT hF hS hV hal hAc hN3 hnA hnE hnL hE0 hs1 hs2 ot5 hf2 hs1l hs2l
  go_enter Tryd.func18, Tryd.ntmps18
  go_upto_region 1 with fail
  have HgB : Hid (Grew w (w.alloc (.cells #[.int .i64 nA, .slice pE nE cE, .slice pA nA cA] 25))) := Lib.hid ((Grew.refl w).alloc _)
  have k0 : (w.alloc (.cells #[.int .i64 nA, .slice pE nE cE, .slice pA nA cA] 25)).cell? ⟨w.heap.size, 0, none⟩ = some (.int .i64 nA) := by simp [go_sem]
  have k1 : (w.alloc (.cells #[.int .i64 nA, .slice pE nE cE, .slice pA nA cA] 25)).cell? ⟨w.heap.size, 1, none⟩ = some (.slice pE nE cE) := by simp [go_sem]
  have k2 : (w.alloc (.cells #[.int .i64 nA, .slice pE nE cE, .slice pA nA cA] 25)).cell? ⟨w.heap.size, 2, none⟩ = some (.slice pA nA cA) := by simp [go_sem]
  obtain ⟨wB, hwB⟩ : ∃ wB, w.alloc (.cells #[.int .i64 nA, .slice pE nE cE, .slice pA nA cA] 25) = wB := ⟨_, rfl⟩
  rw [hwB] at HgB k0 k1 k2 ⊢
  have hwl := World.block_lt_of_cell? wB _ k0
  dsimp only at hwl
  clear hwB
  go_upto_region 5 with (first
    | (go_at_call 38; apply Calls.mono; (with_reducible exact Hck.out _ (HgB.out.trans (by (repeat (first | exact gR _ | refine gO ?_ _ | refine gA ?_ _ | refine gD ?_ | refine gN ?_ _))))); rintro e w3 ⟨rfl, hg3⟩; have Hg3 := Lib.hid ((show Grew wB _ by (repeat (first | exact gR _ | refine gO ?_ _ | refine gA ?_ _ | refine gD ?_ | refine gN ?_ _))).trans hg3); have n0 := Hg3.out.cellEq k0; have n1 := Hg3.out.cellEq k1; have n2 := Hg3.out.cellEq k2; have hlw3 := World.block_lt_of_cell? w3 _ n0; dsimp only at hlw3; clear hg3)
    | (go_at_call 23; apply Calls.mono; (with_reducible exact Hrts.out _ (HgB.out.trans (Hg3.out.trans (by (repeat (first | exact gR _ | refine gO ?_ _ | refine gA ?_ _ | refine gD ?_ | refine gN ?_ _)))))); rintro e w4 ⟨hg4, q4, c4, rfl, hI4⟩; have HI4 := Lib.hid hI4; have Hg4 := Lib.hid (Hg3.out.trans ((show Grew w3 _ by (repeat (first | exact gR _ | refine gO ?_ _ | refine gA ?_ _ | refine gD ?_ | refine gN ?_ _))).trans hg4)); have m0 := Hg4.out.cellEq k0; have m1 := Hg4.out.cellEq k1; have m2 := Hg4.out.cellEq k2; have hlw4 := World.block_lt_of_cell? w4 _ m0; dsimp only at hlw4; clear hI4 hg4))
  go_upto_region 6 with fail
  have HgC : Hid (Grew w4 (w4.alloc (.cells #[.int .i64 0, .int .i64 0, .int .i64 (2 * (nA : Int) - 5), .int .i64 0, .int .i64 0, .int .i64 (2 * (nA : Int) - 5)] 43))) := Lib.hid ((Grew.refl w4).alloc _)
  have Hcr : Hid (∀ k : Nat, k < 3 → (w4.alloc (.cells #[.int .i64 0, .int .i64 0, .int .i64 (2 * (nA : Int) - 5), .int .i64 0, .int .i64 0, .int .i64 (2 * (nA : Int) - 5)] 43)).cell? ⟨w4.heap.size, k * 2, none⟩ = some (.int .i64 (if k = 1 then 2 * (nA : Int) - 5 else 0)) ∧ (w4.alloc (.cells #[.int .i64 0, .int .i64 0, .int .i64 (2 * (nA : Int) - 5), .int .i64 0, .int .i64 0, .int .i64 (2 * (nA : Int) - 5)] 43)).cell? ⟨w4.heap.size, k * 2 + 1, none⟩ = some (.int .i64 (if k = 2 then 2 * (nA : Int) - 5 else 0))) := Lib.hid (fun k hk => by
    rcases (by omega : k = 0 ∨ k = 1 ∨ k = 2) with rfl | rfl | rfl
    · exact ⟨by simp [go_sem], by simp [go_sem]⟩
    · exact ⟨by simp [go_sem], by simp [go_sem]⟩
    · exact ⟨by simp [go_sem], by simp [go_sem]⟩)
  have hsC : (w4.alloc (.cells #[.int .i64 0, .int .i64 0, .int .i64 (2 * (nA : Int) - 5), .int .i64 0, .int .i64 0, .int .i64 (2 * (nA : Int) - 5)] 43)).heap.size = w4.heap.size + 1 := by simp
  obtain ⟨wC, hwC⟩ : ∃ wC, w4.alloc (.cells #[.int .i64 0, .int .i64 0, .int .i64 (2 * (nA : Int) - 5), .int .i64 0, .int .i64 0, .int .i64 (2 * (nA : Int) - 5)] 43) = wC := ⟨_, rfl⟩
  rw [hwC] at HgC Hcr hsC ⊢
  obtain ⟨bc, hbc⟩ : ∃ bc, w4.heap.size = bc := ⟨_, rfl⟩
  rw [hbc] at Hcr hsC ⊢
  have j0 := HgC.out.cellEq m0
  have j1 := HgC.out.cellEq m1
  have j2 := HgC.out.cellEq m2
  have HgBC : Hid (Grew wB wC) := Lib.hid (Hg4.out.trans HgC.out)
  have hlwC := World.block_lt_of_cell? wC _ j0
  dsimp only at hlwC
  have HsC := Lib.hid hsC
  have J0 := Lib.hid j0
  have J1 := Lib.hid j1
  have J2 := Lib.hid j2
  have HIC := Lib.hid (HI4.out.grew HgC.out)
  have HgwC : Hid (Grew w wC) := Lib.hid (HgB.out.trans HgBC.out)
  clear hwC hbc m0 m1 m2 n0 n1 n2 k0 k1 k2 hlw3 hlw4 hwl Hrts Hck hsC Hg3 Hg4 HI4 HgC HgBC HgB
  go_upto_region 7 with fail
  have HO0 := Lib.hid ((Owns.nil wC wC.heap.size).made (by simp) #[] 43 2 0 wC.heap.size rfl (by decide) (by simp))
  have HgP : Hid (Grew wC (wC.alloc (.cells #[] 43))) := Lib.hid ((Grew.refl wC).alloc _)
  obtain ⟨wP, hwP⟩ : ∃ wP, wC.alloc (.cells #[] 43) = wP := ⟨_, rfl⟩
  rw [hwP] at HO0 HgP ⊢
  clear hwP j0 j1 j2 hlwC
  go_wp2
  go_loopw [9, 10] (fun ov vv wr => ∃ v : Nat, v ≤ nA ∧ vv = .int .i64 v ∧ Grew wC wr ∧ ∃ P : List (Int × Int), P.length = v ∧ Owns wr wC.heap.size [ptRow ov P] ∧ ∀ u, u < v → pr P u = ptF nA E A L u) (fun _ vv _ => nA - (intOf vv).toNat)
  case atStart => exact ⟨0, Nat.zero_le _, rfl, HgP.out.trans (by (repeat (first | exact gR _ | refine gO ?_ _ | refine gA ?_ _ | refine gD ?_ | refine gN ?_ _))), [], rfl, HO0.out.grew (by (repeat (first | exact gR _ | refine gO ?_ _ | refine gA ?_ _ | refine gD ?_ | refine gN ?_ _))), fun u hu => by omega⟩
  case round =>
    clear HgP HO0
    obtain ⟨v, hv, rfl, hgr, P, hPl, hO, hall⟩ := hrel
    have Hgr := Lib.hid hgr
    have HO := Lib.hid hO
    have Hall := Lib.hid hall
    have HPl := Lib.hid hPl
    have Hgwr : Hid (Grew w wr) := Lib.hid (HgwC.out.trans hgr)
    have m0 := hgr.cellEq J0.out
    have m1 := hgr.cellEq J1.out
    have m2 := hgr.cellEq J2.out
    have hlwr := World.block_lt_of_cell? wr _ m0
    dsimp only at hlwr
    have hPl2 : P.length ≤ 2000 := by omega
    obtain ⟨pO, cO, rfl⟩ := own_form hO (k := 0) rfl
    clear hgr hO hall hPl
    by_cases hlt : v < nA
    · obtain ⟨r, hr⟩ : ∃ r, idx (v : Int) (rts E A) = r := ⟨_, rfl⟩
      have Hpl : Hid (∀ W1, Grew wr W1 → Calls Tryd.prog 42 #[.slice q4 3 c4, .int .i64 v] W1 fun e w' => e = .returned (.int .i64 r) ∧ W1 = w') := Lib.hid (fun W1 h => place_r q4 3 c4 (rts E A) v W1 (HIC.out.grew (Hgr.out.trans h)) rfl r hr)
      by_cases hr0 : 0 ≤ r
      · have hyi : (v : Int) ∈ rts E A := Classical.byContradiction fun k => by have := idx_neg_iff.2 k; omega
        obtain ⟨i, hi1, hi2, _⟩ := idx_lt hyi
        have hi3 : i < 3 := by simpa [rts] using hi1
        obtain rfl : r = (i : Int) := by omega
        have Hpv : Hid (ptF nA E A L v = (if i = 1 then 2 * (nA : Int) - 5 else 0, if i = 2 then 2 * (nA : Int) - 5 else 0)) := Lib.hid (by
          unfold ptF
          rw [if_pos hyi, hi2]
          rcases (by omega : i = 0 ∨ i = 1 ∨ i = 2) with rfl | rfl | rfl
          · simp
          · simp
          · simp)
        obtain ⟨p1, p2⟩ := Hcr.out i hi3
        have p1 := Hgr.out.cellEq p1
        have p2 := Hgr.out.cellEq p2
        obtain ⟨x1, hx1⟩ : ∃ x1, (if i = 1 then 2 * (nA : Int) - 5 else 0) = x1 := ⟨_, rfl⟩
        obtain ⟨x2, hx2⟩ : ∃ x2, (if i = 2 then 2 * (nA : Int) - 5 else 0) = x2 := ⟨_, rfl⟩
        rw [hx1] at p1 Hpv
        rw [hx2] at p2 Hpv
        have hii : (i : Int) < 3 := by omega
        clear hr hyi hi1 hi2 hx1 hx2 hi3
        go_wp2_with (first
          | ((go_at_call 42; apply Calls.mono; (with_reducible exact Hpl.out _ (by (repeat (first | exact gR _ | refine gO ?_ _ | refine gA ?_ _ | refine gD ?_ | refine gN ?_ _)))); rintro e w' ⟨rfl, rfl⟩))
          | (at_builtin; refine wp_append_pt rfl _ _ rfl wC _ P (HO.out.grew (by (repeat (first | exact gR _ | refine gO ?_ _ | refine gA ?_ _ | refine gD ?_ | refine gN ?_ _)))) (Hgr.out.trans (by (repeat (first | exact gR _ | refine gO ?_ _ | refine gA ?_ _ | refine gD ?_ | refine gN ?_ _)))) rfl _ rfl x1 x2 (by (simp [go_sem, ↓IntWalk.iteOmega])) (by (simp [go_sem, ↓IntWalk.iteOmega])) (by omega) ?_; intro v1 w1 hO1 hg1; have HO1 := Lib.hid hO1; have Hg1 := Lib.hid hg1; clear hO1 hg1))
        go_roundw
        case rel => exact ⟨v + 1, by omega, by go_num, Hg1.out.trans (by (repeat (first | exact gR _ | refine gO ?_ _ | refine gA ?_ _ | refine gD ?_ | refine gN ?_ _))), P ++ [(x1, x2)], by rw [List.length_append, HPl.out]; rfl, HO1.out.grew (by (repeat (first | exact gR _ | refine gO ?_ _ | refine gA ?_ _ | refine gD ?_ | refine gN ?_ _))), fun u hu => by
          by_cases e : u = v
          · rw [e, Hpv.out]; unfold pr; simp [HPl.out]
          · have : pr (P ++ [(x1, x2)]) u = pr P u := by
              unfold pr
              rw [List.getD_eq_getElem?_getD, List.getD_eq_getElem?_getD, List.getElem?_append_left (by have := HPl.out; omega)]
            rw [this]; exact Hall.out u (by omega)⟩
        case measure => (simp [intOf] <;> omega)
      · have hni : (v : Int) ∉ rts E A := idx_neg_iff.1 (by omega)
        obtain ⟨n1, hn1⟩ : ∃ n1, regF nA E A L v (oth (nxF A (nxF A 0))) = n1 := ⟨_, rfl⟩
        obtain ⟨n2, hn2⟩ : ∃ n2, regF nA E A L v 1 = n2 := ⟨_, rfl⟩
        have Hpv : Hid (ptF nA E A L v = ((n1 : Int), (n2 : Int))) := Lib.hid (by unfold ptF; rw [if_neg hni, hn1, hn2])
        have Hv1 := Lib.hid (fun W1 (h : Grew w W1) => Hr1.out v W1 h hlt)
        have Hv2 := Lib.hid (fun W1 (h : Grew w W1) => Hr2.out v W1 h hlt)
        rw [hn1] at Hv1
        rw [hn2] at Hv2
        have hrn : ¬ 0 ≤ r := hr0
        clear hr hni hn1 hn2
        go_upto_region 13 with ((go_at_call 42; apply Calls.mono; (with_reducible exact Hpl.out _ (by (repeat (first | exact gR _ | refine gO ?_ _ | refine gA ?_ _ | refine gD ?_ | refine gN ?_ _)))); rintro e w' ⟨rfl, rfl⟩))
        refine wp_region_T (s := 13) (S := fun w' => w'.cell? ⟨w.heap.size, 0, none⟩ = some (.int .i64 nA) ∧ w'.cell? ⟨w.heap.size, 1, none⟩ = some (.slice pE nE cE) ∧ w'.cell? ⟨w.heap.size, 2, none⟩ = some (.slice pA nA cA)) (by kernel_rfl) ⟨by simpa using m0, by simpa using m1, by simpa using m2⟩ (fun hH => ?_)
        refine wpAnyT_takeV (i := 0) (v := ?_) rfl (by kernel_rfl) (by kernel_rfl) (by kernel_rfl) (by decide) (fun _ _ _ h => h) (Or.inl ⟨by rfl, ?_⟩) (by assumption) ?_
        rotate_left
        · (intro w hSw; (try dsimp only at hSw); go_simp; (try with_reducible rfl))
        (try simp only [Act.put, List.setIfInBounds_toArray, List.set_cons_zero, List.set_cons_succ])
        refine wpAnyT_takeV (i := 1) (v := ?_) rfl (by kernel_rfl) (by kernel_rfl) (by kernel_rfl) (by decide) (fun _ _ _ h => h) (Or.inl ⟨by rfl, ?_⟩) (by assumption) ?_
        rotate_left
        · (intro w hSw; (try dsimp only at hSw); go_simp; (try with_reducible rfl))
        (try simp only [Act.put, List.setIfInBounds_toArray, List.set_cons_zero, List.set_cons_succ])
        refine wpAnyT_takeV (i := 2) (v := ?_) rfl (by kernel_rfl) (by kernel_rfl) (by kernel_rfl) (by decide) (fun _ _ _ h => h) (Or.inl ⟨by rfl, ?_⟩) (by assumption) ?_
        rotate_left
        · (intro w hSw; (try dsimp only at hSw); go_simp; (try with_reducible rfl))
        (try simp only [Act.put, List.setIfInBounds_toArray, List.set_cons_zero, List.set_cons_succ])
        refine wpAnyT_takeV (i := 3) (v := ?_) rfl (by kernel_rfl) (by kernel_rfl) (by kernel_rfl) (by decide) (fun _ _ _ h => h) (Or.inl ⟨by rfl, ?_⟩) (by assumption) ?_
        rotate_left
        · (intro w hSw; (try dsimp only at hSw); go_simp; (try with_reducible rfl))
        (try simp only [Act.put, List.setIfInBounds_toArray, List.set_cons_zero, List.set_cons_succ])
        refine wpAnyT_takeV (i := 5) (v := ?_) rfl (by kernel_rfl) (by kernel_rfl) (by kernel_rfl) (by decide) (fun _ _ _ h => h) (Or.inl ⟨by rfl, ?_⟩) (by assumption) ?_
        rotate_left
        · (intro w hSw; (try dsimp only at hSw); go_simp; (try with_reducible rfl))
        (try simp only [Act.put, List.setIfInBounds_toArray, List.set_cons_zero, List.set_cons_succ])
        refine wpAnyT_takeV (i := 6) (v := ?_) rfl (by kernel_rfl) (by kernel_rfl) (by kernel_rfl) (by decide) (fun _ _ _ h => h) (Or.inl ⟨by rfl, ?_⟩) (by assumption) ?_
        rotate_left
        · (intro w hSw; (try dsimp only at hSw); go_simp; (try with_reducible rfl))
        (try simp only [Act.put, List.setIfInBounds_toArray, List.set_cons_zero, List.set_cons_succ])
        refine wpAnyT_takeV (i := 7) (v := ?_) rfl (by kernel_rfl) (by kernel_rfl) (by kernel_rfl) (by decide) (fun _ _ _ h => h) (Or.inl ⟨by rfl, ?_⟩) (by assumption) ?_
        rotate_left
        · (intro w hSw; (try dsimp only at hSw); go_simp; (try with_reducible rfl))
        (try simp only [Act.put, List.setIfInBounds_toArray, List.set_cons_zero, List.set_cons_succ])
        obtain ⟨wk, hwk⟩ : ∃ wk, wr.drew = wk := ⟨_, rfl⟩
        have Hcur : Hid (Grew wr wk) := Lib.hid (by rw [← hwk]; exact (Grew.refl wr).drew)
        rw [hwk] at hH ⊢
        replace m0 := hH.1
        replace m1 := hH.2.1
        replace m2 := hH.2.2
        clear hwk
        refine wpAnyT_all (rs := [4]) (by kernel_rfl) (by simp) (AllT.consL (i := 4) rfl (fun K hK => ?_) AllT.nil)
        go_simp; go_wp2_with (go_at_call 45; apply Calls.mono; (with_reducible exact Hv1.out _ (Hgwr.out.trans (Hcur.out.trans (by (repeat (first | exact gR _ | refine gO ?_ _ | refine gA ?_ _ | refine gD ?_ | refine gN ?_ _)))))); rintro e wk ⟨rfl, hgk9⟩; have hgk8 := Grew.trans (by (repeat (first | exact gR _ | refine gO ?_ _ | refine gA ?_ _ | refine gD ?_ | refine gN ?_ _))) hgk9; have Hcur := Lib.hid (Hcur.out.trans hgk8); have m0 := hgk8.cellEq m0; have m1 := hgk8.cellEq m1; have m2 := hgk8.cellEq m2; clear hgk8 hgk9)
        refine hK.out _ _ ?_ (fun hH => ?_)
        · (first | (simp [go_sem, ↓IntWalk.iteOmega, *]; done) | go_keep)
        clear hK K
        (try simp only [Act.put, List.setIfInBounds_toArray, List.set_cons_zero, List.set_cons_succ])
        refine wpAnyT_all (rs := [8]) (by kernel_rfl) (by simp) (AllT.consL (i := 8) rfl (fun K hK => ?_) AllT.nil)
        go_simp; go_wp2_with (go_at_call 45; apply Calls.mono; (with_reducible exact Hv2.out _ (Hgwr.out.trans (Hcur.out.trans (by (repeat (first | exact gR _ | refine gO ?_ _ | refine gA ?_ _ | refine gD ?_ | refine gN ?_ _)))))); rintro e wk ⟨rfl, hgk9⟩; have hgk8 := Grew.trans (by (repeat (first | exact gR _ | refine gO ?_ _ | refine gA ?_ _ | refine gD ?_ | refine gN ?_ _))) hgk9; have Hcur := Lib.hid (Hcur.out.trans hgk8); have m0 := hgk8.cellEq m0; have m1 := hgk8.cellEq m1; have m2 := hgk8.cellEq m2; clear hgk8 hgk9)
        refine hK.out _ _ ?_ (fun hH => ?_)
        · (first | (simp [go_sem, ↓IntWalk.iteOmega, *]; done) | go_keep)
        clear hK K
        (try simp only [Act.put, List.setIfInBounds_toArray, List.set_cons_zero, List.set_cons_succ])
        refine wpAnyT_takeV (i := 9) (v := ?_) rfl (by kernel_rfl) (by kernel_rfl) (by kernel_rfl) (by decide) (fun _ _ _ h => h) (Or.inl ⟨by rfl, ?_⟩) (by assumption) ?_
        rotate_left
        · (intro w hSw; (try dsimp only at hSw); go_simp; (try with_reducible rfl))
        (try simp only [Act.put, List.setIfInBounds_toArray, List.set_cons_zero, List.set_cons_succ])
        refine wpAnyT_all (rs := [10]) (by kernel_rfl) (by simp) (AllT.consL (i := 10) rfl (fun K hK => ?_) AllT.nil)
        go_simp
        refine hK.out _ _ ?_ (fun hH => ?_)
        · (first | (simp [go_sem, ↓IntWalk.iteOmega, *]; done) | go_keep)
        clear hK K
        (try simp only [Act.put, List.setIfInBounds_toArray, List.set_cons_zero, List.set_cons_succ])
        refine wpAnyT_all (rs := [11]) (by kernel_rfl) (by simp) (AllT.consL (i := 11) rfl (fun K hK => ?_) AllT.nil)
        refine step_append_owns rfl _ _ 36 (by rfl) 43 2 16 (.agg #[.int .i64 0, .int .i64 0]) Tryd.underlying36 infoPt rfl (by decide) wC.heap.size _ 0 _ _ _ (HO.out.grew (Hcur.out.trans (by (repeat (first | exact gR _ | refine gO ?_ _ | refine gA ?_ _ | refine gD ?_ | refine gN ?_ _))))) rfl (by rfl) _ 1 1 (by rfl) [.int .i64 (n1 : Int), .int .i64 (n2 : Int)] rfl (fun h => by cases h) (two_news (by (simp [go_sem, ↓IntWalk.iteOmega])) (by (simp [go_sem, ↓IntWalk.iteOmega]))) (by simp [Value.oneCell']) (by simp only [maxLen]; omega) (by omega) (Hgr.out.trans (Hcur.out.trans (by (repeat (first | exact gR _ | refine gO ?_ _ | refine gA ?_ _ | refine gD ?_ | refine gN ?_ _))))).below.size ?_
        intro v1 w1 hO1 hg1 hb1 _
        have hG1 : Grew wC w1 := Grew.grownBy (Hgr.out.trans (Hcur.out.trans (by (repeat (first | exact gR _ | refine gO ?_ _ | refine gA ?_ _ | refine gD ?_ | refine gN ?_ _))))) hg1 hb1
        have q0 := hG1.cellEq J0.out
        have q1 := hG1.cellEq J1.out
        have q2 := hG1.cellEq J2.out
        have HG1 := Lib.hid hG1
        have HO1 : Hid (Owns w1 wC.heap.size [ptRow v1 (P ++ [((n1 : Int), (n2 : Int))])]) := Lib.hid (by
          have e : (⟨v1, 43, 2, P.length + 1, prVs P ++ [.int .i64 (n1 : Int), .int .i64 (n2 : Int)]⟩ : Row) = ptRow v1 (P ++ [((n1 : Int), (n2 : Int))]) := by
            simp [ptRow, prVs_app, prVs]
          have h2 := hO1
          rw [List.set_cons_zero, e] at h2
          exact h2)
        refine hK.out _ _ ⟨q0, q1, q2⟩ (fun hH => ?_)
        clear hK K hO1 hg1 hG1 hb1
        (try simp only [Act.put, List.setIfInBounds_toArray, List.set_cons_zero, List.set_cons_succ])
        refine wpAnyT_all (rs := [12]) (by kernel_rfl) (by simp) (AllT.consL (i := 12) rfl (fun K hK => ?_) AllT.nil)
        go_simp
        refine hK.out _ _ ?_ (fun hH => ?_)
        · (first | (simp [go_sem, ↓IntWalk.iteOmega, *]; done) | go_keep)
        clear hK K
        (try simp only [Act.put, List.setIfInBounds_toArray, List.set_cons_zero, List.set_cons_succ])
        refine wpAnyT_done (by kernel_rfl) ?_ _
        go_wp2_with fail
        go_roundw
        case rel => exact ⟨v + 1, by omega, by go_num, HG1.out.trans (by (repeat (first | exact gR _ | refine gO ?_ _ | refine gA ?_ _ | refine gD ?_ | refine gN ?_ _))), P ++ [((n1 : Int), (n2 : Int))], by rw [List.length_append, HPl.out]; rfl, HO1.out.grew (by (repeat (first | exact gR _ | refine gO ?_ _ | refine gA ?_ _ | refine gD ?_ | refine gN ?_ _))), fun u hu => by
          by_cases e : u = v
          · rw [e, Hpv.out]; unfold pr; simp [HPl.out]
          · have : pr (P ++ [((n1 : Int), (n2 : Int))]) u = pr P u := by
              unfold pr
              rw [List.getD_eq_getElem?_getD, List.getD_eq_getElem?_getD, List.getElem?_append_left (by have := HPl.out; omega)]
            rw [this]; exact Hall.out u (by omega)⟩
        case measure => (simp [intOf] <;> omega)
    · obtain rfl : v = nA := by omega
      have HP : Hid (P = drawL v E A L) := Lib.hid (by
        unfold drawL
        refine List.ext_getElem (by rw [HPl.out, List.length_map, List.length_range]; exact HnA.out.symm) fun i h1 h2 => ?_
        have := Hall.out i (by rw [HPl.out] at h1; exact h1)
        rw [← pr_eq P h1, this]
        simp)
      go_wp2
      go_ret2
      rw [Hf.out]
      obtain ⟨q, cap, e, _, hPr⟩ := prs_of_owns (HO.out.grew (show Grew wr _ by (repeat (first | exact gR _ | refine gO ?_ _ | refine gA ?_ _ | refine gD ?_ | refine gN ?_ _)))) (k := 0) rfl
      cases e
      rw [← HP.out]
      exact ⟨Hgwr.out.trans (by (repeat (first | exact gR _ | refine gO ?_ _ | refine gA ?_ _ | refine gD ?_ | refine gN ?_ _))), _, _, rfl, hPr⟩
end Go.Proofs.YtlealdicoceekaaDoor

/- Build of the program. -/
namespace Go.Proofs.YtlealdicoceekaaDoor
open Go.RowKit
attribute [local go_sem ↓] Go.wp_at_zero Go.wp_at_succ

/-- The darts from a vertex to those of a contour, in the contour's order. -/
def nearF (E : List (Int × Int)) (row : List Int) (u : Int) : List Int := row.filter fun d => tailE E (oth d) == u
def nearB (E : List (Int × Int)) (row C : List Int) : List Int := C.flatMap (nearF E row)
/-- The labels that they get. -/
def putK (A : List (List Int)) (nl : List Int) (X : List Int) : Nat → List Int
  | 0 => X
  | i + 1 => if outB A (ge nl i) = true then putK A nl X i else if i = 0 then (putK A nl X i).set (ge nl i).toNat 0 else if i + 1 = nl.length then (putK A nl X i).set (ge nl i).toNat 1 else (putK A nl X i).set (oth (ge nl i)).toNat 2
noncomputable def contG (N : Int) (E : List (Int × Int)) (A : List (List Int)) (O : List Int) (j : Nat) : List Int := (contP N E A O j).getD []
noncomputable def buildK (N : Int) (E : List (Int × Int)) (A : List (List Int)) (O : List Int) : Nat → List Int
  | 0 => List.replicate (2 * E.length) (-1)
  | k + 1 => putK A (nearB E (rowOf A (ge O (k + 2)).toNat) (contG N E A O k)) (buildK N E A O k) (nearB E (rowOf A (ge O (k + 2)).toNat) (contG N E A O k)).length
noncomputable def buildRes (N : Int) (E : List (Int × Int)) (A : List (List Int)) (O : List Int) : List Int × Int :=
  if trgB N E A = false then ([], 13) else if chkO N E A O = false then ([], 1) else (buildK N E A O (O.length - 2), 0)
theorem putK_len (A : List (List Int)) (nl X : List Int) : ∀ i, (putK A nl X i).length = X.length
  | 0 => rfl
  | i + 1 => by
    unfold putK
    split
    · exact putK_len A nl X i
    · split
      · rw [List.length_set]; exact putK_len A nl X i
      · split
        · rw [List.length_set]; exact putK_len A nl X i
        · rw [List.length_set]; exact putK_len A nl X i
theorem buildK_len (N : Int) (E : List (Int × Int)) (A : List (List Int)) (O : List Int) : ∀ k, (buildK N E A O k).length = 2 * E.length
  | 0 => by unfold buildK; simp
  | k + 1 => by unfold buildK; rw [putK_len]; exact buildK_len N E A O k
theorem putK_rng (A : List (List Int)) (nl : List Int) {X : List Int} (h : ∀ x ∈ X, -1 ≤ x ∧ x ≤ 2) : ∀ i, ∀ x ∈ putK A nl X i, -1 ≤ x ∧ x ≤ 2
  | 0 => h
  | i + 1 => fun x hx => by
    have ih := putK_rng A nl h i
    unfold putK at hx
    split at hx
    · exact ih x hx
    · split at hx
      · rcases List.mem_or_eq_of_mem_set hx with k | k
        · exact ih x k
        · omega
      · split at hx
        · rcases List.mem_or_eq_of_mem_set hx with k | k
          · exact ih x k
          · omega
        · rcases List.mem_or_eq_of_mem_set hx with k | k
          · exact ih x k
          · omega
theorem buildK_rng (N : Int) (E : List (Int × Int)) (A : List (List Int)) (O : List Int) : ∀ k, ∀ x ∈ buildK N E A O k, -1 ≤ x ∧ x ≤ 2
  | 0 => fun x hx => by unfold buildK at hx; rw [List.mem_replicate] at hx; omega
  | k + 1 => by unfold buildK; exact putK_rng _ _ (buildK_rng N E A O k) _
theorem nearB_succ {E : List (Int × Int)} {row C : List Int} {i : Nat} (h : i < C.length) : nearB E row (C.take (i + 1)) = nearB E row (C.take i) ++ nearF E row (ge C i) := by
  unfold nearB
  rw [List.take_succ_eq_append_getElem h, List.flatMap_append, ← ge_eq C h]
  simp
theorem nearF_succ {E : List (Int × Int)} {row : List Int} {u : Int} {i : Nat} (h : i < row.length) : nearF E (row.take (i + 1)) u = nearF E (row.take i) u ++ if (tailE E (oth (ge row i)) == u) = true then [ge row i] else [] := by
  unfold nearF
  rw [List.take_succ_eq_append_getElem h, List.filter_append, ← ge_eq row h]
  congr 1
  rw [List.filter_cons, List.filter_nil]
theorem nearF_len (E : List (Int × Int)) (row : List Int) (u : Int) : (nearF E row u).length ≤ row.length := List.length_filter_le _ _
theorem nearB_len (E : List (Int × Int)) (row : List Int) : ∀ C : List Int, (nearB E row C).length ≤ C.length * row.length
  | [] => by simp [nearB]
  | u :: C => by
    have h1 := nearB_len E row C
    have h2 := nearF_len E row u
    unfold nearB at h1 ⊢
    rw [List.flatMap_cons, List.length_append, List.length_cons, Nat.add_mul]
    omega
theorem cont_yes {N : Int} {pE pA : Option Addr} {nE nA cE cA : Nat} {E : List (Int × Int)} {A : List (List Int)} {pO : Option Addr} {nO cO : Nat} {O : List Int} {w : World} {j k : Nat} {C : List Int} {n : Nat} (h : chkO N E A O = true) (hC : contP N E A O j = some C) (hk : k = j + 2) (hj : (j : Int) + 2 ≤ N) (hn : C.length = n)
    (hR : RotIn w pE pA cE E A) (hL : Lim w) (hO : Ints w pO O) (hO1 : O.length ≤ 30) (hO2 : nO ≤ cO) (hO3 : cO ≤ maxLen) (hnE : E.length = nE) (hnA : A.length = nA) (hnO : O.length = nO) :
    Calls Tryd.prog 30 #[.agg #[.int .i64 N, .slice pE nE cE, .slice pA nA cA], .slice pO nO cO, .int .i64 k] w fun e w' => Grew w w' ∧ ∃ q cap, e = .returned (.tuple #[.slice q n cap, .int .i64 0]) ∧ Ints w' q C ∧ n ≤ cap ∧ cap ≤ maxLen := by
  subst hn hk
  have := contour36_p N pE pA nE nA cE cA E A pO nO cO O ((j + 2 : Nat) : Int) w hR hL hO hO1 hO2 hO3 hnE hnA hnO
  have e : contRes N E A O ((j + 2 : Nat) : Int) = (C, 0) := by
    unfold contRes
    rw [if_neg (by rw [(chkO_iff.1 h).1]; simp), if_neg (by rw [h]; simp), if_neg (by omega), show (((j + 2 : Nat) : Int) - 2).toNat = j by omega, hC]
    rfl
  rw [e] at this
  exact this.mono fun e w' ⟨hg, q, cap, h1, h2, h3, h4⟩ => ⟨hg, q, cap, h1, h2, by omega, h4⟩
set_option maxRecDepth 8000 in
set_option maxHeartbeats 16000000 in
theorem build_p (N : Int) (pE pA pO : Option Addr) (nE nA nO cE cA cO : Nat) (E : List (Int × Int)) (A : List (List Int)) (O : List Int) (w : World) (hR : RotIn w pE pA cE E A) (hL : Lim w) (hI : Ints w pO O) (hO1 : O.length ≤ 30) (hO2 : nO ≤ cO) (hO3 : cO ≤ maxLen) (hnE : E.length = nE) (hnA : A.length = nA) (hnO : O.length = nO) :
    Calls Tryd.prog 10 #[.agg #[.int .i64 N, .slice pE nE cE, .slice pA nA cA], .slice pO nO cO] w (TwoPost (buildRes N E A O).1 (buildRes N E A O).2 w) := by
  have HR := Lib.hid hR
  have HL := Lib.hid hL
  have HI := Lib.hid hI
  have hO30 : nO ≤ 30 := by omega
  cases hT : trgB N E A
  case false =>
    have Hf : Hid (buildRes N E A O = ([], 13)) := Lib.hid (by unfold buildRes; rw [if_pos hT])
    have Ho : Hid (∀ W1, Grew w W1 → Calls Tryd.prog 28 #[.agg #[.int .i64 N, .slice pE nE cE, .slice pA nA cA]] W1 fun e w' => e = .returned (.pointer none) ∧ Grew W1 w') := Lib.hid (fun W1 h => open_no _ _ _ _ _ _ _ _ _ _ (HR.out.grew h) (HL.out.grew h) hT hnE hnA)
    clear hR hL hI hT
    go_enter Tryd.func10, Tryd.ntmps10
    go_wp2_with ((go_at_call 28; apply Calls.mono; (with_reducible exact Ho.out _ (by (repeat (first | exact gR _ | refine gO ?_ _ | refine gA ?_ _ | refine gD ?_ | refine gN ?_ _)))); rintro e w' ⟨rfl, x, rfl⟩))
    go_ret2
    rw [Hf.out]
    exact TwoPost.none (by (repeat (first | exact gR _ | refine gO ?_ _ | refine gA ?_ _ | refine gD ?_ | refine gN ?_ _)))
  case true =>
  obtain ⟨t, ht⟩ : ∃ t, chkO N E A O = t := ⟨_, rfl⟩
  have Hk : Hid (∀ W1, Grew w W1 → Calls Tryd.prog 29 #[.agg #[.int .i64 N, .slice pE nE cE, .slice pA nA cA], .slice pO nO cO] W1 fun e w' => e = .returned (.bool t) ∧ Grew W1 w') := Lib.hid (fun W1 h => by
    rw [← ht]
    exact check36_p _ _ _ _ _ _ _ _ _ _ _ _ _ _ (HR.out.grew h) (HL.out.grew h) (HI.out.grew h) hO1 hO2 hO3 hnE hnA hnO)
  have HT := Lib.hid hT
  cases t
  case false =>
    have Hf : Hid (buildRes N E A O = ([], 1)) := Lib.hid (by unfold buildRes; rw [if_neg (by rw [hT]; simp), if_pos ht])
    clear hR hL hI hT ht
    go_enter Tryd.func10, Tryd.ntmps10
    go_wp2_with (first
      | (go_at_call 28; apply Calls.mono; (with_reducible exact open_yes _ _ _ _ _ _ _ _ _ _ (HR.out.grew (by (repeat (first | exact gR _ | refine gO ?_ _ | refine gA ?_ _ | refine gD ?_ | refine gN ?_ _)))) (HL.out.grew (by (repeat (first | exact gR _ | refine gO ?_ _ | refine gA ?_ _ | refine gD ?_ | refine gN ?_ _)))) HT.out hnE hnA); rintro e wo ⟨hgo, b, gf, rfl, _, hPl⟩; have Hc := Lib.hid ((show Grew (w.alloc (.cells #[.int .i64 N, .slice pE nE cE, .slice pA nA cA] 25)) _ by (repeat (first | exact gR _ | refine gO ?_ _ | refine gA ?_ _ | refine gD ?_ | refine gN ?_ _))).trans hgo); have q0 := Hc.out.cellEq (show (w.alloc (.cells #[.int .i64 N, .slice pE nE cE, .slice pA nA cA] 25)).cell? ⟨w.heap.size, 0, none⟩ = some (.int .i64 N) by simp [go_sem]); have q1 := Hc.out.cellEq (show (w.alloc (.cells #[.int .i64 N, .slice pE nE cE, .slice pA nA cA] 25)).cell? ⟨w.heap.size, 1, none⟩ = some (.slice pE nE cE) by simp [go_sem]); have q2 := Hc.out.cellEq (show (w.alloc (.cells #[.int .i64 N, .slice pE nE cE, .slice pA nA cA] 25)).cell? ⟨w.heap.size, 2, none⟩ = some (.slice pA nA cA) by simp [go_sem]); have Hgo := Lib.hid ((show Grew w _ by (repeat (first | exact gR _ | refine gO ?_ _ | refine gA ?_ _ | refine gD ?_ | refine gN ?_ _))).trans hgo); clear hPl hgo)
      | ((go_at_call 29; apply Calls.mono; (with_reducible exact Hk.out _ (Hgo.out.trans (by (repeat (first | exact gR _ | refine gO ?_ _ | refine gA ?_ _ | refine gD ?_ | refine gN ?_ _))))); rintro e w' ⟨rfl, x, rfl⟩)))
    go_ret2
    rw [Hf.out]
    exact TwoPost.none (Hgo.out.trans (by (repeat (first | exact gR _ | refine gO ?_ _ | refine gA ?_ _ | refine gD ?_ | refine gN ?_ _))))
  case true =>
  have hV := trg_valid hT
  have HV := Lib.hid hV
  have Hch := Lib.hid ht
  have hOl := (chkO_iff.1 ht).2.1
  have hN3 := trg_three hT
  have hNA : N = (nA : Int) := by have := hV.al; omega
  subst hNA
  have hnn : nO = nA := by omega
  subst hnn
  have Hf : Hid (buildRes nO E A O = (buildK nO E A O (nO - 2), 0)) := Lib.hid (by unfold buildRes; rw [if_neg (by rw [hT]; simp), if_neg (by rw [ht]; simp), hnO])
  have HfO : Hid (∀ u ∈ O, 0 ≤ u ∧ u < (nO : Int)) := Lib.hid (by
    have h := (chkR_iff.1 (chk_same.trans ht)).2.2.1.2
    rw [List.take_length] at h
    exact h)
  have hE0 := Lib.hid (trg_pos hT)
  have hnO3 : 3 ≤ nO := by omega
  have hnE1 : nE ≤ 100 := by have := hR.e1; omega
  have HnA := Lib.hid hnA
  have HnE := Lib.hid hnE
  have HnO := Lib.hid hnO
  have hmk : ∀ W, (Instr.makeSlice 26 (.int .i64 (2 * (nE : Int))) (.int .i64 (2 * (nE : Int)))).run Tryd.prog W = .ok (.slice (some ⟨W.heap.size, 0, none⟩) (2 * nE) (2 * nE)) (W.alloc (.cells (Array.replicate (2 * nE) (.int .i64 0)) 3)) := fun W => by
    have := mk_ints (2 * nE) (by omega) W
    push_cast at this
    exact this
  obtain ⟨bO, oO, rfl, lO, cO'⟩ := hI.cells (by omega)
  have HcO := Lib.hid cO'
  clear hR hL hI hT ht hV hOl hN3 cO' hnA hnE hnO
  go_enter Tryd.func10, Tryd.ntmps10
  go_upto_region 6 with (first
    | (go_at_call 28; apply Calls.mono; (with_reducible exact open_yes _ _ _ _ _ _ _ _ _ _ (HR.out.grew (by (repeat (first | exact gR _ | refine gO ?_ _ | refine gA ?_ _ | refine gD ?_ | refine gN ?_ _)))) (HL.out.grew (by (repeat (first | exact gR _ | refine gO ?_ _ | refine gA ?_ _ | refine gD ?_ | refine gN ?_ _)))) HT.out HnE.out HnA.out); rintro e wo ⟨hgo, b, gf, rfl, _, hPl⟩; have HPl := Lib.hid hPl; have Hc := Lib.hid ((show Grew (w.alloc (.cells #[.int .i64 nO, .slice pE nE cE, .slice pA nO cA] 25)) _ by (repeat (first | exact gR _ | refine gO ?_ _ | refine gA ?_ _ | refine gD ?_ | refine gN ?_ _))).trans hgo); have q0 := Hc.out.cellEq (show (w.alloc (.cells #[.int .i64 nO, .slice pE nE cE, .slice pA nO cA] 25)).cell? ⟨w.heap.size, 0, none⟩ = some (.int .i64 nO) by simp [go_sem]); have q1 := Hc.out.cellEq (show (w.alloc (.cells #[.int .i64 nO, .slice pE nE cE, .slice pA nO cA] 25)).cell? ⟨w.heap.size, 1, none⟩ = some (.slice pE nE cE) by simp [go_sem]); have q2 := Hc.out.cellEq (show (w.alloc (.cells #[.int .i64 nO, .slice pE nE cE, .slice pA nO cA] 25)).cell? ⟨w.heap.size, 2, none⟩ = some (.slice pA nO cA) by simp [go_sem]); have Hgo := Lib.hid ((show Grew w _ by (repeat (first | exact gR _ | refine gO ?_ _ | refine gA ?_ _ | refine gD ?_ | refine gN ?_ _))).trans hgo); clear hPl hgo)
    | (go_at_call 29; apply Calls.mono; (with_reducible exact Hk.out _ (Hgo.out.trans (by (repeat (first | exact gR _ | refine gO ?_ _ | refine gA ?_ _ | refine gD ?_ | refine gN ?_ _))))); rintro e w2 ⟨rfl, hg2⟩; have hg3 := Grew.trans (by (repeat (first | exact gR _ | refine gO ?_ _ | refine gA ?_ _ | refine gD ?_ | refine gN ?_ _))) hg2; have HPl := Lib.hid (HPl.out.grew hg3); have Hgo := Lib.hid (Hgo.out.trans hg3); have q0 := hg3.cellEq q0; have q1 := hg3.cellEq q1; have q2 := hg3.cellEq q2; clear hg2 hg3))
  have Q0 := Lib.hid q0
  have Q1 := Lib.hid q1
  have Q2 := Lib.hid q2
  have hq2l := World.block_lt_of_cell? w2 _ q0
  dsimp only at hq2l
  clear q0 q2
  go_wp2
  have HO0 := Lib.hid (own_newI (Owns.nil w2 w2.heap.size) (Nat.le_refl _) (2 * nE) w2.heap.size (by omega) rfl)
  have Hg0 : Hid (Grew w2 (w2.alloc (.cells (Array.replicate (2 * nE) (.int .i64 0)) 3))) := Lib.hid ((Grew.refl w2).alloc _)
  obtain ⟨wA, hwA⟩ : ∃ wA, w2.alloc (.cells (Array.replicate (2 * nE) (.int .i64 0)) 3) = wA := ⟨_, rfl⟩
  rw [hwA] at HO0 Hg0 ⊢
  obtain ⟨g, hg⟩ : ∃ g, w2.heap.size = g := ⟨_, rfl⟩
  have Hgs := Lib.hid hg
  have Hgs2 : Hid (w2.heap.size ≤ g) := Lib.hid (Nat.le_of_eq hg)
  rw [hg] at HO0 ⊢
  clear hwA hg q1
  go_loopw [37] (fun dv wr => ∃ d : Nat, d ≤ 2 * nE ∧ dv = .int .i64 d ∧ Grew w2 wr ∧ ∃ X : List Int, X.length = 2 * nE ∧ Owns wr g [rI g (2 * nE) X] ∧ ∀ u, u < d → ge X u = -1) (fun dv _ => 2 * nE - (intOf dv).toNat)
  case atStart => exact ⟨0, Nat.zero_le _, rfl, Hg0.out.trans (by (repeat (first | exact gR _ | refine gO ?_ _ | refine gA ?_ _ | refine gD ?_ | refine gN ?_ _))), _, by simp, HO0.out.grew (by (repeat (first | exact gR _ | refine gO ?_ _ | refine gA ?_ _ | refine gD ?_ | refine gN ?_ _))), fun u hu => by omega⟩
  case round =>
    obtain ⟨d, hd, rfl, hgr, X, hXl, hO, hall⟩ := hrel
    have Hgr := Lib.hid hgr
    have HO := Lib.hid hO
    have Hall := Lib.hid hall
    have HXl := Lib.hid hXl
    have hszr := hgr.below.size
    clear hgr hO hall hXl
    by_cases hlt : d < 2 * nE
    · have hdi : (d : Int) < ((2 * nE : Nat) : Int) := by omega
      have hdi2 : (d : Int) < 2 * (nE : Int) := by omega
      have x1 := own_atI HO.out (j := 0) rfl hlt
      have x2 := own_fr HO.out (j := 0) rfl d
      have hgl := own_lt HO.out (j := 0) rfl
      go_wp2
      go_roundw
      case rel => exact ⟨d + 1, by omega, by go_num, (Hgr.out.setCell (show w2.heap.size ≤ g from Hgs2.out) _).trans (by (repeat (first | exact gR _ | refine gO ?_ _ | refine gA ?_ _ | refine gD ?_ | refine gN ?_ _))), X.set d (-1), by rw [List.length_set]; exact HXl.out, (own_setI HO.out (j := 0) rfl d (-1)).grew (by (repeat (first | exact gR _ | refine gO ?_ _ | refine gA ?_ _ | refine gD ?_ | refine gN ?_ _))), fun u hu => by
        by_cases e : d = u
        · rw [← e, ge_set_same _ (by rw [HXl.out]; exact hlt)]
        · rw [ge_set_other _ e]; exact Hall.out u (by omega)⟩
      case measure => (simp [intOf] <;> omega)
    · have HX : Hid (X = buildK nO E A O 0) := Lib.hid (by
        unfold buildK
        refine List.ext_getElem (by rw [HXl.out, List.length_replicate, HnE.out]) fun i h1 h2 => ?_
        rw [← ge_eq X h1, Hall.out i (by rw [HXl.out] at h1; omega), List.getElem_replicate])
      have HO1 : Hid (Owns wr g [rI g (2 * nE) (buildK nO E A O 0)]) := Lib.hid (by rw [← HX.out]; exact HO.out)
      have hdi : ¬ (d : Int) < ((2 * nE : Nat) : Int) := by omega
      have hdi2 : ¬ (d : Int) < 2 * (nE : Int) := by omega
      clear HX HO Hall HXl hlt
      go_wp2
      go_loopw [9] (fun kv wx => ∃ k : Nat, k + 2 ≤ nO ∧ kv = .int .i64 ((k + 2 : Nat) : Int) ∧ Grew w2 wx ∧ Owns wx g [rI g (2 * nE) (buildK nO E A O k)]) (fun kv _ => nO - (intOf kv).toNat)
      case atStart => exact ⟨0, by omega, rfl, Hgr.out.trans (by (repeat (first | exact gR _ | refine gO ?_ _ | refine gA ?_ _ | refine gD ?_ | refine gN ?_ _))), HO1.out.grew (by (repeat (first | exact gR _ | refine gO ?_ _ | refine gA ?_ _ | refine gD ?_ | refine gN ?_ _)))⟩
      case round =>
        clear HO1 Hgr hszr
        obtain ⟨k, hk, rfl, hgr, hO⟩ := hrel
        have Hgr := Lib.hid hgr
        have HO := Lib.hid hO
        have hszr := hgr.below.size
        have q0 := hgr.cellEq Q0.out
        have q1 := hgr.cellEq Q1.out
        have q2 := hgr.cellEq Q2.out
        clear hgr hO
        by_cases hlt : k + 2 < nO
        · have hki : ((k + 2 : Nat) : Int) < (nO : Int) := by omega
          have o1 := HcO.out wr (Hgo.out.trans Hgr.out) (k + 2) (by rw [HnO.out]; exact hlt)
          have hvr := HfO.out _ (ge_mem (i := k + 2) (by rw [HnO.out]; exact hlt))
          obtain ⟨v, hv⟩ : ∃ v : Nat, ge O (k + 2) = (v : Int) := ⟨(ge O (k + 2)).toNat, by omega⟩
          rw [hv] at o1
          have hvl : v < nO := by omega
          have Hv := Lib.hid hv
          obtain ⟨C, hC, hG⟩ := cont_goes Hch.out (j := k) (by omega)
          have HC := Lib.hid hC
          have HCn : Hid (∀ u ∈ C, True) := Lib.hid (fun _ _ => trivial)
          obtain ⟨m, hm⟩ : ∃ m, C.length = m := ⟨_, rfl⟩
          have Hm := Lib.hid hm
          have hm3 : m ≤ 30 := by rw [← hm]; have := hG.len; omega
          have Hcb : Hid (buildK nO E A O (k + 1) = putK A (nearB E (rowOf A v) C) (buildK nO E A O k) (nearB E (rowOf A v) C).length) := Lib.hid (by
            have e : contG nO E A O k = C := by unfold contG; rw [hC]; rfl
            show putK A (nearB E (rowOf A (ge O (k + 2)).toNat) (contG nO E A O k)) (buildK nO E A O k) _ = _
            rw [hv, e, Int.toNat_natCast])
          have Hct : Hid (∀ W1, Grew wr W1 → Calls Tryd.prog 30 #[.agg #[.int .i64 nO, .slice pE nE cE, .slice pA nO cA], .slice (some ⟨bO, oO, none⟩) nO cO, .int .i64 ((k : Int) + 2)] W1 fun e w' => Grew W1 w' ∧ ∃ q cap, e = .returned (.tuple #[.slice q m cap, .int .i64 0]) ∧ Ints w' q C ∧ m ≤ cap ∧ cap ≤ maxLen) := Lib.hid (fun W1 h => by
            have := cont_yes (cA := cA) Hch.out HC.out rfl (by omega) Hm.out (HR.out.grew (Hgo.out.trans (Hgr.out.trans h))) (HL.out.grew (Hgo.out.trans (Hgr.out.trans h))) (HI.out.grew (Hgo.out.trans (Hgr.out.trans h))) hO1 hO2 hO3 HnE.out HnA.out HnO.out
            push_cast at this
            exact this)
          clear hG hC hm hv hvr
          go_upto_region 17 with (go_at_call 30; apply Calls.mono; (with_reducible exact Hct.out _ (by (repeat (first | exact gR _ | refine gO ?_ _ | refine gA ?_ _ | refine gD ?_ | refine gN ?_ _)))); rintro e w4 ⟨hg4, q4, cap4, rfl, hI4, hd1, hd2⟩; have HI4 := Lib.hid hI4; have hg5 := Grew.trans (show Grew wr _ by (repeat (first | exact gR _ | refine gO ?_ _ | refine gA ?_ _ | refine gD ?_ | refine gN ?_ _))) hg4; have Hg4 := Lib.hid (Hgr.out.trans hg5); have HO4 := Lib.hid (HO.out.grew hg5); clear hI4 hg4 hg5)
          have hs4 := Hg4.out.below.size
          have Hx1 : Hid (w4.cell? ⟨w.heap.size, 1, none⟩ = some (.slice pE nE cE)) := Lib.hid (Hg4.out.cellEq Q1.out)
          have Hx2 : Hid (w4.cell? ⟨w.heap.size, 2, none⟩ = some (.slice pA nO cA)) := Lib.hid (Hg4.out.cellEq Q2.out)
          obtain ⟨bA, oA, rp, rc, rfl, lA, cA'⟩ := (HR.out.hA).rows (by rw [HnA.out]; omega)
          obtain ⟨a1, _⟩ := cA' w4 (Hgo.out.trans Hg4.out) v (by rw [HnA.out]; exact hvl)
          obtain ⟨_, a2⟩ := cA' w (Grew.refl _) v (by rw [HnA.out]; exact hvl)
          obtain ⟨rv, hrv⟩ : ∃ rv, rp v = rv := ⟨_, rfl⟩
          rw [hrv] at a1 a2
          obtain ⟨cv, hcv⟩ : ∃ cv, rc v = cv := ⟨_, rfl⟩
          rw [hcv] at a1
          obtain ⟨row, hrow⟩ : ∃ row, rowOf A v = row := ⟨_, rfl⟩
          have Hmr : Hid (∀ d ∈ row, 0 ≤ d ∧ d < ((2 * nE : Nat) : Int)) := Lib.hid (fun d hd => by
            have := mem_row HV.out (v := v) (by rw [HnA.out]; exact hvl) (by rw [hrow]; exact hd)
            have := HnE.out
            omega)
          have hrl : row.length ≤ 200 := by
            have h2 := int_nodup_len (M := 2 * nE) (S := row) (by rw [← hrow]; exact row_nodup HV.out (by rw [HnA.out]; exact hvl)) Hmr.out
            omega
          rw [hrow] at a1 a2 Hcb
          have Ha1 := Lib.hid a1
          have Ha2 := Lib.hid a2
          have hvi : (v : Int) < (nO : Int) := by omega
          obtain ⟨X, hX⟩ : ∃ X, buildK nO E A O k = X := ⟨_, rfl⟩
          have HXe := Lib.hid hX
          rw [hX] at HO4 Hcb
          have HXl : Hid (X.length = 2 * nE) := Lib.hid (by rw [← hX, buildK_len, HnE.out])
          have HON := Lib.hid ((Owns.nil w4 w4.heap.size).none 3 1)
          have HOX := HO4
          have hwl4 : w.heap.size < w4.heap.size := by omega
          clear q0 q1 q2 o1 cA' a1 a2 hrv hcv hrow hX HO4
          go_wp2
          go_loopw [13, 63] (fun vN iv wk => ∃ i : Nat, i ≤ m ∧ iv = .int .i64 i ∧ Grew w4 wk ∧ Owns wk w4.heap.size [⟨vN, 3, 1, (nearB E row (C.take i)).length, intVs (nearB E row (C.take i))⟩]) (fun _ iv _ => m - (intOf iv).toNat)
          case atStart => exact ⟨0, Nat.zero_le _, rfl, by (repeat (first | exact gR _ | refine gO ?_ _ | refine gA ?_ _ | refine gD ?_ | refine gN ?_ _)), by simpa [nearB, intVs] using HON.out.grew (by (repeat (first | exact gR _ | refine gO ?_ _ | refine gA ?_ _ | refine gD ?_ | refine gN ?_ _)))⟩
          case round =>
            obtain ⟨i, hi, rfl, hgi, hOi⟩ := hrel
            have Hgi := Lib.hid hgi
            have HOi := Lib.hid hOi
            have hszi := hgi.below.size
            clear hgi hOi
            by_cases hil : i < m
            · have hii : (i : Int) < (m : Int) := by omega
              obtain ⟨b4, o4, rfl, l4, c4⟩ := HI4.out.cells (by rw [Hm.out]; omega)
              have e1 := c4 wr Hgi.out i (by rw [Hm.out]; exact hil)
              obtain ⟨u, hu⟩ : ∃ u, ge C i = u := ⟨_, rfl⟩
              rw [hu] at e1
              have Hnb : Hid (nearB E row (C.take (i + 1)) = nearB E row (C.take i) ++ nearF E row u) := Lib.hid (by rw [nearB_succ (by rw [Hm.out]; exact hil), hu])
              have r1 := Hgi.out.cellEq Hx2.out
              have r2 := Hgi.out.cellEq Ha1.out
              obtain ⟨n0, hn0⟩ : ∃ n0, (nearB E row (C.take i)).length = n0 := ⟨_, rfl⟩
              have hn0b : n0 ≤ 6000 := by
                have h1 := nearB_len E row (C.take i)
                have h2 : (C.take i).length ≤ 30 := by rw [List.length_take]; omega
                have h3 : (C.take i).length * row.length ≤ 30 * 200 := Nat.mul_le_mul h2 hrl
                omega
              have Hn0 := Lib.hid hn0
              obtain ⟨nb, hnb⟩ : ∃ nb, nearB E row (C.take i) = nb := ⟨_, rfl⟩
              rw [hnb] at HOi Hnb
              have Hnb0 : Hid (nb.length = n0) := Lib.hid (by rw [← hnb]; exact hn0)
              clear c4 hu hn0 hnb
              go_wp2
              go_loopw [13, 73] (fun vN jv wk => ∃ j : Nat, j ≤ row.length ∧ jv = .int .i64 j ∧ Grew w4 wk ∧ Owns wk w4.heap.size [⟨vN, 3, 1, (nb ++ nearF E (row.take j) u).length, intVs (nb ++ nearF E (row.take j) u)⟩]) (fun _ jv _ => row.length - (intOf jv).toNat)
              case atStart => exact ⟨0, Nat.zero_le _, rfl, Hgi.out.trans (by (repeat (first | exact gR _ | refine gO ?_ _ | refine gA ?_ _ | refine gD ?_ | refine gN ?_ _))), by simpa [nearF] using HOi.out.grew (by (repeat (first | exact gR _ | refine gO ?_ _ | refine gA ?_ _ | refine gD ?_ | refine gN ?_ _)))⟩
              case round =>
                obtain ⟨j, hj, rfl, hgj, hOj⟩ := hrel
                have Hgj := Lib.hid hgj
                have HOj := Lib.hid hOj
                have hszj := hgj.below.size
                clear hgj hOj e1 r1 r2
                by_cases hjl : j < row.length
                · obtain ⟨bR, oR, rfl, lR, cR⟩ := Ha2.out.cells (by omega)
                  have e1 := cR wr (Hgo.out.trans (Hg4.out.trans Hgj.out)) j hjl
                  have hdr := Hmr.out _ (ge_mem hjl)
                  obtain ⟨d, hd⟩ : ∃ d : Nat, ge row j = (d : Int) := ⟨(ge row j).toNat, by omega⟩
                  rw [hd] at e1
                  have hd2 : d < 2 * nE := by omega
                  obtain ⟨o, ho⟩ : ∃ o : Nat, oth (d : Int) = (o : Int) := ⟨(oth d).toNat, by have := oth_in (d := d) (M := nE) (by omega) (by omega); omega⟩
                  have ho2 : o < 2 * nE := by have := oth_in (d := d) (M := nE) (by omega) (by omega); omega
                  have hx2 : bits BinOp.xor IntKind.i64 (d : Int) 1 = (o : Int) := by rw [← ho]; exact xor_small d (by omega)
                  obtain ⟨tb, htb⟩ : ∃ tb, (tailE E o == u) = tb := ⟨_, rfl⟩
                  have Htb := Lib.hid htb
                  have Htl : Hid (∀ W1, Grew wr W1 → Calls Tryd.prog 31 #[.pointer (some ⟨b, 0, none⟩), .int .i64 o] W1 fun e w' => e = .returned (.int .i64 (tailE E o)) ∧ W1 = w') := Lib.hid (fun W1 h => tail38_c b pE nE cE E W1 (HPl.out.grew (Hg4.out.trans (Hgj.out.trans h))).c1 (HR.out.hE.grew (Hgo.out.trans (Hg4.out.trans (Hgj.out.trans h)))) HnE.out HR.out.e1 o (by rw [HnE.out]; exact ho2))
                  have Hns : Hid (nearF E (row.take (j + 1)) u = nearF E (row.take j) u ++ if tb = true then [(d : Int)] else []) := Lib.hid (by rw [nearF_succ hjl, hd, ho, htb])
                  have hji : (j : Int) < (row.length : Int) := by omega
                  have hnl : (nb ++ nearF E (row.take j) u).length ≤ 6200 := by
                    rw [List.length_append, Hnb0.out]
                    have := nearF_len E (row.take j) u
                    rw [List.length_take] at this
                    omega
                  obtain ⟨ns, hns⟩ : ∃ ns, nb ++ nearF E (row.take j) u = ns := ⟨_, rfl⟩
                  rw [hns] at HOj hnl
                  have Hns2 : Hid (nb ++ nearF E (row.take (j + 1)) u = ns ++ if tb = true then [(d : Int)] else []) := Lib.hid (by rw [Hns.out, ← List.append_assoc, hns])
                  clear cR hdr hd ho htb hns
                  cases tb
                  · replace Hns2 : Hid (nb ++ nearF E (row.take (j + 1)) u = ns) := Lib.hid (by rw [Hns2.out]; simp)
                    have htf := Htb.out
                    go_wp2_with ((go_at_call 31; apply Calls.mono; (with_reducible exact Htl.out _ (by (repeat (first | exact gR _ | refine gO ?_ _ | refine gA ?_ _ | refine gD ?_ | refine gN ?_ _)))); rintro e w' ⟨rfl, rfl⟩))
                    go_roundw
                    case rel => exact ⟨j + 1, by omega, by go_num, Hgj.out.trans (by (repeat (first | exact gR _ | refine gO ?_ _ | refine gA ?_ _ | refine gD ?_ | refine gN ?_ _))), by rw [Hns2.out]; exact HOj.out.grew (by (repeat (first | exact gR _ | refine gO ?_ _ | refine gA ?_ _ | refine gD ?_ | refine gN ?_ _)))⟩
                    case measure => (simp [intOf] <;> omega)
                  · replace Hns2 : Hid (nb ++ nearF E (row.take (j + 1)) u = ns ++ [(d : Int)]) := Lib.hid (by rw [Hns2.out]; simp)
                    have htf := Htb.out
                    go_wp2_with (first
                      | ((go_at_call 31; apply Calls.mono; (with_reducible exact Htl.out _ (by (repeat (first | exact gR _ | refine gO ?_ _ | refine gA ?_ _ | refine gD ?_ | refine gN ?_ _)))); rintro e w' ⟨rfl, rfl⟩))
                      | (at_builtin; refine wp_append_owns rfl _ _ 26 rfl 3 1 8 (.int .i64 0) Tryd.underlying26 Tryd.infoInt rfl (by decide) (w4.heap.size) _ 0 _ _ _ (HOj.out.grew (by (repeat (first | exact gR _ | refine gO ?_ _ | refine gA ?_ _ | refine gD ?_ | refine gN ?_ _)))) rfl rfl _ 1 1 rfl [.int .i64 ((d : Int))] rfl (fun h => by cases h) (one_news _ (by first | (go_simp; done) | (simp [go_sem, ↓IntWalk.iteOmega, *]; done))) (by simp [Value.oneCell']) (by simp only [maxLen]; omega) (by omega) (by first | rfl | omega | (simp <;> omega)) ?_; intro v1 w1 hO1 hg1 hb1 hv1; have HO9 := Lib.hid hO1; have Hg9 := Lib.hid (Grew.grownBy (w0 := w4) (Hgj.out.trans (by (repeat (first | exact gR _ | refine gO ?_ _ | refine gA ?_ _ | refine gD ?_ | refine gN ?_ _)))) hg1 (fun q h => by have := hb1 q h; omega)); clear hO1 hg1 hb1 hv1))
                    go_roundw
                    case rel => exact ⟨j + 1, by omega, by go_num, Hg9.out.trans (by (repeat (first | exact gR _ | refine gO ?_ _ | refine gA ?_ _ | refine gD ?_ | refine gN ?_ _))), (by rw [Hns2.out, intVs_app', List.length_append]; exact HO9.out.grew (by (repeat (first | exact gR _ | refine gO ?_ _ | refine gA ?_ _ | refine gD ?_ | refine gN ?_ _))))⟩
                    case measure => (simp [intOf] <;> omega)
                · obtain rfl : j = row.length := by omega
                  rw [List.take_length, ← Hnb.out] at HOj
                  go_wp2
                  go_roundw
                  case rel => exact ⟨i + 1, by omega, by go_num, Hgj.out.trans (by (repeat (first | exact gR _ | refine gO ?_ _ | refine gA ?_ _ | refine gD ?_ | refine gN ?_ _))), HOj.out.grew (by (repeat (first | exact gR _ | refine gO ?_ _ | refine gA ?_ _ | refine gD ?_ | refine gN ?_ _)))⟩
                  case measure => (simp [intOf] <;> omega)
            · have hmi : ¬ (i : Int) < (m : Int) := by omega
              have hime : i = m := by omega
              have Hta : Hid (C.take i = C) := Lib.hid (List.take_of_length_le (by rw [Hm.out]; omega))
              rw [Hta.out] at HOi
              obtain ⟨nl, hnl⟩ : ∃ nl, nearB E row C = nl := ⟨_, rfl⟩
              rw [hnl] at HOi Hcb
              have Hnm : Hid (∀ d ∈ nl, 0 ≤ d ∧ d < ((2 * nE : Nat) : Int)) := Lib.hid (fun d hd => by
                rw [← hnl] at hd
                unfold nearB nearF at hd
                obtain ⟨u, _, hu⟩ := List.mem_flatMap.1 hd
                exact Hmr.out d (List.mem_filter.1 hu).1)
              have hnb : nl.length ≤ 6000 := by
                rw [← hnl]
                have h1 := nearB_len E row C
                have h3 : C.length * row.length ≤ 30 * 200 := Nat.mul_le_mul (by rw [Hm.out]; exact hm3) hrl
                omega
              obtain ⟨pN, cN, rfl⟩ := own_form HOi.out (k := 0) rfl
              have HmN : Hid (0 < nl.length → ∃ gN, pN = some ⟨gN, 0, none⟩ ∧ w4.heap.size ≤ gN ∧ gN < wr.heap.size ∧ ∀ t, t < nl.length → wr.cell? ⟨gN, t, none⟩ = some (.int .i64 (ge nl t))) := Lib.hid (fun h0 => by
                obtain ⟨gN, c9, e9, _, hBl, _, _, _, m9⟩ := HOi.out.some (k := 0) rfl h0
                obtain ⟨h1, h2⟩ := HOi.out.get (k := 0) rfl
                rcases h2 with ⟨h2, _⟩ | ⟨g', cap', h2, h3, h4, h5, h6, _, h8⟩
                · rw [h2] at e9; cases e9
                · simp only [Value.slice.injEq] at h2
                  exact ⟨g', h2.1, h3, h4, fun t ht => h8 t _ (intVs_get nl ht)⟩)
              have HOX2 := Lib.hid (HOX.out.grew Hgi.out)
              have Hgg : Hid (g < w4.heap.size) := Lib.hid (own_lt HOX.out (j := 0) rfl)
              have Hg25 : Hid (Grew w2 wr) := Lib.hid (Hg4.out.trans Hgi.out)
              have hgb : ¬ b = g := by have := HPl.out.lt; have := Hgs2.out; omega
              clear hnl HOi hil hi
              obtain ⟨wr5, hwr5⟩ : ∃ wr5, wr5 = wr := ⟨_, rfl⟩
              subst hwr5
              go_wp2
              go_loopw [91] (fun iv wk => ∃ i : Nat, i ≤ nl.length ∧ iv = .int .i64 i ∧ Gr (fun q => q = g) wr5 wk ∧ Owns wk g [rI g (2 * nE) (putK A nl X i)]) (fun iv _ => nl.length - (intOf iv).toNat)
              case atStart => exact ⟨0, Nat.zero_le _, rfl, Gr.of_grew _ (by (repeat (first | exact gR _ | refine gO ?_ _ | refine gA ?_ _ | refine gD ?_ | refine gN ?_ _))), HOX2.out.grew (by (repeat (first | exact gR _ | refine gO ?_ _ | refine gA ?_ _ | refine gD ?_ | refine gN ?_ _)))⟩
              case round =>
                obtain ⟨i2, hi2, rfl, hgk, hOk⟩ := hrel
                have Hgk := Lib.hid hgk
                have HOk := Lib.hid hOk
                have Hgw5 : Hid (Grew w2 wr) := Lib.hid (Hg25.out.gr hgk (fun q hq => by rw [hq]; exact Hgs2.out))
                have hszk := hgk.size
                clear hgk hOk
                by_cases hlk : i2 < nl.length
                · have hli : (i2 : Int) < (nl.length : Int) := by omega
                  obtain ⟨gN, rfl, hN1, hN2, hN3⟩ := HmN.out (by omega)
                  have hgN : ¬ gN = g := by have := Hgg.out; omega
                  have e1 := Hgk.out.cellEq hgN (hN3 i2 hlk)
                  have hdr := Hnm.out _ (ge_mem hlk)
                  obtain ⟨d, hd⟩ : ∃ d : Nat, ge nl i2 = (d : Int) := ⟨(ge nl i2).toNat, by omega⟩
                  rw [hd] at e1
                  have hd2 : d < 2 * nE := by omega
                  obtain ⟨o, ho⟩ : ∃ o : Nat, oth (d : Int) = (o : Int) := ⟨(oth d).toNat, by have := oth_in (d := d) (M := nE) (by omega) (by omega); omega⟩
                  have ho2 : o < 2 * nE := by have := oth_in (d := d) (M := nE) (by omega) (by omega); omega
                  have hx2 : bits BinOp.xor IntKind.i64 (d : Int) 1 = (o : Int) := by rw [← ho]; exact xor_small d (by omega)
                  obtain ⟨ob, hob⟩ : ∃ ob, outB A d = ob := ⟨_, rfl⟩
                  have Hou : Hid (∀ W1, Grew wr W1 → Calls Tryd.prog 32 #[.pointer (some ⟨b, 0, none⟩), .int .i64 d] W1 fun e w' => e = .returned (.bool ob) ∧ Grew W1 w') := Lib.hid (fun W1 h => outer_p HV.out hE0.out HR.out.e1 (HPl.out.grew (Hgw5.out.trans h)) d (by omega) _ hob)
                  have Hput : Hid (putK A nl X (i2 + 1) = if ob = true then putK A nl X i2 else if i2 = 0 then (putK A nl X i2).set d 0 else if i2 + 1 = nl.length then (putK A nl X i2).set d 1 else (putK A nl X i2).set o 2) := Lib.hid (by
                    show (if outB A (ge nl i2) = true then _ else _) = _
                    rw [hd, hob, ho, Int.toNat_natCast, Int.toNat_natCast])
                  have hdi : (d : Int) < ((2 * nE : Nat) : Int) := by omega
                  have hdi2 : (d : Int) < 2 * (nE : Int) := by omega
                  have hoi : (o : Int) < ((2 * nE : Nat) : Int) := by omega
                  have hoi2 : (o : Int) < 2 * (nE : Int) := by omega
                  have x1 := own_atI HOk.out (j := 0) rfl hd2
                  have x2 := own_fr HOk.out (j := 0) rfl d
                  have y1 := own_atI HOk.out (j := 0) rfl ho2
                  have y2 := own_fr HOk.out (j := 0) rfl o
                  have hgl := own_lt HOk.out (j := 0) rfl
                  clear hdr hd ho hob hN3
                  cases ob
                  · have Hput2 : Hid (putK A nl X (i2 + 1) = if i2 = 0 then (putK A nl X i2).set d 0 else if i2 + 1 = nl.length then (putK A nl X i2).set d 1 else (putK A nl X i2).set o 2) := Lib.hid (by rw [Hput.out]; simp)
                    by_cases hz : i2 = 0
                    · have hzb : ((i2 : Int) == 0) = true := beq_iff_eq.2 (by omega)
                      have Hput3 : Hid (putK A nl X (i2 + 1) = (putK A nl X i2).set d 0) := Lib.hid (by rw [Hput2.out, if_pos hz])
                      clear hz
                      go_wp2_with ((go_at_call 32; apply Calls.mono; (with_reducible exact Hou.out _ (by (repeat (first | exact gR _ | refine gO ?_ _ | refine gA ?_ _ | refine gD ?_ | refine gN ?_ _)))); rintro e w' ⟨rfl, x, rfl⟩))
                      go_roundw
                      case rel => exact ⟨i2 + 1, by omega, by go_num, (Hgk.out.setCell rfl _).over (by (repeat (first | exact gR _ | refine gO ?_ _ | refine gA ?_ _ | refine gD ?_ | refine gN ?_ _))), by rw [Hput3.out]; exact (own_setI HOk.out (j := 0) rfl d 0).grew (by (repeat (first | exact gR _ | refine gO ?_ _ | refine gA ?_ _ | refine gD ?_ | refine gN ?_ _)))⟩
                      case measure => (simp [intOf] <;> omega)
                    · have hzb : ((i2 : Int) == 0) = false := beq_eq_false_iff_ne.2 (by omega)
                      by_cases hl : i2 + 1 = nl.length
                      · have hlb : ((i2 : Int) == (nl.length : Int) - 1) = true := beq_iff_eq.2 (by omega)
                        have Hput3 : Hid (putK A nl X (i2 + 1) = (putK A nl X i2).set d 1) := Lib.hid (by rw [Hput2.out, if_neg hz, if_pos hl])
                        clear hz hl
                        go_wp2_with ((go_at_call 32; apply Calls.mono; (with_reducible exact Hou.out _ (by (repeat (first | exact gR _ | refine gO ?_ _ | refine gA ?_ _ | refine gD ?_ | refine gN ?_ _)))); rintro e w' ⟨rfl, x, rfl⟩))
                        go_roundw
                        case rel => exact ⟨i2 + 1, by omega, by go_num, (Hgk.out.setCell rfl _).over (by (repeat (first | exact gR _ | refine gO ?_ _ | refine gA ?_ _ | refine gD ?_ | refine gN ?_ _))), by rw [Hput3.out]; exact (own_setI HOk.out (j := 0) rfl d 1).grew (by (repeat (first | exact gR _ | refine gO ?_ _ | refine gA ?_ _ | refine gD ?_ | refine gN ?_ _)))⟩
                        case measure => (simp [intOf] <;> omega)
                      · have hlb : ((i2 : Int) == (nl.length : Int) - 1) = false := beq_eq_false_iff_ne.2 (by omega)
                        have Hput3 : Hid (putK A nl X (i2 + 1) = (putK A nl X i2).set o 2) := Lib.hid (by rw [Hput2.out, if_neg hz, if_neg hl])
                        clear hz hl
                        go_wp2_with ((go_at_call 32; apply Calls.mono; (with_reducible exact Hou.out _ (by (repeat (first | exact gR _ | refine gO ?_ _ | refine gA ?_ _ | refine gD ?_ | refine gN ?_ _)))); rintro e w' ⟨rfl, x, rfl⟩))
                        go_roundw
                        case rel => exact ⟨i2 + 1, by omega, by go_num, (Hgk.out.setCell rfl _).over (by (repeat (first | exact gR _ | refine gO ?_ _ | refine gA ?_ _ | refine gD ?_ | refine gN ?_ _))), by rw [Hput3.out]; exact (own_setI HOk.out (j := 0) rfl o 2).grew (by (repeat (first | exact gR _ | refine gO ?_ _ | refine gA ?_ _ | refine gD ?_ | refine gN ?_ _)))⟩
                        case measure => (simp [intOf] <;> omega)
                  · have Hput3 : Hid (putK A nl X (i2 + 1) = putK A nl X i2) := Lib.hid (by rw [Hput.out]; simp)
                    go_wp2_with ((go_at_call 32; apply Calls.mono; (with_reducible exact Hou.out _ (by (repeat (first | exact gR _ | refine gO ?_ _ | refine gA ?_ _ | refine gD ?_ | refine gN ?_ _)))); rintro e w' ⟨rfl, x, rfl⟩))
                    go_roundw
                    case rel => exact ⟨i2 + 1, by omega, by go_num, Hgk.out.over (by (repeat (first | exact gR _ | refine gO ?_ _ | refine gA ?_ _ | refine gD ?_ | refine gN ?_ _))), by rw [Hput3.out]; exact HOk.out.grew (by (repeat (first | exact gR _ | refine gO ?_ _ | refine gA ?_ _ | refine gD ?_ | refine gN ?_ _)))⟩
                    case measure => (simp [intOf] <;> omega)
                · obtain rfl : i2 = nl.length := by omega
                  rw [← Hcb.out] at HOk
                  go_wp2
                  go_roundw
                  case rel => exact ⟨k + 1, by omega, by go_num, Hgw5.out.trans (by (repeat (first | exact gR _ | refine gO ?_ _ | refine gA ?_ _ | refine gD ?_ | refine gN ?_ _))), HOk.out.grew (by (repeat (first | exact gR _ | refine gO ?_ _ | refine gA ?_ _ | refine gD ?_ | refine gN ?_ _)))⟩
                  case measure => (simp [intOf] <;> omega)
        · have hkn : ¬ ((k + 2 : Nat) : Int) < (nO : Int) := by omega
          have Hkk : Hid (k = nO - 2) := Lib.hid (by omega)
          have hXl : (buildK nO E A O k).length = 2 * nE := by rw [buildK_len, HnE.out]
          have HXl := Lib.hid hXl
          clear hXl
          go_wp2
          go_ret2
          rw [Hf.out, ← Hkk.out]
          have hOf := HO.out.grew (show Grew wr _ by (repeat (first | exact gR _ | refine gO ?_ _ | refine gA ?_ _ | refine gD ?_ | refine gN ?_ _)))
          obtain ⟨q, cap, e, h1, h2, _⟩ := hOf.ints (k := 0) rfl HXl.out (fun x hx => by have := buildK_rng nO E A O k x hx; omega)
          cases e
          exact ⟨Hgo.out.trans (Hgr.out.trans (by (repeat (first | exact gR _ | refine gO ?_ _ | refine gA ?_ _ | refine gD ?_ | refine gN ?_ _)))), _, _, by rw [HXl.out]; rfl, h1, by rw [HXl.out]; exact Nat.le_refl _, by simp only [maxLen]; omega⟩
end Go.Proofs.YtlealdicoceekaaDoor

/- Build, plain: the reference's labels are those of the program. -/
namespace Go.Proofs.YtlealdicoceekaaDoor
open Go.RowKit

/-- The labels 2 of the reference. -/
def midR (E : List (Int × Int)) (C : List Int) (w : Int) (p : Nat) (X : List Int) : Nat → List Int
  | 0 => X
  | m + 1 => (midR E C w p X m).set (dartF E (ge C (p + 1 + m)) w).toNat 2
/-- The labels that a vertex brings, between the places p and q of the contour. -/
def putR (fin : Bool) (E : List (Int × Int)) (C : List Int) (w : Int) (p q : Nat) (X : List Int) : List Int :=
  midR E C w p (if fin = true then X else (X.set (dartF E w (ge C p)).toNat 0).set (dartF E w (ge C q)).toNat 1) (q - p - 1)
noncomputable def refK (N : Int) (E : List (Int × Int)) (A : List (List Int)) (O : List Int) : Nat → List Int
  | 0 => List.replicate (2 * E.length) (-1)
  | k + 1 => putR (decide (k + 3 = O.length)) E (contG N E A O k) (ge O (k + 2)) (lo (stepI E (contG N E A O k) (ge O (k + 2)))).toNat (hi (stepI E (contG N E A O k) (ge O (k + 2)))).toNat (refK N E A O k)

theorem midR_len (E : List (Int × Int)) (C : List Int) (w : Int) (p : Nat) (X : List Int) : ∀ m, (midR E C w p X m).length = X.length
  | 0 => rfl
  | m + 1 => by unfold midR; rw [List.length_set]; exact midR_len E C w p X m
theorem midR_set (E : List (Int × Int)) (C : List Int) (w : Int) (p : Nat) (X : List Int) (b : Nat) (x : Int) : ∀ m, (∀ j, j < m → (dartF E (ge C (p + 1 + j)) w).toNat ≠ b) → midR E C w p (X.set b x) m = (midR E C w p X m).set b x
  | 0, _ => rfl
  | m + 1, h => by
    unfold midR
    rw [midR_set E C w p X b x m (fun j hj => h j (by omega)), List.set_comm _ _ (h m (by omega)).symm]
theorem list_one {L : List Int} {d : Int} (hn : L.Nodup) (hd : d ∈ L) (h : ∀ x ∈ L, x = d) : L = [d] := by
  match L, hn, hd, h with
  | [x], _, _, h => rw [h x (by simp)]
  | x :: y :: L, hn, _, h =>
    have e1 := h x (by simp)
    have e2 := h y (by simp)
    rw [e1, e2] at hn
    simp at hn
theorem incr_lb {L : List Nat} (h : L.Pairwise (· < ·)) {p : Nat} (hp : ∀ x ∈ L, p ≤ x) : ∀ i (hi : i < L.length), p + i ≤ L[i]
  | 0, hi => hp _ (List.getElem_mem hi)
  | i + 1, hi => by
    have h1 := incr_lb h hp i (by omega)
    have := (List.pairwise_iff_getElem.1 h) i (i + 1) (by omega) hi (by omega)
    omega
theorem incr_ub {L : List Nat} (h : L.Pairwise (· < ·)) {q : Nat} (hq : ∀ x ∈ L, x ≤ q) : ∀ m i (hi : i < L.length), L.length = i + 1 + m → L[i] + m ≤ q
  | 0, i, hi, _ => hq _ (List.getElem_mem hi)
  | m + 1, i, hi, e => by
    have h1 := incr_ub h hq m (i + 1) (by omega) (by omega)
    have := (List.pairwise_iff_getElem.1 h) i (i + 1) (by omega) (by omega) (by omega)
    omega
section
variable {N : Int} {E : List (Int × Int)} {A : List (List Int)} {O : List Int}
theorem nearF_dart (hT : trgB N E A = true) {v : Nat} (hv : v < A.length) (u : Int) : nearF E (rowOf A v) u = if joinB E u v = true then [dartF E v u] else [] := by
  have hV := trg_valid hT
  by_cases h : joinB E u v = true
  · rw [if_pos h]
    obtain ⟨d, h0, h1, h2, h3⟩ := dart_nbr (join_nbr.1 h)
    have hd : isD E d := ⟨h0, h1⟩
    have e := dartF_eq hT hd h2 h3
    rw [e]
    obtain ⟨v', hv', hm, ht⟩ := row_of hV h0 h1
    have : v' = v := by omega
    subst this
    refine list_one ((row_nodup hV hv).sublist List.filter_sublist) (List.mem_filter.2 ⟨hm, by simpa using h3⟩) fun x hx => ?_
    obtain ⟨x1, x2⟩ := List.mem_filter.1 hx
    obtain ⟨m0, m1, m2⟩ := mem_row hV hv x1
    rw [← e]
    exact (dartF_eq hT ⟨m0, m1⟩ m2 (by simpa using x2)).symm
  · rw [if_neg h]
    unfold nearF
    rw [List.filter_eq_nil_iff]
    intro x hx k
    obtain ⟨m0, m1, m2⟩ := mem_row hV hv hx
    apply h
    rw [join_nbr]
    have := nbr_dart (E := E) m0 m1
    rw [m2, (by simpa using k : tailE E (oth x) = u)] at this
    exact this
theorem nearB_dart (hT : trgB N E A = true) {v : Nat} (hv : v < A.length) (C : List Int) : nearB E (rowOf A v) C = (stepI E C v).map (fun i => dartF E v (ge C i.toNat)) := by
  have key : ∀ j, j ≤ C.length → nearB E (rowOf A v) (C.take j) = (stepIk E C v j).map (fun i => dartF E v (ge C i.toNat)) := by
    intro j
    induction j with
    | zero => intro _; rfl
    | succ j ih =>
      intro hj
      rw [nearB_succ (by omega), ih (by omega), stepIk_succ, List.map_append, nearF_dart hT hv]
      congr 1
      split <;> simp
  have := key C.length (Nat.le_refl _)
  rw [List.take_length] at this
  exact this
theorem stepI_all {C : List Int} {w : Int} {p q : Nat} (hpq : p < q) (hin : ∀ i ∈ stepI E C w, (p : Int) ≤ i ∧ i ≤ q) (hl : (stepI E C w).length = q - p + 1) {i : Nat} (hi : i < (stepI E C w).length) : (stepI E C w)[i] = ((p + i : Nat) : Int) := by
  unfold stepI at hin hl hi ⊢
  rw [List.length_map] at hl
  rw [List.getElem_map]
  have hs : ((List.range C.length).filter fun i => joinB E (ge C i) w).Pairwise (· < ·) := List.Pairwise.sublist List.filter_sublist List.pairwise_lt_range
  have hi' : i < ((List.range C.length).filter fun i => joinB E (ge C i) w).length := by rw [List.length_map] at hi; exact hi
  have h1 := incr_lb hs (p := p) (fun x hx => by have := hin x (List.mem_map.2 ⟨x, hx, rfl⟩); omega) i hi'
  have h2 := incr_ub hs (q := q) (fun x hx => by have := hin x (List.mem_map.2 ⟨x, hx, rfl⟩); omega) (q - p - i) i hi' (by omega)
  omega

/-- A step of the peeling: what the contour is, and the darts of the new vertex. -/
structure NewV (N : Int) (E : List (Int × Int)) (A : List (List Int)) (O : List Int) (k : Nat) (C : List Int) (v p q : Nat) : Prop where
  hv : ge O (k + 2) = (v : Int)
  vl : v < A.length
  con : contP N E A O k = some C
  gos : Goes N E O k C
  new : (v : Int) ∉ C
  pq : p < q
  ql : q < C.length
  lo : lo (stepI E C v) = p
  hi : hi (stepI E C v) = q
  nxt : contP N E A O (k + 1) = some (C.take (p + 1) ++ (v : Int) :: C.drop q)
  len : (nearB E (rowOf A v) C).length = q - p + 1
  at_ : ∀ i, i < q - p + 1 → ge (nearB E (rowOf A v) C) i = dartF E v (ge C (p + i))
  drt : ∀ i, i < q - p + 1 → isD E (dartF E v (ge C (p + i))) ∧ tailE E (dartF E v (ge C (p + i))) = v ∧ tailE E (oth (dartF E v (ge C (p + i)))) = ge C (p + i) ∧ dartF E (ge C (p + i)) v = oth (dartF E v (ge C (p + i)))
theorem new_v (h : chkO N E A O = true) {k : Nat} (hk : k + 2 < O.length) : ∃ C v p q, NewV N E A O k C v p q := by
  obtain ⟨hT, hl, ⟨h0, h1, h2⟩, hc⟩ := chkO_iff.1 h
  have hV := trg_valid hT
  have hal := hV.al
  have hF := (chkR_iff.1 (chk_same.trans h)).2.2.1
  obtain ⟨C, hC, hG⟩ := cont_goes h (j := k) (by omega)
  obtain ⟨D, hD, _⟩ := cont_goes h (j := k + 1) (by omega)
  have g1 := cont_same h (j := k) (by omega)
  have g2 := cont_same h (j := k + 1) (by omega)
  obtain ⟨_, _, hin, _⟩ := cont_fwd hT (head_fine hT (by omega) h0 h1) (by omega) hC
  have hfk := hF.mono (show k + 2 + 1 ≤ O.length by omega)
  obtain ⟨_, f0, f1, f2⟩ := hfk.pred (by omega)
  obtain ⟨v, hv⟩ : ∃ v : Nat, ge O (k + 2) = (v : Int) := ⟨(ge O (k + 2)).toNat, by omega⟩
  rw [hD] at g2
  unfold contR at g2
  rw [g1, hC] at g2
  have hs : spanF C v (stepI E C v) = some D := by rw [← hv]; exact step_span g2
  obtain ⟨p, q, hpq, hq, hlo, hhi, rfl, hp, hq', hil⟩ := span_inv (fun i hi => stepI_pos hi) hs
  have hvl : v < A.length := by omega
  have hne : stepI E C v ≠ [] := fun e => by rw [e] at hp; cases hp
  have hin2 : ∀ i ∈ stepI E C v, (p : Int) ≤ i ∧ i ≤ q := fun i hi => by
    have a := (lo_mem (fun i hi => (stepI_pos hi).1) hne).2 i hi
    have b := (hi_mem (fun i hi => (stepI_pos hi).1) hne).2 i hi
    omega
  have hal2 := fun i hi => stepI_all hpq hin2 hil (i := i) hi
  refine ⟨C, v, p, q, hv, hvl, hC, hG, fun hm => f2 (hv ▸ hin _ hm), hpq, hq, hlo, hhi, hD, ?_, fun i hi => ?_, fun i hi => ?_⟩
  · rw [nearB_dart hT hvl, List.length_map]; exact hil
  · rw [nearB_dart hT hvl, ge_eq _ (by rw [List.length_map]; omega), List.getElem_map, hal2 i (by omega)]
    rfl
  · have hm : ((p + i : Nat) : Int) ∈ stepI E C v := by rw [← hal2 i (by omega)]; exact List.getElem_mem _
    have hj := stepI_join hm
    obtain ⟨d, d0, d1, d2, d3⟩ := dart_nbr (join_nbr.1 hj)
    have hd : isD E d := ⟨d0, d1⟩
    rw [dartF_eq hT hd d2 d3]
    exact ⟨hd, d2, d3, dartF_eq hT hd.oth d3 (by rw [oth_oth]; exact d2)⟩

theorem tailF_eq (hV : vRot N E A) {d : Int} (hd : isD E d) : tailF N E A d = tailE E d := by
  unfold tailF; rw [if_pos ⟨vRotB_iff.2 hV, hd.1, hd.2⟩]
theorem rts_ord (hT : trgB N E A = true) (h : chkO N E A O = true) : rts E A = [ge O 0, ge O 1, ge O (O.length - 1)] := by
  obtain ⟨_, hl, ⟨h0, h1, h2⟩, _⟩ := chkO_iff.1 h
  have hV := trg_valid hT
  have hE := trg_pos hT
  have e0 : isD E 0 := ⟨by omega, by omega⟩
  have e1 : isD E 1 := ⟨by omega, by omega⟩
  have f0 := nxF_in hV e0.1 e0.2
  have f1 := nxF_in hV f0.1 f0.2
  have n0 : nextF N E A 0 = nxF A 0 := by unfold nextF; rw [if_pos ⟨vRotB_iff.2 hV, e0.1, e0.2⟩]; rfl
  have n1 : nextF N E A (nxF A 0) = nxF A (nxF A 0) := by unfold nextF; rw [if_pos ⟨vRotB_iff.2 hV, f0.1, f0.2⟩]; rfl
  rw [rts_eq, h0, h1, show O.length - 1 = (N - 1).toNat by omega, h2, tailF_eq hV e0, tailF_eq hV e1]
  unfold thirdF
  rw [n0, n1, tailF_eq hV ⟨f1.1, f1.2⟩]
theorem fine_inj {i j : Nat} (h : Fine N O O.length) (hi : i < O.length) (hj : j < O.length) (e : ge O i = ge O j) : i = j := by
  have hn := h.1
  rw [List.take_length] at hn
  rw [ge_eq O hi, ge_eq O hj] at e
  exact (List.getElem_inj hn).1 e
theorem put_eq (h : chkO N E A O = true) {k : Nat} {C : List Int} {v p q : Nat} (hk : k + 2 < O.length) (hN : NewV N E A O k C v p q) (X : List Int) :
    putK A (nearB E (rowOf A v) C) X (nearB E (rowOf A v) C).length = putR (decide (k + 3 = O.length)) E C v p q X := by
  have hT := (chkO_iff.1 h).1
  have hro := rts_ord hT h
  have hF := (chkR_iff.1 (chk_same.trans h)).2.2.1
  have hpq := hN.pq
  have hv := hN.hv
  have hdd : ∀ i, i < q - p + 1 → outB A (ge (nearB E (rowOf A v) C) i) = decide ((v : Int) ∈ rts E A ∧ ge C (p + i) ∈ rts E A) := fun i hi => by
    obtain ⟨d1, d2, d3, d4⟩ := hN.drt i hi
    rw [hN.at_ i hi, Bool.eq_iff_iff, outB_iff hT d1, d2, d3, decide_eq_true_iff]
  have hmid : ∀ i, i < q - p → 0 < i → (dartF E (ge C (p + i)) v).toNat = (oth (ge (nearB E (rowOf A v) C) i)).toNat := fun i hi _ => by
    rw [hN.at_ i (by omega), (hN.drt i (by omega)).2.2.2]
  by_cases hfin : k + 3 = O.length
  · unfold putR
    rw [if_pos (decide_eq_true hfin)]
    have hvr : (v : Int) ∈ rts E A := by rw [hro, ← hv, show k + 2 = O.length - 1 by omega]; simp
    obtain ⟨hT', hl, ⟨h0, h1, h2⟩, hc⟩ := chkO_iff.1 h
    have tj := third_join hT
    rw [← h0, ← h1, ← h2, show (N - 1).toNat = k + 2 by omega, hv] at tj
    have hm0 : ((0 : Nat) : Int) ∈ stepI E C v := stepI_of (by have := hN.gos.two; omega) (by rw [hN.gos.fst]; exact tj.1)
    have hm1 : ((C.length - 1 : Nat) : Int) ∈ stepI E C v := stepI_of (by have := hN.gos.two; omega) (by rw [hN.gos.lst]; exact tj.2.1)
    have a := (lo_mem (fun i hi => (stepI_pos hi).1) (List.ne_nil_of_mem hm0)).2 _ hm0
    have b := (hi_mem (fun i hi => (stepI_pos hi).1) (List.ne_nil_of_mem hm0)).2 _ hm1
    rw [hN.lo] at a
    rw [hN.hi] at b
    have hql := hN.ql
    obtain rfl : p = 0 := by omega
    have hqe : q = C.length - 1 := by omega
    have o0 : outB A (ge (nearB E (rowOf A v) C) 0) = true := by
      rw [hdd 0 (by omega), decide_eq_true_iff]
      refine ⟨hvr, ?_⟩
      rw [Nat.add_zero, hN.gos.fst, hro]; simp
    have o1 : outB A (ge (nearB E (rowOf A v) C) q) = true := by
      rw [hdd q (by omega), decide_eq_true_iff]
      refine ⟨hvr, ?_⟩
      rw [Nat.zero_add, hqe, hN.gos.lst, hro]; simp
    have om : ∀ i, 0 < i → i < q → outB A (ge (nearB E (rowOf A v) C) i) = false := fun i h0 h1 => by
      rw [hdd i (by omega), decide_eq_false_iff_not]
      rintro ⟨_, hm⟩
      rw [Nat.zero_add, hro] at hm
      simp only [List.mem_cons, List.not_mem_nil, or_false] at hm
      have hnd := hN.gos.nd
      rcases hm with e | e | e
      · rw [← hN.gos.fst, ge_eq C (by omega), ge_eq C (by omega)] at e
        have := (List.getElem_inj hnd).1 e
        omega
      · rw [← hN.gos.lst, ge_eq C (by omega), ge_eq C (by omega)] at e
        have := (List.getElem_inj hnd).1 e
        omega
      · rw [show O.length - 1 = k + 2 by omega, hv] at e
        exact hN.new (by rw [← e]; exact ge_mem (by omega))
    have key : ∀ i, i < q → putK A (nearB E (rowOf A v) C) X (i + 1) = midR E C v 0 X i := by
      intro i
      induction i with
      | zero => intro _; unfold putK; rw [if_pos o0]; rfl
      | succ i ih =>
        intro hi
        unfold putK
        rw [om (i + 1) (by omega) (by omega), if_neg (by simp), if_neg (by omega), if_neg (by rw [hN.len]; omega), ih (by omega)]
        show _ = (midR E C v 0 X i).set _ 2
        rw [show 0 + 1 + i = 0 + (i + 1) by omega, hmid (i + 1) (by omega) (by omega)]
    rw [hN.len, Nat.sub_zero]
    show (if outB A (ge _ q) = true then putK A _ X q else _) = _
    rw [if_pos o1]
    have := key (q - 1) (by omega)
    rw [show q - 1 + 1 = q by omega] at this
    exact this
  · unfold putR
    rw [if_neg (by simpa using hfin)]
    have hvr : (v : Int) ∉ rts E A := by
      rw [hro, ← hv]
      simp only [List.mem_cons, List.not_mem_nil, or_false]
      rintro (e | e | e)
      · have := fine_inj hF (by omega) (by omega) e; omega
      · have := fine_inj hF (by omega) (by omega) e; omega
      · have := fine_inj hF (by omega) (by omega) e; omega
    have om : ∀ i, i < q - p + 1 → outB A (ge (nearB E (rowOf A v) C) i) = false := fun i hi => by
      rw [hdd i hi, decide_eq_false_iff_not]
      exact fun k => hvr k.1
    have key : ∀ i, i < q - p → putK A (nearB E (rowOf A v) C) X (i + 1) = midR E C v p (X.set (dartF E v (ge C p)).toNat 0) i := by
      intro i
      induction i with
      | zero =>
        intro _
        unfold putK
        rw [om 0 (by omega), if_neg (by simp), if_pos rfl, hN.at_ 0 (by omega)]
        rfl
      | succ i ih =>
        intro hi
        unfold putK
        rw [om (i + 1) (by omega), if_neg (by simp), if_neg (by omega), if_neg (by rw [hN.len]; omega), ih (by omega)]
        show _ = (midR E C v p _ i).set _ 2
        rw [show p + 1 + i = p + (i + 1) by omega, hmid (i + 1) (by omega) (by omega)]
    rw [hN.len]
    show (if outB A (ge _ (q - p)) = true then putK A _ X (q - p) else if q - p = 0 then _ else if q - p + 1 = _ then _ else _) = _
    have h2 := key (q - p - 1) (by omega)
    rw [show q - p - 1 + 1 = q - p by omega] at h2
    rw [om (q - p) (by omega), if_neg (by simp), if_neg (by omega), if_pos (by rw [hN.len]), h2, hN.at_ (q - p) (by omega), show p + (q - p) = q by omega]
    refine (midR_set E C v p _ _ 1 _ fun j hj e => ?_).symm
    obtain ⟨a1, a2, a3, a4⟩ := hN.drt (j + 1) (by omega)
    obtain ⟨b1, b2, b3, b4⟩ := hN.drt (q - p) (by omega)
    rw [show p + (q - p) = q by omega] at b1 b2 b3 b4
    rw [show p + 1 + j = p + (j + 1) by omega, a4] at e
    have e2 : oth (dartF E v (ge C (p + (j + 1)))) = dartF E v (ge C q) := by
      have := a1.oth.1
      have := b1.1
      omega
    rw [e2, b2] at a3
    exact hN.new (by rw [a3]; exact ge_mem (by have := hN.ql; omega))
theorem refK_eq (h : chkO N E A O = true) : ∀ k, k + 2 ≤ O.length → refK N E A O k = buildK N E A O k
  | 0, _ => rfl
  | k + 1, hk => by
    obtain ⟨C, v, p, q, hN⟩ := new_v h (k := k) (by omega)
    have ih := refK_eq h k (by omega)
    have hc : contG N E A O k = C := by unfold contG; rw [hN.con]; rfl
    unfold refK buildK
    rw [hc, hN.hv, Int.toNat_natCast, ih, put_eq h (by omega) hN, hN.lo, hN.hi]
    rfl
end
end Go.Proofs.YtlealdicoceekaaDoor

/- Build of the reference. -/
namespace Go.Proofs.YtlealdicoceekaaDoor
open Go.RowKit
attribute [local go_sem ↓] Go.wp_at_zero Go.wp_at_succ

theorem dart_sign {E : List (Int × Int)} {u v : Int} : (0 ≤ dartF E v u ↔ joinB E u v = true) ∧ -1 ≤ dartF E v u ∧ dartF E v u < 2 * (E.length : Int) := by
  rcases dartF_sound (E := E) (a := v) (b := u) with ⟨h1, h2⟩ | ⟨x, hx, he, h1, h2⟩
  · rw [h1]
    refine ⟨⟨fun h => by omega, fun h => ?_⟩, by omega, by omega⟩
    obtain ⟨d, d0, d1, d2, d3⟩ := dart_nbr (join_nbr.1 h)
    exact absurd ⟨d2, d3⟩ (h2 d ⟨d0, d1⟩)
  · rw [he]
    refine ⟨⟨fun _ => ?_, fun _ => hx.1⟩, by have := hx.1; omega, hx.2⟩
    rw [join_nbr, ← h1, ← h2]
    exact nbr_dart hx.1 hx.2
theorem refK_len (N : Int) (E : List (Int × Int)) (A : List (List Int)) (O : List Int) : ∀ k, (refK N E A O k).length = 2 * E.length
  | 0 => by unfold refK; simp
  | k + 1 => by
    unfold refK putR
    rw [midR_len]
    split
    · exact refK_len N E A O k
    · rw [List.length_set, List.length_set]; exact refK_len N E A O k
theorem contG_zero (N : Int) (E : List (Int × Int)) (A : List (List Int)) {O : List Int} (h : 2 ≤ O.length) : contG N E A O 0 = [ge O 0, ge O 1] := by
  unfold contG contP
  match O, h with
  | x :: y :: O, _ => rfl
theorem Ints.two {w : World} {b : Nat} {x y : Int} (h0 : w.cell? ⟨b, 0, none⟩ = some (.int .i64 x)) (h1 : w.cell? ⟨b, 1, none⟩ = some (.int .i64 y)) (hx : -9223372036854775808 ≤ x ∧ x ≤ 9223372036854775807) (hy : -9223372036854775808 ≤ y ∧ y ≤ 9223372036854775807) : Ints w (some ⟨b, 0, none⟩) [x, y] := by
  refine ⟨by simp, fun z hz => ?_, b, 0, fun _ => ⟨rfl, World.block_lt_of_cell? w _ h0⟩, fun i hi => ?_⟩
  · rcases List.mem_cons.1 hz with rfl | hz
    · exact hx
    · rw [List.mem_singleton.1 hz]; exact hy
  · match i, hi with
    | 0, _ => simpa [ge] using h0
    | 1, _ => simpa [ge] using h1

set_option maxRecDepth 8000 in
set_option maxHeartbeats 32000000 in
theorem build38_r (N : Int) (pE pA pO : Option Addr) (nE nA nO cE cA cO : Nat) (E : List (Int × Int)) (A : List (List Int)) (O : List Int) (w : World) (hR : RotIn w pE pA cE E A) (hI : Ints w pO O) (hO1 : O.length ≤ 30) (hO2 : nO ≤ cO) (hO3 : cO ≤ maxLen) (hnE : E.length = nE) (hnA : A.length = nA) (hnO : O.length = nO) :
    Calls Tryd.prog 11 #[.agg #[.int .i64 N, .slice pE nE cE, .slice pA nA cA], .slice pO nO cO] w (TwoR (buildRes N E A O).1 (buildRes N E A O).2 w) := by
  have HR := Lib.hid hR
  have HI := Lib.hid hI
  have hO30 : nO ≤ 30 := by omega
  obtain ⟨tt, htt⟩ : ∃ tt, trgB N E A = tt := ⟨_, rfl⟩
  have Htr : Hid (∀ W1, Grew w W1 → Calls Tryd.prog 21 #[.agg #[.int .i64 N, .slice pE nE cE, .slice pA nA cA]] W1 fun e w' => e = .returned (.bool tt) ∧ Grew W1 w') := Lib.hid (fun W1 h => by
    have := trg_r N pE pA nE nA cE cA E A W1 (HR.out.grew h) hnE hnA
    rw [htt] at this
    exact this)
  cases tt
  case false =>
    have Hf : Hid (buildRes N E A O = ([], 13)) := Lib.hid (by unfold buildRes; rw [if_pos htt])
    clear hR hI htt
    go_enter Tryd.func11, Tryd.ntmps11
    go_wp2_with ((go_at_call 21; apply Calls.mono; (with_reducible exact Htr.out _ (by (repeat (first | exact gR _ | refine gO ?_ _ | refine gA ?_ _ | refine gD ?_ | refine gN ?_ _)))); rintro e w' ⟨rfl, x, rfl⟩))
    go_ret2
    rw [Hf.out]
    exact TwoR.none (by (repeat (first | exact gR _ | refine gO ?_ _ | refine gA ?_ _ | refine gD ?_ | refine gN ?_ _)))
  case true =>
  obtain ⟨t, ht⟩ : ∃ t, chkO N E A O = t := ⟨_, rfl⟩
  have Hk : Hid (∀ W1, Grew w W1 → Calls Tryd.prog 33 #[.agg #[.int .i64 N, .slice pE nE cE, .slice pA nA cA], .slice pO nO cO] W1 fun e w' => e = .returned (.bool t) ∧ Grew W1 w') := Lib.hid (fun W1 h => by
    rw [← ht, ← chk_same]
    exact check36_r _ _ _ _ _ _ _ _ _ _ _ _ _ _ (HR.out.grew h) (HI.out.grew h) hO1 hO2 hO3 hnE hnA hnO)
  have HT := Lib.hid htt
  cases t
  case false =>
    have Hf : Hid (buildRes N E A O = ([], 1)) := Lib.hid (by unfold buildRes; rw [if_neg (by rw [htt]; simp), if_pos ht])
    clear hR hI htt ht
    go_enter Tryd.func11, Tryd.ntmps11
    go_wp2_with (first | ((go_at_call 21; apply Calls.mono; (with_reducible exact Htr.out _ (by (repeat (first | exact gR _ | refine gO ?_ _ | refine gA ?_ _ | refine gD ?_ | refine gN ?_ _)))); rintro e w' ⟨rfl, x, rfl⟩)) | ((go_at_call 33; apply Calls.mono; (with_reducible exact Hk.out _ (by (repeat (first | exact gR _ | refine gO ?_ _ | refine gA ?_ _ | refine gD ?_ | refine gN ?_ _)))); rintro e w' ⟨rfl, x, rfl⟩)))
    go_ret2
    rw [Hf.out]
    exact TwoR.none (by (repeat (first | exact gR _ | refine gO ?_ _ | refine gA ?_ _ | refine gD ?_ | refine gN ?_ _)))
  case true =>
  have HV := Lib.hid (trg_valid htt)
  have Hch := Lib.hid ht
  have hOl := (chkO_iff.1 ht).2.1
  have hN3 := trg_three htt
  have hal := (trg_valid htt).al
  obtain rfl : N = (nA : Int) := by omega
  obtain rfl : nO = nA := by omega
  have Hf : Hid (buildRes nO E A O = (refK nO E A O (nO - 2), 0)) := Lib.hid (by rw [refK_eq ht _ (by omega)]; unfold buildRes; rw [if_neg (by rw [htt]; simp), if_neg (by rw [ht]; simp), hnO])
  have hE0 : 0 < nE := by have := trg_pos htt; omega
  have hnO3 : 3 ≤ nO := by omega
  have hnE1 : nE ≤ 100 := by have := hR.e1; omega
  have HnA := Lib.hid hnA
  have HnE := Lib.hid hnE
  have HnO := Lib.hid hnO
  have Hob : Hid (∀ i, i < nO → -9223372036854775808 ≤ ge O i ∧ ge O i ≤ 9223372036854775807) := Lib.hid (fun i hi => hI.2.1 _ (ge_mem (by omega)))
  have Hdt : Hid (∀ (a b : Int) W1, Grew w W1 → Calls Tryd.prog 34 #[.agg #[.int .i64 nO, .slice pE nE cE, .slice pA nO cA], .int .i64 a, .int .i64 b] W1 fun e w' => e = .returned (.int .i64 (dartF E a b)) ∧ Grew W1 w') := Lib.hid (fun a b W1 h => dart_r _ _ _ _ _ _ _ E a b W1 (HR.out.hE.grew h) HR.out.e1 HnE.out _ rfl)
  obtain ⟨bO, oO, rfl, lO, cO'⟩ := hI.cells (by omega)
  have HcO := Lib.hid cO'
  clear hR hI htt ht hOl hN3 cO' hnA hnE hnO hal
  go_enter Tryd.func11, Tryd.ntmps11
  go_upto_region 1 with fail
  have HgB : Hid (Grew w (w.alloc (.cells #[.int .i64 nO, .slice pE nE cE, .slice pA nO cA] 25))) := Lib.hid ((Grew.refl w).alloc _)
  have k0 : (w.alloc (.cells #[.int .i64 nO, .slice pE nE cE, .slice pA nO cA] 25)).cell? ⟨w.heap.size, 0, none⟩ = some (.int .i64 nO) := by simp [go_sem]
  have k1 : (w.alloc (.cells #[.int .i64 nO, .slice pE nE cE, .slice pA nO cA] 25)).cell? ⟨w.heap.size, 1, none⟩ = some (.slice pE nE cE) := by simp [go_sem]
  have k2 : (w.alloc (.cells #[.int .i64 nO, .slice pE nE cE, .slice pA nO cA] 25)).cell? ⟨w.heap.size, 2, none⟩ = some (.slice pA nO cA) := by simp [go_sem]
  obtain ⟨wB, hwB⟩ : ∃ wB, w.alloc (.cells #[.int .i64 nO, .slice pE nE cE, .slice pA nO cA] 25) = wB := ⟨_, rfl⟩
  rw [hwB] at HgB k0 k1 k2 ⊢
  have hwl := World.block_lt_of_cell? wB _ k0
  dsimp only at hwl
  clear hwB
  go_upto_region 5 with (first
    | (go_at_call 21; apply Calls.mono; (with_reducible exact Htr.out _ (HgB.out.trans (by (repeat (first | exact gR _ | refine gO ?_ _ | refine gA ?_ _ | refine gD ?_ | refine gN ?_ _))))); rintro e w2 ⟨rfl, hg2⟩; have Hg2 := Lib.hid ((show Grew wB _ by (repeat (first | exact gR _ | refine gO ?_ _ | refine gA ?_ _ | refine gD ?_ | refine gN ?_ _))).trans hg2); have n0 := Hg2.out.cellEq k0; have n1 := Hg2.out.cellEq k1; have n2 := Hg2.out.cellEq k2; have hlw2 := World.block_lt_of_cell? w2 _ n0; dsimp only at hlw2; clear hg2)
    | (go_at_call 33; apply Calls.mono; (with_reducible exact Hk.out _ (HgB.out.trans (Hg2.out.trans (by (repeat (first | exact gR _ | refine gO ?_ _ | refine gA ?_ _ | refine gD ?_ | refine gN ?_ _)))))); rintro e w3 ⟨rfl, hg3⟩; have Hg3 := Lib.hid (Hg2.out.trans ((show Grew w2 _ by (repeat (first | exact gR _ | refine gO ?_ _ | refine gA ?_ _ | refine gD ?_ | refine gN ?_ _))).trans hg3)); have m0 := Hg3.out.cellEq k0; have m1 := Hg3.out.cellEq k1; have m2 := Hg3.out.cellEq k2; have hlw3 := World.block_lt_of_cell? w3 _ m0; dsimp only at hlw3; clear hg3))
  go_upto_region 6 with fail
  have HO0 := Lib.hid ((Owns.nil w3 w3.heap.size).made (by simp) #[] 3 1 0 w3.heap.size rfl (by decide) (by simp))
  have HgP : Hid (Grew w3 (w3.alloc (.cells #[] 3))) := Lib.hid ((Grew.refl w3).alloc _)
  obtain ⟨wP, hwP⟩ : ∃ wP, w3.alloc (.cells #[] 3) = wP := ⟨_, rfl⟩
  rw [hwP] at HO0 HgP ⊢
  have M0 := Lib.hid m0
  have M1 := Lib.hid m1
  have M2 := Lib.hid m2
  have Hg3w : Hid (Grew w w3) := Lib.hid (HgB.out.trans Hg3.out)
  clear hwP n0 n1 n2 hlw2 m0 m1 m2 k0 k1 k2 Hg2 HgB hwl Hg3
  go_wp2
  go_loopw [6, 7] (fun lv dv wr => ∃ d : Nat, d ≤ 2 * nE ∧ dv = .int .i64 d ∧ Grew w3 wr ∧ Owns wr w3.heap.size [⟨lv, 3, 1, d, intVs (List.replicate d (-1))⟩]) (fun _ dv _ => 2 * nE - (intOf dv).toNat)
  case atStart => exact ⟨0, Nat.zero_le _, rfl, HgP.out.trans (by (repeat (first | exact gR _ | refine gO ?_ _ | refine gA ?_ _ | refine gD ?_ | refine gN ?_ _))), HO0.out.grew (by (repeat (first | exact gR _ | refine gO ?_ _ | refine gA ?_ _ | refine gD ?_ | refine gN ?_ _)))⟩
  case round =>
    clear HgP HO0
    obtain ⟨d, hd, rfl, hgr, hO⟩ := hrel
    have m0 := hgr.cellEq M0.out
    have m1 := hgr.cellEq M1.out
    have m2 := hgr.cellEq M2.out
    have Hgr := Lib.hid hgr
    have HO := Lib.hid hO
    have hszr := hgr.below.size
    obtain ⟨pV, cV, rfl⟩ := own_form hO (k := 0) rfl
    clear hgr hO
    by_cases hlt : d < 2 * nE
    · have hdi : (d : Int) < 2 * (nE : Int) := by omega
      go_wp2_with ((at_builtin; refine wp_append_owns rfl _ _ 26 rfl 3 1 8 (.int .i64 0) Tryd.underlying26 Tryd.infoInt rfl (by decide) (w3.heap.size) _ 0 _ _ _ (HO.out.grew (by (repeat (first | exact gR _ | refine gO ?_ _ | refine gA ?_ _ | refine gD ?_ | refine gN ?_ _)))) rfl rfl _ 1 1 rfl [.int .i64 ((-1 : Int))] rfl (fun h => by cases h) (one_news _ (by first | (go_simp; done) | (simp [go_sem, ↓IntWalk.iteOmega, *]; done))) (by simp [Value.oneCell']) (by simp only [maxLen]; omega) (by omega) (by first | rfl | omega | (simp <;> omega)) ?_; intro v1 w1 hO1 hg1 hb1 hv1; have HO9 := Lib.hid hO1; have Hg9 := Lib.hid (Grew.grownBy (w0 := w3) (Hgr.out.trans (by (repeat (first | exact gR _ | refine gO ?_ _ | refine gA ?_ _ | refine gD ?_ | refine gN ?_ _)))) hg1 (fun q h => by have := hb1 q h; omega)); clear hO1 hg1 hb1 hv1))
      go_roundw
      case rel => exact ⟨d + 1, by omega, by go_num, Hg9.out.trans (by (repeat (first | exact gR _ | refine gO ?_ _ | refine gA ?_ _ | refine gD ?_ | refine gN ?_ _))), by rw [List.replicate_succ', intVs_app']; exact HO9.out.grew (by (repeat (first | exact gR _ | refine gO ?_ _ | refine gA ?_ _ | refine gD ?_ | refine gN ?_ _)))⟩
      case measure => (simp [intOf] <;> omega)
    · have hdi : ¬ (d : Int) < 2 * (nE : Int) := by omega
      have hdE : d = 2 * nE := by omega
      have HdE := Lib.hid hdE
      obtain ⟨g, cap, e, hgB, hgl, hg1, hg2, _⟩ := HO.out.some (k := 0) rfl (by omega)
      cases e
      have Hgb := Lib.hid hgB
      have HO1 : Hid (Owns wr w3.heap.size [rC g d cV (refK nO E A O 0)]) := Lib.hid (by unfold refK; rw [HnE.out, ← HdE.out]; exact HO.out)
      have Hgrw : Hid (Grew w wr) := Lib.hid (Hg3w.out.trans Hgr.out)
      have o0 := HcO.out wr Hgrw.out 0 (by rw [HnO.out]; omega)
      have o1 := HcO.out wr Hgrw.out 1 (by rw [HnO.out]; omega)
      rw [Nat.add_zero] at o0
      have lw := Nat.lt_of_lt_of_le lO Hgrw.out.below.size
      have hi0 : (0 : Int) < (nO : Int) := by omega
      have hi1 : (1 : Int) < (nO : Int) := by omega
      have hgl2 := Lib.hid hgl
      clear HO hlt hd hdE hgB hgl
      go_wp2
      clear hdi
      go_region
      go_wp2
      have Hst : Hid (Ints (wr.alloc (.cells #[.int .i64 (ge O 0), .int .i64 (ge O 1)] 3)) (some ⟨wr.heap.size, 0, none⟩) (contG nO E A O 0)) := Lib.hid (by
        rw [contG_zero _ _ _ (by rw [HnO.out]; omega)]
        exact Ints.two (by simp [go_sem]) (by simp [go_sem]) (Hob.out 0 (by omega)) (Hob.out 1 (by omega)))
      go_loopw [8, 9, 10, 11, 12, 13, 14, 15] (fun vC kv _ _ _ _ _ _ wx => ∃ k : Nat, k + 2 ≤ nO ∧ kv = .int .i64 ((k + 2 : Nat) : Int) ∧ Grew w3 wx ∧ Owns wx w3.heap.size [rC g d cV (refK nO E A O k)] ∧ ∃ q cC, vC = .slice q (contG nO E A O k).length cC ∧ Ints wx q (contG nO E A O k) ∧ (∀ a, q = some a → g < a.block) ∧ (contG nO E A O k).length ≤ cC ∧ cC ≤ maxLen) (fun _ kv _ _ _ _ _ _ _ => nO - (intOf kv).toNat)
      case atStart => exact ⟨0, by omega, rfl, Hgr.out.trans (by (repeat (first | exact gR _ | refine gO ?_ _ | refine gA ?_ _ | refine gD ?_ | refine gN ?_ _))), HO1.out.grew (by (repeat (first | exact gR _ | refine gO ?_ _ | refine gA ?_ _ | refine gD ?_ | refine gN ?_ _))), _, 2, by rw [contG_zero _ _ _ (by rw [HnO.out]; omega)]; rfl, Hst.out.grew (by (repeat (first | exact gR _ | refine gO ?_ _ | refine gA ?_ _ | refine gD ?_ | refine gN ?_ _))), (fun a ha => by cases ha; exact hgl2.out), by rw [contG_zero _ _ _ (by rw [HnO.out]; omega)]; exact Nat.le_refl 2, (by decide)⟩
      case round =>
        clear HO1 Hgr hszr Hst o0 o1 hi0 hi1 Hgrw hgl2 lw
        obtain ⟨k, hk, rfl, hgr, hO, q, cC, rfl, hIC, hfq, hc1, hc2⟩ := hrel
        have Hgr := Lib.hid hgr
        have HO := Lib.hid hO
        have HIC := Lib.hid hIC
        have Hfq := Lib.hid hfq
        have hszr := hgr.below.size
        have m0 := hgr.cellEq M0.out
        have m1 := hgr.cellEq M1.out
        have m2 := hgr.cellEq M2.out
        have hlwr := World.block_lt_of_cell? wr _ m0
        dsimp only at hlwr
        have Hgrw : Hid (Grew w wr) := Lib.hid (Hg3w.out.trans hgr)
        clear hgr hO hIC hfq
        by_cases hlt : k + 2 < nO
        · have hki : ((k + 2 : Nat) : Int) < (nO : Int) := by omega
          obtain ⟨C, v, p, z, hN⟩ := new_v Hch.out (k := k) (by rw [HnO.out]; exact hlt)
          have hcC : contG nO E A O k = C := by unfold contG; rw [hN.con]; rfl
          have hcN : contG nO E A O (k + 1) = C.take (p + 1) ++ (v : Int) :: C.drop z := by unfold contG; rw [hN.nxt]; rfl
          have hrN : refK nO E A O (k + 1) = putR (decide (k + 3 = O.length)) E C v p z (refK nO E A O k) := by
            show putR _ E (contG nO E A O k) (ge O (k + 2)) _ _ _ = _
            rw [hcC, hN.hv, hN.lo, hN.hi]
            rfl
          rw [hcC] at HIC hc1 ⊢
          have HN := Lib.hid hN
          have HcN := Lib.hid hcN
          have HrN := Lib.hid hrN
          obtain ⟨X, hX⟩ : ∃ X, refK nO E A O k = X := ⟨_, rfl⟩
          have HXl : Hid (X.length = d) := Lib.hid (by rw [← hX, refK_len, HnE.out, HdE.out])
          rw [hX] at HO HrN
          have e1 := HcO.out wr Hgrw.out (k + 2) (by rw [HnO.out]; exact hlt)
          rw [hN.hv] at e1
          have hvl : v < nO := by have := hN.vl; have := HnA.out; omega
          have hpz := hN.pq
          have hzl := hN.ql
          obtain ⟨m, hm⟩ : ∃ m, C.length = m := ⟨_, rfl⟩
          have Hm := Lib.hid hm
          have hm3 : m ≤ 30 := by rw [← hm]; have := hN.gos.len; omega
          rw [hm] at hc1 hzl ⊢
          clear hcC hcN hrN hN hX hm
          obtain ⟨wo, hwo⟩ : ∃ wo, wo = wr := ⟨_, rfl⟩
          subst hwo
          obtain ⟨bC, oC, rfl, lC, cC'⟩ := HIC.out.cells (by rw [Hm.out]; omega)
          have HcC := Lib.hid cC'
          clear cC'
          go_upto_region 17 with fail
          go_loopw [11, 12, 13] (fun vf vl iv wk => ∃ j : Nat, j ≤ m ∧ iv = .int .i64 j ∧ vf = .int .i64 (lo (stepIk E C v j)) ∧ vl = .int .i64 (hi (stepIk E C v j)) ∧ Grew wo wk) (fun _ _ iv _ => m - (intOf iv).toNat)
          case atStart => exact ⟨0, Nat.zero_le _, rfl, rfl, rfl, by (repeat (first | exact gR _ | refine gO ?_ _ | refine gA ?_ _ | refine gD ?_ | refine gN ?_ _))⟩
          case round =>
            clear e1
            obtain ⟨j, hj, rfl, rfl, rfl, hgj⟩ := hrel
            obtain ⟨hf1, hf2, hl1, hl2⟩ := lo_range (stepIk_in (E := E) (C := C) (w := v) (j := j)) (by omega)
            have q0 := hgj.cellEq m0
            have q1 := hgj.cellEq m1
            have q2 := hgj.cellEq m2
            have hlwj := World.block_lt_of_cell? _ _ q0
            dsimp only at hlwj
            have Hgj := Lib.hid hgj
            have Hgjw : Hid (Grew w wr) := Lib.hid (Hgrw.out.trans hgj)
            obtain ⟨f, hf⟩ : ∃ f, lo (stepIk E C v j) = f := ⟨_, rfl⟩
            obtain ⟨l, hl⟩ : ∃ l, hi (stepIk E C v j) = l := ⟨_, rfl⟩
            rw [hf] at hf1 hf2 ⊢
            rw [hl] at hl1 hl2 ⊢
            have Hf1 := Lib.hid hf
            have Hl1 := Lib.hid hl
            clear hf hl hgj
            by_cases hlj : j < m
            · have e1 := HcC.out wr Hgj.out j (by rw [Hm.out]; exact hlj)
              have lCw := Nat.lt_of_lt_of_le lC Hgj.out.below.size
              obtain ⟨u, hu⟩ : ∃ u, ge C j = u := ⟨_, rfl⟩
              have HI2 := Lib.hid (stepIk_succ E C v j)
              rw [hu] at e1 HI2
              obtain ⟨dd, hdd⟩ : ∃ dd, dartF E v u = dd := ⟨_, rfl⟩
              have hsg := dart_sign (E := E) (u := u) (v := v)
              rw [hdd] at hsg
              have Hsg := Lib.hid hsg.1
              have hd0 := hsg.2.1
              have hd1 : dd < 2 * (nE : Int) := by have := hsg.2.2; have := HnE.out; omega
              have Hd : Hid (∀ W1, Grew w W1 → Calls Tryd.prog 34 #[.agg #[.int .i64 nO, .slice pE nE cE, .slice pA nO cA], .int .i64 v, .int .i64 u] W1 fun e w' => e = .returned (.int .i64 dd) ∧ Grew W1 w') := Lib.hid (fun W1 h => by rw [← hdd]; exact Hdt.out _ _ W1 h)
              have hji : (j : Int) < (m : Int) := by omega
              clear hu hdd hsg
              by_cases hp : 0 ≤ dd
              · replace HI2 : Hid (stepIk E C v (j + 1) = stepIk E C v j ++ [(j : Int)]) := Lib.hid (by rw [HI2.out, if_pos (Hsg.out.1 hp)])
                have Hf2 := Lib.hid (lo_snoc (stepIk E C v j) j)
                have Hl2 := Lib.hid (hi_snoc (stepIk E C v j) j)
                rw [← HI2.out, Hf1.out] at Hf2
                rw [← HI2.out, Hl1.out] at Hl2
                by_cases h1 : f < 0
                all_goals
                  have Hf3 := Hf2
                  have Hl3 := Hl2
                  clear Hf2 Hl2
                  go_upto_region 19 with fail
                  refine wp_region_over (by kernel_rfl) (by kernel_rfl) ?_; (repeat (go_big_quiet_step ((go_at_call 34; apply over_call; with_reducible exact Hd.out _ (Hgjw.out.trans (by (repeat (first | exact gR _ | refine gO ?_ _ | refine gA ?_ _ | refine gD ?_ | refine gN ?_ _)))))))); refine wpQuiet_nil ?_; rintro _ ⟨x, rfl⟩
                  go_wp2
                  go_roundw
                  case rel => exact ⟨j + 1, by omega, by go_num, by rw [Hf3.out]; congr 1; split <;> omega, by rw [Hl3.out]; congr 1; omega, Hgj.out.trans (by (repeat (first | exact gR _ | refine gO ?_ _ | refine gA ?_ _ | refine gD ?_ | refine gN ?_ _)))⟩
                  case measure => (simp [intOf] <;> omega)
              · replace HI2 : Hid (stepIk E C v (j + 1) = stepIk E C v j) := Lib.hid (by rw [HI2.out, if_neg (fun k => hp (Hsg.out.2 k)), List.append_nil])
                go_upto_region 19 with fail
                refine wp_region_over (by kernel_rfl) (by kernel_rfl) ?_; (repeat (go_big_quiet_step ((go_at_call 34; apply over_call; with_reducible exact Hd.out _ (Hgjw.out.trans (by (repeat (first | exact gR _ | refine gO ?_ _ | refine gA ?_ _ | refine gD ?_ | refine gN ?_ _)))))))); refine wpQuiet_nil ?_; rintro _ ⟨x, rfl⟩
                go_wp2
                go_roundw
                case rel => exact ⟨j + 1, by omega, by go_num, by rw [HI2.out, Hf1.out], by rw [HI2.out, Hl1.out], Hgj.out.trans (by (repeat (first | exact gR _ | refine gO ?_ _ | refine gA ?_ _ | refine gD ?_ | refine gN ?_ _)))⟩
                case measure => (simp [intOf] <;> omega)
            · obtain rfl : j = m := by omega
              have hIe : stepIk E C v C.length = stepI E C v := rfl
              have hfp : f = (p : Int) := by rw [← Hf1.out, ← Hm.out, hIe]; exact HN.out.lo
              have hlz : l = (z : Int) := by rw [← Hl1.out, ← Hm.out, hIe]; exact HN.out.hi
              subst hfp hlz
              have hji : ¬ (j : Int) < (j : Int) := by omega
              have Hg7 : Hid (Grew w3 wr) := Lib.hid (Hgr.out.trans Hgj.out)
              have HO7 := Lib.hid (HO.out.grew Hgj.out)
              have HI7 := Lib.hid (HIC.out.grew Hgj.out)
              have HnC : Hid (∀ i, i < z - p + 1 → 0 ≤ dartF E v (ge C (p + i)) ∧ dartF E v (ge C (p + i)) < 2 * (nE : Int)) := Lib.hid (fun i hi => by
                have := (HN.out.drt i hi).1
                have h2 := HnE.out
                exact ⟨this.1, by have := this.2; omega⟩)
              have HmC : Hid (∀ i, i < z - p + 1 → 0 ≤ dartF E (ge C (p + i)) v ∧ dartF E (ge C (p + i)) v < 2 * (nE : Int)) := Lib.hid (fun i hi => by
                have h3 := HN.out.drt i hi
                rw [h3.2.2.2]
                have := h3.1.oth
                have h2 := HnE.out
                exact ⟨this.1, by have := this.2; omega⟩)
              clear q0 q1 q2 hlwj hIe hf1 hf2 hl1 hl2 Hf1 Hl1 hlj hj Hgj Hgjw HO HIC Hgr Hgrw hlwr hszr m0 m1 m2 lC HcC
              obtain ⟨w7, hw7⟩ : ∃ w7, w7 = wr := ⟨_, rfl⟩
              subst hw7
              by_cases hfin : k + 3 = nO
              case' pos =>
                have HrN5 : Hid (refK nO E A O (k + 1) = midR E C v p X (z - p - 1)) := Lib.hid (by
                  rw [HrN.out]
                  unfold putR
                  rw [if_pos (by rw [HnO.out]; exact decide_eq_true hfin)])
                have HX5l := HXl
                obtain ⟨X5, hX5⟩ : ∃ X5, X5 = X := ⟨_, rfl⟩
                subst hX5
                obtain ⟨w5, hw5⟩ : ∃ w5, w5 = w7 := ⟨_, rfl⟩
                subst hw5
                have hk3 : ¬ ((k + 2 : Nat) : Int) + 1 < (nO : Int) := by omega
                have HO5 := HO7
                have HI5 := HI7
                have Hg5 := Hg7
                clear HrN HXl HO7 HI7 Hg7 hfin
                go_upto_region 26 with fail
              case' neg =>
                have HrN5 : Hid (refK nO E A O (k + 1) = midR E C v p ((X.set (dartF E v (ge C p)).toNat 0).set (dartF E v (ge C z)).toNat 1) (z - p - 1)) := Lib.hid (by
                  rw [HrN.out]
                  unfold putR
                  rw [if_neg (by rw [HnO.out]; simpa using hfin)])
                have hk3 : ((k + 2 : Nat) : Int) + 1 < (nO : Int) := by omega
                obtain ⟨a, ha⟩ : ∃ a : Nat, dartF E v (ge C p) = (a : Int) := ⟨(dartF E v (ge C p)).toNat, by have := (HnC.out 0 (by omega)).1; rw [Nat.add_zero] at this; omega⟩
                obtain ⟨b, hb⟩ : ∃ b : Nat, dartF E v (ge C z) = (b : Int) := ⟨(dartF E v (ge C z)).toNat, by have := (HnC.out (z - p) (by omega)).1; rw [show p + (z - p) = z by omega] at this; omega⟩
                have ha2 : a < d := by have h9 := HdE.out; have := (HnC.out 0 (by omega)).2; rw [Nat.add_zero, ha] at this; omega
                have hb2 : b < d := by have h9 := HdE.out; have := (HnC.out (z - p) (by omega)).2; rw [show p + (z - p) = z by omega, hb] at this; omega
                rw [ha, hb, Int.toNat_natCast, Int.toNat_natCast] at HrN5
                have hpi : (p : Int) < (j : Int) := by omega
                have hzi : (z : Int) < (j : Int) := by omega
                go_upto_region 24 with fail
                have m0 := Hg7.out.cellEq M0.out
                have m1 := Hg7.out.cellEq M1.out
                have m2 := Hg7.out.cellEq M2.out
                have hlw := World.block_lt_of_cell? w7 _ m0
                dsimp only at hlw
                obtain ⟨bC', oC', e3, lC, cC'⟩ := HI7.out.cells (by rw [Hm.out]; omega)
                have e1 := cC' w7 (Grew.refl _) p (by rw [Hm.out]; omega)
                cases e3
                have xf := own_fr HO7.out (j := 0) rfl a
                have xa := own_atC HO7.out (j := 0) rfl (i := a) (by rw [HXl.out]; exact ha2)
                have hgl := own_lt HO7.out (j := 0) rfl
                obtain ⟨up, hup⟩ : ∃ up, ge C p = up := ⟨_, rfl⟩
                rw [hup] at e1 ha
                have Hd0 : Hid (∀ W1, Grew w W1 → Calls Tryd.prog 34 #[.agg #[.int .i64 nO, .slice pE nE cE, .slice pA nO cA], .int .i64 v, .int .i64 up] W1 fun e w' => e = .returned (.int .i64 (a : Int)) ∧ Grew W1 w') := Lib.hid (fun W1 h => by rw [← ha]; exact Hdt.out _ _ W1 h)
                have Hgw : Hid (Grew w w7) := Lib.hid (Hg3w.out.trans Hg7.out)
                clear cC' ha hup
                refine wp_region_lex (One 9 (fun c => if c then w7.setCell ⟨g, a, none⟩ (.int .i64 0) else w7)) (by kernel_rfl) (by kernel_rfl) ?_ ?_
                · (repeat (first | exact Grew.refl _ | refine Grew.over ?_ _ | refine Grew.alloc ?_ _ | refine Grew.drew ?_ | refine Grew.drewN ?_ _))
                repeat (first
                  | (refine lex_skip rfl ?_ ?_
                     · exact One.keep (by decide)
                     (try simp only [Act.put, List.setIfInBounds_toArray, List.set_cons_zero, List.set_cons_succ]))
                  | (refine lex_pure (v := ?_) rfl ?_ (fun d w hd hr hC => ?_) ?_
                     rotate_left
                     · exact One.keep (by decide)
                     · ((try (have hs := closed_undone (s := 9) hr.2 rfl (by decide +kernel) hd; unfold One at hC; rw [hs] at hC)); obtain ⟨x, rfl⟩ := hC; simp [go_sem, ↓IntWalk.iteOmega, e1, xf, xa, lC, hgl, m0, m1, m2, hlw, ha2, hpi]; try rfl)
                     (try simp only [Act.put, List.setIfInBounds_toArray, List.set_cons_zero, List.set_cons_succ]))
                  | (refine lex_call (v := ?_) (f := ?_) (args := ?_) rfl ?_ One.grew (fun d w hd hr hC => ?_) (fun d w hd hr hC => ?_) ?_
                     rotate_left 3
                     · exact One.keep (by decide)
                     · ((try (have hs := closed_undone (s := 9) hr.2 rfl (by decide +kernel) hd; unfold One at hC; rw [hs] at hC)); obtain ⟨x, rfl⟩ := hC; simp [go_sem, ↓IntWalk.iteOmega, e1, xf, xa, lC, hgl, m0, m1, m2, hlw, ha2, hpi]; (refine ⟨?_, ?_⟩ <;> rfl))
                     · ((try (have hs := closed_undone (s := 9) hr.2 rfl (by decide +kernel) hd; unfold One at hC; rw [hs] at hC)); obtain ⟨x, rfl⟩ := hC; ((go_at_call 34; exact Hd0.out _ (Hgw.out.trans ((Grew.refl _).over _)))))
                     (try simp only [Act.put, List.setIfInBounds_toArray, List.set_cons_zero, List.set_cons_succ]))
                  | (refine lex_store rfl (fun d w hd hr hC => ?_) ?_
                     · (unfold One at hC ⊢; rw [hd] at hC; rw [mark_same]; obtain ⟨x, rfl⟩ := hC; refine ⟨?_, ?_, ?_⟩; rotate_left; (simp [go_sem, ↓IntWalk.iteOmega, e1, xf, xa, lC, hgl, m0, m1, m2, hlw, ha2, hpi]; try rfl); (simp; exact ⟨_, rfl⟩))
                     (try simp only [Act.put, List.setIfInBounds_toArray, List.set_cons_zero, List.set_cons_succ])))
                refine lex_nil ?_
                intro dLx w8 hd hw8
                unfold One at hw8; rw [hd 9 (by decide)] at hw8; simp only [if_true] at hw8
                have HI8 := Lib.hid ((HI7.out.gr (Gr.setCell (ex := fun k => k = g) (i := a) (Gr.refl _ w7) rfl (.int .i64 0)) (fun x hx e => by have := Hfq.out x hx; omega)).grew hw8)
                have HO8 := Lib.hid ((own_setC HO7.out (j := 0) rfl a 0).grew hw8)
                have Hg8 := Lib.hid ((Hg7.out.setCell (show w3.heap.size ≤ g from Hgb.out) (.int .i64 0)).trans hw8)
                clear hw8 xf xa e1 lC hgl m0 m1 m2 hlw HI7 HO7 Hg7 Hgw Hd0 ha2 hpi
                go_upto_region 25 with fail
                have m0 := Hg8.out.cellEq M0.out
                have m1 := Hg8.out.cellEq M1.out
                have m2 := Hg8.out.cellEq M2.out
                have hlw := World.block_lt_of_cell? w8 _ m0
                dsimp only at hlw
                obtain ⟨bC', oC', e3, lC, cC'⟩ := HI8.out.cells (by rw [Hm.out]; omega)
                have e1 := cC' w8 (Grew.refl _) z (by rw [Hm.out]; omega)
                cases e3
                have xf := own_fr HO8.out (j := 0) rfl b
                have xa := own_atC HO8.out (j := 0) rfl (i := b) (by rw [List.length_set, HXl.out]; exact hb2)
                have hgl := own_lt HO8.out (j := 0) rfl
                obtain ⟨up, hup⟩ : ∃ up, ge C z = up := ⟨_, rfl⟩
                rw [hup] at e1 hb
                have Hd0 : Hid (∀ W1, Grew w W1 → Calls Tryd.prog 34 #[.agg #[.int .i64 nO, .slice pE nE cE, .slice pA nO cA], .int .i64 v, .int .i64 up] W1 fun e w' => e = .returned (.int .i64 (b : Int)) ∧ Grew W1 w') := Lib.hid (fun W1 h => by rw [← hb]; exact Hdt.out _ _ W1 h)
                have Hgw : Hid (Grew w w8) := Lib.hid (Hg3w.out.trans Hg8.out)
                clear cC' hb hup
                refine wp_region_lex (One 9 (fun c => if c then w8.setCell ⟨g, b, none⟩ (.int .i64 1) else w8)) (by kernel_rfl) (by kernel_rfl) ?_ ?_
                · (repeat (first | exact Grew.refl _ | refine Grew.over ?_ _ | refine Grew.alloc ?_ _ | refine Grew.drew ?_ | refine Grew.drewN ?_ _))
                repeat (first
                  | (refine lex_skip rfl ?_ ?_
                     · exact One.keep (by decide)
                     (try simp only [Act.put, List.setIfInBounds_toArray, List.set_cons_zero, List.set_cons_succ]))
                  | (refine lex_pure (v := ?_) rfl ?_ (fun d w hd hr hC => ?_) ?_
                     rotate_left
                     · exact One.keep (by decide)
                     · ((try (have hs := closed_undone (s := 9) hr.2 rfl (by decide +kernel) hd; unfold One at hC; rw [hs] at hC)); obtain ⟨x, rfl⟩ := hC; simp [go_sem, ↓IntWalk.iteOmega, e1, xf, xa, lC, hgl, m0, m1, m2, hlw, hb2, hzi]; try rfl)
                     (try simp only [Act.put, List.setIfInBounds_toArray, List.set_cons_zero, List.set_cons_succ]))
                  | (refine lex_call (v := ?_) (f := ?_) (args := ?_) rfl ?_ One.grew (fun d w hd hr hC => ?_) (fun d w hd hr hC => ?_) ?_
                     rotate_left 3
                     · exact One.keep (by decide)
                     · ((try (have hs := closed_undone (s := 9) hr.2 rfl (by decide +kernel) hd; unfold One at hC; rw [hs] at hC)); obtain ⟨x, rfl⟩ := hC; simp [go_sem, ↓IntWalk.iteOmega, e1, xf, xa, lC, hgl, m0, m1, m2, hlw, hb2, hzi]; (refine ⟨?_, ?_⟩ <;> rfl))
                     · ((try (have hs := closed_undone (s := 9) hr.2 rfl (by decide +kernel) hd; unfold One at hC; rw [hs] at hC)); obtain ⟨x, rfl⟩ := hC; ((go_at_call 34; exact Hd0.out _ (Hgw.out.trans ((Grew.refl _).over _)))))
                     (try simp only [Act.put, List.setIfInBounds_toArray, List.set_cons_zero, List.set_cons_succ]))
                  | (refine lex_store rfl (fun d w hd hr hC => ?_) ?_
                     · (unfold One at hC ⊢; rw [hd] at hC; rw [mark_same]; obtain ⟨x, rfl⟩ := hC; refine ⟨?_, ?_, ?_⟩; rotate_left; (simp [go_sem, ↓IntWalk.iteOmega, e1, xf, xa, lC, hgl, m0, m1, m2, hlw, hb2, hzi]; try rfl); (simp; exact ⟨_, rfl⟩))
                     (try simp only [Act.put, List.setIfInBounds_toArray, List.set_cons_zero, List.set_cons_succ])))
                refine lex_nil ?_
                intro dLx w5 hd hw5
                unfold One at hw5; rw [hd 9 (by decide)] at hw5; simp only [if_true] at hw5
                have HI5 := Lib.hid ((HI8.out.gr (Gr.setCell (ex := fun k => k = g) (i := b) (Gr.refl _ w8) rfl (.int .i64 1)) (fun x hx e => by have := Hfq.out x hx; omega)).grew hw5)
                have HO5 := Lib.hid ((own_setC HO8.out (j := 0) rfl b 1).grew hw5)
                have Hg5 := Lib.hid ((Hg8.out.setCell (show w3.heap.size ≤ g from Hgb.out) (.int .i64 1)).trans hw5)
                clear hw5 xf xa e1 lC hgl m0 m1 m2 hlw HI8 HO8 Hg8 Hgw Hd0 hb2 hzi
                go_upto_region 26 with fail
                have HX5l : Hid (((X.set a 0).set b 1).length = d) := Lib.hid (by rw [List.length_set, List.length_set]; exact HXl.out)
                obtain ⟨X5, hX5⟩ : ∃ X5, X5 = (X.set a 0).set b 1 := ⟨_, rfl⟩
                replace HX5l : Hid (X5.length = d) := Lib.hid (by rw [hX5]; exact HX5l.out)
                replace HrN5 : Hid (refK nO E A O (k + 1) = midR E C v p X5 (z - p - 1)) := Lib.hid (by rw [hX5]; exact HrN5.out)
                replace HO5 : Hid (Owns w5 w3.heap.size [rC g d cV X5]) := Lib.hid (by rw [hX5]; exact HO5.out)
                clear hX5 HrN HXl hfin
              all_goals
                clear hk3
                go_wp2
                go_loopw [14] (fun iv wk => ∃ s : Nat, p + 1 ≤ s ∧ s ≤ z ∧ iv = .int .i64 s ∧ Grew w3 wk ∧ Owns wk w3.heap.size [rC g d cV (midR E C v p X5 (s - p - 1))] ∧ Ints wk (some ⟨bC, oC, none⟩) C) (fun iv _ => z - (intOf iv).toNat)
                case atStart => exact ⟨p + 1, Nat.le_refl _, hpz, by go_num, Hg5.out.trans (by (repeat (first | exact gR _ | refine gO ?_ _ | refine gA ?_ _ | refine gD ?_ | refine gN ?_ _))), (by rw [show p + 1 - p - 1 = 0 by omega]; exact HO5.out.grew (by (repeat (first | exact gR _ | refine gO ?_ _ | refine gA ?_ _ | refine gD ?_ | refine gN ?_ _)))), HI5.out.grew (by (repeat (first | exact gR _ | refine gO ?_ _ | refine gA ?_ _ | refine gD ?_ | refine gN ?_ _)))⟩
                case round =>
                  clear Hg5 HO5 HI5
                  obtain ⟨s, hs1, hs2, rfl, hgi, hOi, hIi⟩ := hrel
                  have Hgi := Lib.hid hgi
                  have HOi := Lib.hid hOi
                  have HIi := Lib.hid hIi
                  clear hgi hOi hIi
                  have m0 := Hgi.out.cellEq M0.out
                  have m1 := Hgi.out.cellEq M1.out
                  have m2 := Hgi.out.cellEq M2.out
                  have hlw := World.block_lt_of_cell? wr _ m0
                  dsimp only at hlw
                  have hgl := own_lt HOi.out (j := 0) rfl
                  have Hgw : Hid (Grew w wr) := Lib.hid (Hg3w.out.trans Hgi.out)
                  by_cases hil : s < z
                  · have hzi : (s : Int) < (z : Int) := by omega
                    have hji : (s : Int) < (j : Int) := by omega
                    have hdr := HmC.out (s - p) (by omega)
                    rw [show p + (s - p) = s by omega] at hdr
                    obtain ⟨b, hb⟩ : ∃ b : Nat, dartF E (ge C s) v = (b : Int) := ⟨(dartF E (ge C s) v).toNat, by omega⟩
                    have hb2 : b < d := by have := HdE.out; omega
                    have Hmr : Hid (midR E C v p X5 (s + 1 - p - 1) = (midR E C v p X5 (s - p - 1)).set b 2) := Lib.hid (by
                      rw [show s + 1 - p - 1 = (s - p - 1) + 1 by omega]
                      show (midR E C v p X5 (s - p - 1)).set (dartF E (ge C (p + 1 + (s - p - 1))) v).toNat 2 = _
                      rw [show p + 1 + (s - p - 1) = s by omega, hb, Int.toNat_natCast])
                    obtain ⟨bC', oC', e3, lC, cC'⟩ := HIi.out.cells (by rw [Hm.out]; omega)
                    have e1 := cC' wr (Grew.refl _) s (by rw [Hm.out]; omega)
                    cases e3
                    have xf := own_fr HOi.out (j := 0) rfl b
                    have xa := own_atC HOi.out (j := 0) rfl (i := b) (by rw [midR_len, HX5l.out]; exact hb2)
                    obtain ⟨up, hup⟩ : ∃ up, ge C s = up := ⟨_, rfl⟩
                    rw [hup] at e1 hb
                    have Hd0 : Hid (∀ W1, Grew w W1 → Calls Tryd.prog 34 #[.agg #[.int .i64 nO, .slice pE nE cE, .slice pA nO cA], .int .i64 up, .int .i64 v] W1 fun e w' => e = .returned (.int .i64 (b : Int)) ∧ Grew W1 w') := Lib.hid (fun W1 h => by rw [← hb]; exact Hdt.out _ _ W1 h)
                    clear cC' hb hup hdr
                    go_upto_region 29 with fail
                    refine wp_region_lex (One 9 (fun c => if c then wr.setCell ⟨g, b, none⟩ (.int .i64 2) else wr)) (by kernel_rfl) (by kernel_rfl) ?_ ?_
                    · (repeat (first | exact Grew.refl _ | refine Grew.over ?_ _ | refine Grew.alloc ?_ _ | refine Grew.drew ?_ | refine Grew.drewN ?_ _))
                    repeat (first
                      | (refine lex_skip rfl ?_ ?_
                         · exact One.keep (by decide)
                         (try simp only [Act.put, List.setIfInBounds_toArray, List.set_cons_zero, List.set_cons_succ]))
                      | (refine lex_pure (v := ?_) rfl ?_ (fun d w hd hr hC => ?_) ?_
                         rotate_left
                         · exact One.keep (by decide)
                         · ((try (have hs := closed_undone (s := 9) hr.2 rfl (by decide +kernel) hd; unfold One at hC; rw [hs] at hC)); obtain ⟨x, rfl⟩ := hC; simp [go_sem, ↓IntWalk.iteOmega, e1, xf, xa, lC, hgl, m0, m1, m2, hlw, hb2, hji]; try rfl)
                         (try simp only [Act.put, List.setIfInBounds_toArray, List.set_cons_zero, List.set_cons_succ]))
                      | (refine lex_call (v := ?_) (f := ?_) (args := ?_) rfl ?_ One.grew (fun d w hd hr hC => ?_) (fun d w hd hr hC => ?_) ?_
                         rotate_left 3
                         · exact One.keep (by decide)
                         · ((try (have hs := closed_undone (s := 9) hr.2 rfl (by decide +kernel) hd; unfold One at hC; rw [hs] at hC)); obtain ⟨x, rfl⟩ := hC; simp [go_sem, ↓IntWalk.iteOmega, e1, xf, xa, lC, hgl, m0, m1, m2, hlw, hb2, hji]; (refine ⟨?_, ?_⟩ <;> rfl))
                         · ((try (have hs := closed_undone (s := 9) hr.2 rfl (by decide +kernel) hd; unfold One at hC; rw [hs] at hC)); obtain ⟨x, rfl⟩ := hC; ((go_at_call 34; exact Hd0.out _ (Hgw.out.trans ((Grew.refl _).over _)))))
                         (try simp only [Act.put, List.setIfInBounds_toArray, List.set_cons_zero, List.set_cons_succ]))
                      | (refine lex_store rfl (fun d w hd hr hC => ?_) ?_
                         · (unfold One at hC ⊢; rw [hd] at hC; rw [mark_same]; obtain ⟨x, rfl⟩ := hC; refine ⟨?_, ?_, ?_⟩; rotate_left; (simp [go_sem, ↓IntWalk.iteOmega, e1, xf, xa, lC, hgl, m0, m1, m2, hlw, hb2, hji]; try rfl); (simp; exact ⟨_, rfl⟩))
                         (try simp only [Act.put, List.setIfInBounds_toArray, List.set_cons_zero, List.set_cons_succ])))
                    refine lex_nil ?_
                    intro dLx w9 hd hw9
                    unfold One at hw9; rw [hd 9 (by decide)] at hw9; simp only [if_true] at hw9
                    have HI9 := Lib.hid ((HIi.out.gr (Gr.setCell (ex := fun k => k = g) (i := b) (Gr.refl _ wr) rfl (.int .i64 2)) (fun x hx e => by have := Hfq.out x hx; omega)).grew hw9)
                    have HO9 := Lib.hid ((own_setC HOi.out (j := 0) rfl b 2).grew hw9)
                    have Hg9 := Lib.hid ((Hgi.out.setCell (show w3.heap.size ≤ g from Hgb.out) (.int .i64 2)).trans hw9)
                    clear hw9 xf xa e1 lC hgl m0 m1 m2 hlw HIi HOi Hgi Hgw Hd0 hb2
                    go_wp2
                    go_roundw
                    case rel => exact ⟨s + 1, by omega, by omega, by go_num, Hg9.out.trans (by (repeat (first | exact gR _ | refine gO ?_ _ | refine gA ?_ _ | refine gD ?_ | refine gN ?_ _))), by rw [Hmr.out]; exact HO9.out.grew (by (repeat (first | exact gR _ | refine gO ?_ _ | refine gA ?_ _ | refine gD ?_ | refine gN ?_ _))), HI9.out.grew (by (repeat (first | exact gR _ | refine gO ?_ _ | refine gA ?_ _ | refine gD ?_ | refine gN ?_ _)))⟩
                    case measure => (simp [intOf] <;> omega)
                  · have hzi : ¬ (s : Int) < (z : Int) := by omega
                    obtain rfl : s = z := by omega
                    have HOe : Hid (Owns wr w3.heap.size [rC g d cV (refK nO E A O (k + 1))]) := Lib.hid (by rw [HrN5.out]; exact HOi.out)
                    clear HOi m0 m1 m2 hlw hil
                    go_upto_region 31 with fail
                    have HOn := Lib.hid ((Owns.nil wr wr.heap.size).made (by simp) #[] 3 1 0 wr.heap.size rfl (by decide) (by simp))
                    have HgN : Hid (Grew wr (wr.alloc (.cells #[] 3))) := Lib.hid ((Grew.refl wr).alloc _)
                    obtain ⟨wN, hwN⟩ : ∃ wN, wr.alloc (.cells #[] 3) = wN := ⟨_, rfl⟩
                    rw [hwN] at HOn HgN ⊢
                    have hsN := HgN.out.below.size
                    have HT := Lib.hid (HIi.out.cut (k := p + 1) (by rw [Hm.out]; omega))
                    have hTl : (C.take (p + 1)).length = p + 1 := by rw [List.length_take, Hm.out]; omega
                    have HD := Lib.hid (HIi.out.drop (k := s) (by rw [Hm.out]; omega))
                    have hDl : (C.drop s).length = j - s := by rw [List.length_drop, Hm.out]
                    clear hwN
                    go_wp2_with (first
                      | (at_builtin; refine wp_append_owns rfl _ _ 26 rfl 3 1 8 (.int .i64 0) Tryd.underlying26 Tryd.infoInt rfl (by decide) (wr.heap.size) _ 0 _ _ _ (HO2.out.grew (by (repeat (first | exact gR _ | refine gO ?_ _ | refine gA ?_ _ | refine gD ?_ | refine gN ?_ _)))) rfl rfl _ 1 1 rfl [.int .i64 ((v : Int))] rfl (fun h => by cases h) (one_news _ (by first | (go_simp; done) | (simp [go_sem, ↓IntWalk.iteOmega, *]; done))) (by simp [Value.oneCell']) (by simp only [maxLen]; omega) (by omega) (by first | rfl | omega | (simp <;> omega)) ?_; intro v1 w1 hO1 hg1 hb1 hv1; have Hg3 := Lib.hid (Grew.grownBy (w0 := wr) (Hg2.out.trans (by (repeat (first | exact gR _ | refine gO ?_ _ | refine gA ?_ _ | refine gD ?_ | refine gN ?_ _)))) hg1 (fun g h => by have := hb1 g h; omega)); have HO3 := Lib.hid hO1; have hs3 := hg1.size; simp at hs3; clear hO1 hg1 hb1 hv1)
                      | (at_builtin; refine wp_append_owns rfl _ _ 26 rfl 3 1 8 (.int .i64 0) Tryd.underlying26 Tryd.infoInt rfl (by decide) (wr.heap.size) _ 0 _ _ _ (HO3.out.grew (by (repeat (first | exact gR _ | refine gO ?_ _ | refine gA ?_ _ | refine gD ?_ | refine gN ?_ _)))) rfl rfl _ _ _ rfl (intVs (C.drop s)) (by rw [intVs_length, Nat.mul_one]; try first | rfl | assumption | (simp; done) | omega) (fun h => by cases h) (Ints.news (HD.out.grew (Hg3.out.trans (by (repeat (first | exact gR _ | refine gO ?_ _ | refine gA ?_ _ | refine gD ?_ | refine gN ?_ _)))))) (intVs_one _) (by simp only [maxLen]; omega) (by omega) (by first | rfl | omega | (simp <;> omega)) ?_; intro v1 w1 hO1 hg1 hb1 hv1; have Hg4 := Lib.hid (Grew.grownBy (w0 := wr) (Hg3.out.trans (by (repeat (first | exact gR _ | refine gO ?_ _ | refine gA ?_ _ | refine gD ?_ | refine gN ?_ _)))) hg1 (fun g h => by have := hb1 g h; omega)); have HO4 := Lib.hid hO1; clear hO1 hg1 hb1 hv1)
                      | (at_builtin; refine wp_append_owns rfl _ _ 26 rfl 3 1 8 (.int .i64 0) Tryd.underlying26 Tryd.infoInt rfl (by decide) (wr.heap.size) _ 0 _ _ _ (HOn.out.grew (by (repeat (first | exact gR _ | refine gO ?_ _ | refine gA ?_ _ | refine gD ?_ | refine gN ?_ _)))) rfl rfl _ _ _ rfl (intVs (C.take (p + 1))) (by rw [intVs_length, Nat.mul_one]; try first | rfl | assumption | (simp; done) | omega) (fun h => by cases h) (Ints.news (HT.out.grew (HgN.out.trans (by (repeat (first | exact gR _ | refine gO ?_ _ | refine gA ?_ _ | refine gD ?_ | refine gN ?_ _)))))) (intVs_one _) (by simp only [maxLen]; omega) (by omega) (by first | rfl | omega | (simp <;> omega)) ?_; intro v1 w1 hO1 hg1 hb1 hv1; have Hg2 := Lib.hid (Grew.grownBy (w0 := wr) (HgN.out.trans (by (repeat (first | exact gR _ | refine gO ?_ _ | refine gA ?_ _ | refine gD ?_ | refine gN ?_ _)))) hg1 (fun g h => by have := hb1 g h; omega)); have HO2 := Lib.hid hO1; have hs2 := hg1.size; clear hO1 hg1 hb1 hv1))
                    have hbd : ∀ y ∈ C.take (p + 1) ++ (v : Int) :: C.drop s, -9223372036854775808 ≤ y ∧ y ≤ 9223372036854775807 := by
                      intro y hy
                      rcases List.mem_append.1 hy with hy | hy
                      · exact HT.out.2.1 y hy
                      · rcases List.mem_cons.1 hy with rfl | hy
                        · omega
                        · exact HD.out.2.1 y hy
                    have h5 := HO4.out
                    rw [show #[].toList ++ intVs (C.take (p + 1)) ++ [.int .i64 (v : Int)] ++ intVs (C.drop s) = intVs (C.take (p + 1) ++ (v : Int) :: C.drop s) by rw [intVs_app', List.append_assoc, List.append_assoc]; rfl] at h5
                    obtain ⟨q5, cap5, e1, e2, e3, e4, e5, e6⟩ := own_ints h5 (k := 0) rfl hbd
                    subst e1
                    have H6 := Lib.hid e6
                    have H5 := Lib.hid e5
                    have H2 := Lib.hid e2
                    clear h5 e6 e5 hbd HO4
                    go_roundw
                    case rel => exact ⟨k + 1, by omega, by go_num, Hgi.out.trans (Hg4.out.trans (by (repeat (first | exact gR _ | refine gO ?_ _ | refine gA ?_ _ | refine gD ?_ | refine gN ?_ _)))), HOe.out.grew (Hg4.out.trans (by (repeat (first | exact gR _ | refine gO ?_ _ | refine gA ?_ _ | refine gD ?_ | refine gN ?_ _)))), q5, cap5, by rw [HcN.out, H2.out], by rw [HcN.out]; exact H6.out _ (by (repeat (first | exact gR _ | refine gO ?_ _ | refine gA ?_ _ | refine gD ?_ | refine gN ?_ _))), (fun a ha => by have := (H5.out a ha).1; omega), by rw [HcN.out]; omega, e4⟩
                    case measure => (simp [intOf] <;> omega)
        · have hki : ¬ ((k + 2 : Nat) : Int) < (nO : Int) := by omega
          have Hkk : Hid (k = nO - 2) := Lib.hid (by omega)
          have HXl : Hid ((refK nO E A O k).length = d) := Lib.hid (by rw [refK_len, HnE.out, HdE.out])
          go_wp2
          go_ret2
          rw [Hf.out, ← Hkk.out]
          have hOf := HO.out.grew (show Grew wr _ by (repeat (first | exact gR _ | refine gO ?_ _ | refine gA ?_ _ | refine gD ?_ | refine gN ?_ _)))
          obtain ⟨q9, cap9, e, h1, h2, _⟩ := hOf.ints (k := 0) rfl HXl.out (fun x hx => by
            have hb := buildK_rng nO E A O k x (by rw [← refK_eq Hch.out k (by rw [HnO.out]; omega)]; exact hx)
            omega)
          cases e
          exact ⟨Hgrw.out.trans (by (repeat (first | exact gR _ | refine gO ?_ _ | refine gA ?_ _ | refine gD ?_ | refine gN ?_ _))), _, _, by rw [HXl.out]; rfl, h1⟩
end Go.Proofs.YtlealdicoceekaaDoor

/- Lists of points, few: the law's small functions. -/
namespace Go.Proofs.YtlealdicoceekaaDoor
open Go.RowKit
attribute [local go_sem ↓] Go.wp_at_zero Go.wp_at_succ

/-- Equality of points, as a word that the walk does not open. -/
def eqb (a b c d : Int) : Bool := a == c && b == d
theorem eq_pt (a b c d : Int) (w : World) : (Op.equalIn 10000 43 (.agg #[.int .i64 a, .int .i64 b]) (.agg #[.int .i64 c, .int .i64 d])).run Tryd.prog w = .ok (eqb a b c d) w := by
  have hS : Tryd.prog.underlying 43 = some (.struct (Tryd.prog.fieldsOf 43)) := by kernel_rfl
  rw [show (10000 : Nat) = 9999 + 1 from rfl, run_equalIn_agg w 9999 43 _ _ hS (by kernel_rfl)]
  simp only [Program.fieldsOf, Tryd.underlying43, eqb]
  have u3 := Tryd.underlying3
  go_simp
  by_cases h1 : a = c <;> by_cases h2 : b = d <;> simp [h1, h2]
@[go_sem] theorem guard_pt (op : BinOp) (x y : Operand) (xs ys : Array Value) (w : World) : (eqGuard op 43 x y (.agg xs) (.agg ys)).run Tryd.prog w = .ok () w := run_eqGuard_agg w op _ x y xs ys (by kernel_rfl)
@[go_sem ↓] theorem neq_pt (a b c d : Int) (w : World) : (binOp .neq 43 (.agg #[.int .i64 a, .int .i64 b]) (.agg #[.int .i64 c, .int .i64 d])).run Tryd.prog w = .ok (.bool (!(eqb a b c d))) w := by
  rw [run_neq_struct, eq_pt]
  rfl
theorem eqb_pt (p q : Int × Int) : eqb p.1 p.2 q.1 q.2 = decide (p = q) := by
  obtain ⟨a, b⟩ := p
  obtain ⟨c, d⟩ := q
  unfold eqb
  by_cases h1 : a = c <;> by_cases h2 : b = d <;> simp [h1, h2]
theorem eqb_yes {p q : Int × Int} (h : p = q) : eqb p.1 p.2 q.1 q.2 = true := by rw [eqb_pt]; exact decide_eq_true h
theorem eqb_no {p q : Int × Int} (h : p ≠ q) : eqb p.1 p.2 q.1 q.2 = false := by rw [eqb_pt]; exact decide_eq_false h
theorem prs_ext {A B : List (Int × Int)} (h : A.length = B.length) (k : ∀ i, i < A.length → pr A i = pr B i) : A = B := by
  refine List.ext_getElem h fun i h1 h2 => ?_
  rw [← pr_eq A h1, ← pr_eq B h2]
  exact k i h1

set_option maxHeartbeats 2000000 in
theorem points_l (p q : Option Addr) (n k c d : Nat) (A B : List (Int × Int)) (w : World) (hP : Prs w p A) (hQ : Prs w q B) (hn : A.length = n) (hk : B.length = k) :
    Calls Tryd.prog 19 #[.slice p n c, .slice q k d] w fun e w' => e = .returned (.bool (decide (A = B))) ∧ Grew w w' := by
  subst hn hk
  by_cases hl : A.length = B.length
  case neg =>
    have Hf : Hid (decide (A = B) = false) := Lib.hid (decide_eq_false fun h => hl (by rw [h]))
    have hl' : ((A.length : Int) != (B.length : Int)) = true := by rw [bne_iff_ne]; omega
    clear hl hP hQ
    go_enter Tryd.func19, Tryd.ntmps19
    go_wp2
    go_ret
    exact ⟨by rw [Hf.out]; rfl, Grew.refl _⟩
  have hmx := hP.1
  have HP := Lib.hid hP
  have HQ := Lib.hid hQ
  have Hl := Lib.hid hl
  obtain ⟨L, hL⟩ : ∃ L, A.length = L := ⟨_, rfl⟩
  have hLB : B.length = L := by omega
  have HL := Lib.hid hL
  have HLB := Lib.hid hLB
  rw [hL] at hmx
  rw [hL, hLB]
  clear hP hQ hl hL hLB
  go_enter Tryd.func19, Tryd.ntmps19
  go_wp2
  go_loopw [5] (fun i wr => ∃ j : Nat, j ≤ L ∧ i = .int .i64 j ∧ (∀ t, t < j → pr A t = pr B t) ∧ Grew w wr) (fun i _ => L - (intOf i).toNat)
  case atStart => exact ⟨0, Nat.zero_le _, rfl, fun t ht => absurd ht (Nat.not_lt_zero _), Grew.refl _⟩
  case round =>
    obtain ⟨j, hj, rfl, hall, hg⟩ := hrel
    have Hall := Lib.hid hall
    have Hg := Lib.hid hg
    clear hall hg
    by_cases hlt : j < L
    · obtain ⟨b, o, rfl, hb, hc⟩ := HP.out.cells (by rw [HL.out]; omega)
      obtain ⟨b', o', rfl, hb', hc'⟩ := HQ.out.cells (by rw [HLB.out]; omega)
      obtain ⟨c1, c2⟩ := hc wr Hg.out j (by rw [HL.out]; exact hlt)
      obtain ⟨d1, d2⟩ := hc' wr Hg.out j (by rw [HLB.out]; exact hlt)
      have hsz := Hg.out.below.size
      clear hc hc'
      go_upto_region 6 with fail
      refine wp_region_over (by kernel_rfl) (by kernel_rfl) ?_; (repeat (go_big_quiet_step (fail))); refine wpQuiet_nil ?_; rintro _ ⟨x, rfl⟩
      by_cases he : pr A j = pr B j
      · have he' := eqb_yes he
        have He := Lib.hid he
        rw [he']
        clear he
        go_wp2
        go_roundw
        case rel => exact ⟨j + 1, by omega, by go_num, (fun t ht => by
          by_cases e : t = j
          · subst e; exact He.out
          · exact Hall.out t (by omega)), Hg.out.trans (by (repeat (first | exact gR _ | refine gO ?_ _ | refine gA ?_ _ | refine gD ?_ | refine gN ?_ _)))⟩
        case measure => simp [intOf]; omega
      · have he' := eqb_no he
        have Hf : Hid (decide (A = B) = false) := Lib.hid (decide_eq_false fun h => he (by rw [h]))
        rw [he']
        clear he
        go_wp2
        go_ret
        exact ⟨by rw [Hf.out]; rfl, Hg.out.trans (by (repeat (first | exact gR _ | refine gO ?_ _ | refine gA ?_ _ | refine gD ?_ | refine gN ?_ _)))⟩
    · have Hf : Hid (decide (A = B) = true) := Lib.hid (decide_eq_true (prs_ext Hl.out fun i hi => Hall.out i (by rw [HL.out] at hi; omega)))
      go_wp2
      go_ret
      exact ⟨by rw [Hf.out]; rfl, Hg.out⟩
theorem points_eq {p q : Option Addr} {n c d : Nat} {A : List (Int × Int)} {w : World} (hn : A.length = n) (hP : Prs w p A) (hQ : Prs w q A) :
    Calls Tryd.prog 19 #[.slice p n c, .slice q n d] w fun e w' => e = .returned (.bool true) ∧ Grew w w' := by
  have h := points_l p q n n c d A A w hP hQ hn hn
  rw [decide_eq_true rfl] at h
  exact h
theorem same_eq {p q : Option Addr} {n c d : Nat} {A : List Int} {w : World} (hn : A.length = n) (hP : Ints w p A) (hQ : Ints w q A) :
    Calls Tryd.prog 12 #[.slice p n c, .slice q n d] w fun e w' => e = .returned (.bool true) ∧ Grew w w' := by
  have h := same_l p q n n c d A A w hP hQ hn hn
  rw [decide_eq_true rfl] at h
  exact h

noncomputable def few38B (N : Int) (E : List (Int × Int)) (A : List (List Int)) : Bool := fewB E A && (decide (N ≤ 14) || !trgB N E A)
theorem few_in {w : World} {pE pA : Option Addr} {cE : Nat} {E : List (Int × Int)} {A : List (List Int)} (h : fewB E A = true) (hE : Prs w pE E) (hA : Mat w pA A) (c1 : E.length ≤ cE) (c2 : cE ≤ maxLen) : RotIn w pE pA cE E A := by
  have hR := few_at h hE hA
  exact ⟨hR.aw, Or.inr hR.r1, c1, c2⟩
set_option maxHeartbeats 2000000 in
theorem few38_l (N : Int) (pE pA : Option Addr) (nE nA cE cA : Nat) (E : List (Int × Int)) (A : List (List Int)) (w : World) (hE : Prs w pE E) (hA : Mat w pA A) (c1 : E.length ≤ cE) (c2 : cE ≤ maxLen) (hnE : E.length = nE) (hnA : A.length = nA) :
    Calls Tryd.prog 8 #[.agg #[.int .i64 N, .slice pE nE cE, .slice pA nA cA]] w fun e w' => e = .returned (.bool (few38B N E A)) ∧ Grew w w' := by
  have HE := Lib.hid hE
  have HA := Lib.hid hA
  obtain ⟨f, hf⟩ : ∃ f, fewB E A = f := ⟨_, rfl⟩
  have Hf : Hid (∀ W1, Grew w W1 → Calls Tryd.prog 20 #[.agg #[.int .i64 N, .slice pE nE cE, .slice pA nA cA]] W1 fun e w' => e = .returned (.bool f) ∧ Grew W1 w') := Lib.hid (fun W1 h => by
    rw [← hf]
    exact few_l N pE pA nE nA cE cA E A W1 (HE.out.grew h) (HA.out.grew h) hnE hnA)
  cases f
  case false =>
    have Hr : Hid (few38B N E A = false) := Lib.hid (by unfold few38B; rw [hf]; rfl)
    clear hf hE hA
    go_enter Tryd.func8, Tryd.ntmps8
    go_wp2_with ((go_at_call 20; apply Calls.mono; (with_reducible exact Hf.out _ (by (repeat (first | exact gR _ | refine gO ?_ _ | refine gA ?_ _ | refine gD ?_ | refine gN ?_ _)))); rintro e w' ⟨rfl, x, rfl⟩))
    go_ret
    exact ⟨by rw [Hr.out]; rfl, by (repeat (first | exact gR _ | refine gO ?_ _ | refine gA ?_ _ | refine gD ?_ | refine gN ?_ _))⟩
  case true =>
  have HR := Lib.hid (few_in hf hE hA c1 c2)
  by_cases h14 : N ≤ 14
  · have g1 : decide (N ≤ 14) = true := decide_eq_true h14
    have Hr : Hid (few38B N E A = true) := Lib.hid (by unfold few38B; rw [hf, g1]; rfl)
    clear hf hE hA
    go_enter Tryd.func8, Tryd.ntmps8
    go_wp2_with ((go_at_call 20; apply Calls.mono; (with_reducible exact Hf.out _ (by (repeat (first | exact gR _ | refine gO ?_ _ | refine gA ?_ _ | refine gD ?_ | refine gN ?_ _)))); rintro e w' ⟨rfl, x, rfl⟩))
    go_ret
    exact ⟨by rw [Hr.out]; rfl, by (repeat (first | exact gR _ | refine gO ?_ _ | refine gA ?_ _ | refine gD ?_ | refine gN ?_ _))⟩
  · have g1 : decide (N ≤ 14) = false := decide_eq_false h14
    obtain ⟨t, ht⟩ : ∃ t, trgB N E A = t := ⟨_, rfl⟩
    have Hr : Hid (few38B N E A = !t) := Lib.hid (by unfold few38B; rw [hf, g1, ht]; rfl)
    have Ht : Hid (∀ W1, Grew w W1 → Calls Tryd.prog 21 #[.agg #[.int .i64 N, .slice pE nE cE, .slice pA nA cA]] W1 fun e w' => e = .returned (.bool t) ∧ Grew W1 w') := Lib.hid (fun W1 h => by
      rw [← ht]
      exact trg_r N pE pA nE nA cE cA E A W1 (HR.out.grew h) hnE hnA)
    clear hf hE hA ht
    go_enter Tryd.func8, Tryd.ntmps8
    go_wp2_with (first | ((go_at_call 20; apply Calls.mono; (with_reducible exact Hf.out _ (by (repeat (first | exact gR _ | refine gO ?_ _ | refine gA ?_ _ | refine gD ?_ | refine gN ?_ _)))); rintro e w' ⟨rfl, x, rfl⟩)) | ((go_at_call 21; apply Calls.mono; (with_reducible exact Ht.out _ (by (repeat (first | exact gR _ | refine gO ?_ _ | refine gA ?_ _ | refine gD ?_ | refine gN ?_ _)))); rintro e w' ⟨rfl, x, rfl⟩)))
    go_ret
    exact ⟨by rw [Hr.out]; rfl, by (repeat (first | exact gR _ | refine gO ?_ _ | refine gA ?_ _ | refine gD ?_ | refine gN ?_ _))⟩
end Go.Proofs.YtlealdicoceekaaDoor
