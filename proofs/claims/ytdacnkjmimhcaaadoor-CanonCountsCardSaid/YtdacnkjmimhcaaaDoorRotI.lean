/- follow of the program. -/
import Derived.Test.YtdacnkjmimhcaaaDoorRotH
set_option linter.unusedSimpArgs false
set_option linter.unusedVariables false
namespace Go.Proofs.YtdacnkjmimhcaaaDoor
open Go.RowKit
attribute [local go_sem ↓] Go.wp_at_zero Go.wp_at_succ

/-- The dart that comes next on the face. -/
def nxF (A : List (List Int)) (x : Int) : Int := sucF A (oth x)
def fopL (A : List (List Int)) (M : Nat) (S : List Int) : List Int := tab M fun e : Nat => if oth e ∈ S then nxF A e else 0
theorem fopL_length (A : List (List Int)) (M : Nat) (S : List Int) : (fopL A M S).length = M := tab_length _ _
theorem fopL_set {A : List (List Int)} {M o : Nat} {d : Int} {S : List Int} (ho : o < M) (hd : oth d = (o : Int)) : (fopL A M S).set o (sucF A d) = fopL A M (S ++ [d]) := by
  have hd2 : oth (o : Int) = d := by rw [← hd, oth_oth]
  unfold fopL
  rw [tab_set M _ ho]
  refine tab_congr fun u hu => ?_
  by_cases e : u = o
  · subst e
    rw [if_pos rfl, hd2, if_pos (List.mem_append_right _ (List.mem_singleton.2 rfl)), nxF, hd2]
  · rw [if_neg e]
    have : (oth (u : Int) ∈ S ++ [d]) ↔ oth (u : Int) ∈ S := by
      rw [List.mem_append, List.mem_singleton]
      refine ⟨fun h => h.resolve_right (fun h => e ?_), Or.inl⟩
      have := congrArg oth h
      rw [oth_oth, hd] at this
      omega
    simp only [this]
/-- The list of the darts that come next on the faces. -/
def nxL (A : List (List Int)) (M : Nat) : List Int := tab M fun e : Nat => nxF A e
theorem fopL_all {N : Int} {E : List (Int × Int)} {A : List (List Int)} (hV : vRot N E A) : fopL A (2 * E.length) ((pre A A.length).map (·.2)) = nxL A (2 * E.length) := by
  unfold fopL nxL
  refine tab_congr fun u hu => if_pos ?_
  obtain ⟨h0, h1⟩ := oth_in (d := (u : Int)) (M := E.length) (by omega) (by omega)
  obtain ⟨v, k, h1, h2, h3, _⟩ := dart_pos hV h0 h1
  exact List.mem_map.2 ⟨(v, oth u), mem_pre.2 ⟨k, h1, h2, h3⟩, rfl⟩
theorem nxF_in {N : Int} {E : List (Int × Int)} {A : List (List Int)} (hV : vRot N E A) {e : Int} (h0 : 0 ≤ e) (h1 : e < 2 * E.length) : 0 ≤ nxF A e ∧ nxF A e < 2 * E.length := by
  obtain ⟨h2, h3⟩ := oth_in (d := e) (M := E.length) h0 h1
  exact sucF_in hV h2 h3

set_option maxRecDepth 8000 in
set_option maxHeartbeats 8000000 in
theorem follow_p (N : Int) (pE pA : Option Addr) (nE nA cE cA : Nat) (E : List (Int × Int)) (A : List (List Int)) (w : World) (hR : RotAt w pE pA E A) (hV : vRot N E A) (hnE : E.length = nE) (hnA : A.length = nA) :
    Calls Tryd.prog 52 #[.agg #[.int .i64 N, .slice pE nE cE, .slice pA nA cA]] w fun e w' => Grew w w' ∧ ∃ q cap, e = .returned (.slice q (2 * E.length) cap) ∧ Ints w' q (nxL A (2 * E.length)) := by
  subst hnE hnA
  have he1 := hR.e1
  have ha1 := hR.a1
  have hN : N = A.length := hV.al.symm
  subst hN
  have HR := Lib.hid hR
  have HL := Lib.hid hR.r1
  have HV := Lib.hid hV
  clear hR hV
  go_enter Tryd.func52, Tryd.ntmps52
  go_wp2_with (refine wp_make_owns rfl _ _ 26 rfl 3 8 (.int .i64 0) Tryd.underlying26 Tryd.infoInt rfl .i64 .i64 _ _ (2 * E.length) rfl rfl (by push_cast; rfl) (by push_cast; rfl) (by omega) (by simp only [maxLen]; omega) (w.heap.size + 1) [] (Owns.nil _ _) (by simp) ?_; intro w4 hO hg4 hs4; have HO4 := Lib.hid hO; have Hg4 := Lib.hid hg4; have hsz4 := hg4.below.size; have b2 := hg4.cellEq (b := w.heap.size) (i := 2) (v := .slice pA A.length cA) (by first | (go_simp; done) | (simp [go_sem, ↓IntWalk.iteOmega, *]; done)); clear hO hg4)
  simp at hs4 hsz4
  have HwB : Hid (Grew w (w.alloc (.cells #[.int .i64 A.length, .slice pE E.length cE, .slice pA A.length cA] 25))) := Lib.hid ((Grew.refl w).alloc _)
  have Hc0 : Hid ((w.alloc (.cells #[.int .i64 A.length, .slice pE E.length cE, .slice pA A.length cA] 25)).cell? ⟨w.heap.size, 0, none⟩ = some (.int .i64 A.length)) := Lib.hid (by simp [go_sem])
  have Hc2 : Hid ((w.alloc (.cells #[.int .i64 A.length, .slice pE E.length cE, .slice pA A.length cA] 25)).cell? ⟨w.heap.size, 2, none⟩ = some (.slice pA A.length cA)) := Lib.hid (by simp [go_sem])
  have hsB : (w.alloc (.cells #[.int .i64 A.length, .slice pE E.length cE, .slice pA A.length cA] 25)).heap.size = w.heap.size + 1 := by simp
  obtain ⟨wB, hwB⟩ : ∃ wB, w.alloc (.cells #[.int .i64 A.length, .slice pE E.length cE, .slice pA A.length cA] 25) = wB := ⟨_, rfl⟩
  rw [hwB] at Hg4 HwB Hc0 Hc2 hsB HO4
  clear hwB
  have HO5 : Hid (Owns w4 (w.heap.size + 1) [⟨.slice (some ⟨w.heap.size + 1, 0, none⟩) (2 * E.length) (2 * E.length), 3, 1, 2 * E.length, intVs (fopL A (2 * E.length) [])⟩]) := Lib.hid (by
    have := HO4.out
    rw [hsB] at this
    have e : fopL A (2 * E.length) [] = tab (2 * E.length) (fun _ => 0) := tab_congr fun u hu => if_neg (by simp)
    rw [e, ← intVs_rep]
    exact this)
  clear HO4
  go_loopw [16] (fun i wq => ∃ v : Nat, v ≤ A.length ∧ i = .int .i64 v ∧ Grew wB wq ∧ w4.heap.size ≤ wq.heap.size ∧ Owns wq (w.heap.size + 1) [⟨.slice (some ⟨w.heap.size + 1, 0, none⟩) (2 * E.length) (2 * E.length), 3, 1, 2 * E.length, intVs (fopL A (2 * E.length) ((pre A v).map (·.2)))⟩]) (fun i _ => A.length - (intOf i).toNat)
  case atStart => exact ⟨0, Nat.zero_le _, rfl, Hg4.out, Nat.le_refl _, HO5.out⟩
  case round =>
    obtain ⟨v, hv, rfl, hgq, hsq, hOq⟩ := hrel
    have Hgq := Lib.hid hgq
    have HOq := Lib.hid hOq
    have q0 := hgq.cellEq Hc0.out
    have q2 := hgq.cellEq Hc2.out
    have Hwq : Hid (Grew w wr) := Lib.hid (HwB.out.trans hgq)
    clear hgq hOq
    by_cases hlv : v < A.length
    · obtain ⟨bA, oA, rp, rc, rfl, lA, cA'⟩ := HR.out.hA.rows (by omega)
      obtain ⟨a1, _⟩ := cA' wr Hwq.out v hlv
      obtain ⟨_, a2⟩ := cA' w (Grew.refl _) v hlv
      obtain ⟨rv, hrv⟩ : ∃ rv, rp v = rv := ⟨_, rfl⟩
      rw [hrv] at a1 a2
      have Ha2 := Lib.hid a2
      have hrl := HL.out v hlv
      clear cA' a2 hrv
      go_wp2
      clear q0 q2
      go_loopw [22] (fun i wk => ∃ k : Nat, k ≤ (rowOf A v).length ∧ i = .int .i64 k ∧ Grew wB wk ∧ wr.heap.size ≤ wk.heap.size ∧ Owns wk (w.heap.size + 1) [⟨.slice (some ⟨w.heap.size + 1, 0, none⟩) (2 * E.length) (2 * E.length), 3, 1, 2 * E.length, intVs (fopL A (2 * E.length) ((preK A v k).map (·.2)))⟩]) (fun i _ => (rowOf A v).length - (intOf i).toNat)
      case atStart => exact ⟨0, Nat.zero_le _, rfl, Hgq.out, Nat.le_refl _, by rw [preK_zero]; exact HOq.out⟩
      case round =>
        obtain ⟨k, hk, rfl, hgk, hgr, hOk⟩ := hrel
        have Hgk := Lib.hid hgk
        have HOk := Lib.hid hOk
        have Hwk : Hid (Grew w wr) := Lib.hid (HwB.out.trans hgk)
        clear hgk hOk
        by_cases hlk : k < (rowOf A v).length
        · obtain ⟨bR, oR, rfl, lR, cR⟩ := Ha2.out.cells (by omega)
          obtain ⟨j2, hj2⟩ : ∃ j2, (k + 1) % (rowOf A v).length = j2 := ⟨_, rfl⟩
          have hj2l : j2 < (rowOf A v).length := by rw [← hj2]; exact Nat.mod_lt _ (by omega)
          have e1 := cR wr Hwk.out k hlk
          have e2 := cR wr Hwk.out j2 hj2l
          have hem : ((k : Int) + 1) % ((rowOf A v).length : Int) = (j2 : Int) := by rw [← hj2]; push_cast; rfl
          have het : ((k : Int) + 1).tmod ((rowOf A v).length : Int) = (j2 : Int) := by rw [Int.tmod_eq_emod_of_nonneg (by omega)]; exact hem
          have hln0 : ¬ rowOf A v = [] := fun e => by rw [e] at hlk; simp at hlk
          have hwk1 : IntKind.i64.wrap ((k : Int) + 1) = (k : Int) + 1 := IntWalk.i64_in _ ⟨by omega, by omega⟩
          have hok := HV.out.dr (v, ge (rowOf A v) k) (mem_pre.2 ⟨k, hlv, hlk, rfl⟩)
          obtain ⟨m, hm0⟩ : ∃ m : Nat, ge (rowOf A v) k = (m : Int) := ⟨(ge (rowOf A v) k).toNat, by have := hok.1; dsimp only at this; omega⟩
          have hm : m < 2 * E.length := by have := hok.2.1; dsimp only at this; omega
          have hmi : (m : Int) < 2 * (E.length : Int) := by omega
          have hsuc := suc_of HV.out hlv hlk
          rw [hm0, hj2] at hsuc
          rw [hm0] at e1
          rw [← hsuc] at e2
          obtain ⟨gM, cM, eM, _, kM, _, _, nM, mM⟩ := HOk.out.some (k := 0) rfl (by omega)
          cases eM
          obtain ⟨ho1, ho2⟩ := oth_in (d := (m : Int)) (M := E.length) (by omega) (by omega)
          obtain ⟨o, hoe⟩ : ∃ o : Nat, oth m = (o : Int) := ⟨(oth m).toNat, by omega⟩
          have hol : o < 2 * E.length := by omega
          have hoi : (o : Int) < 2 * (E.length : Int) := by omega
          have hx2 : bits BinOp.xor IntKind.i64 (m : Int) 1 = (o : Int) := by rw [← hoe]; exact xor_small m (by omega)
          have x1 := mM o _ (intVs_get _ (by rw [fopL_length]; exact hol))
          have x2 := nM o
          have Hoe := Lib.hid hoe
          clear ho1 ho2 hoe
          have Hn := Lib.hid (preK_succ A v hlk)
          have Hm0 := Lib.hid hm0
          clear cR hok hm0 hsuc nM mM hj2
          go_wp2
          go_roundw
          case rel =>
            have hmap : (preK A v (k + 1)).map (·.2) = (preK A v k).map (·.2) ++ [(m : Int)] := by rw [Hn.out, List.map_append, Hm0.out]; rfl
            have h1 := HOk.out.set (k := 0) rfl o (.int .i64 (sucF A m))
            rw [intVs_set, fopL_set hol Hoe.out] at h1
            refine ⟨k + 1, by omega, by go_num, Hgk.out.setCell (show wB.heap.size ≤ w.heap.size + 1 by omega) _, by simp; omega, ?_⟩
            rw [hmap]
            exact h1
          case measure => simp [intOf]; omega
        · have hke : k = (rowOf A v).length := by omega
          have Hp : Hid (preK A v k = pre A (v + 1)) := Lib.hid (by rw [hke, preK_all])
          go_wp2
          go_roundw
          case rel => exact ⟨v + 1, by omega, by go_num, Hgk.out, by omega, by rw [← Hp.out]; exact HOk.out⟩
          case measure => simp [intOf]; omega
    · have hve : v = A.length := by omega
      subst hve
      go_wp2
      go_ret
      have h := HOq.out
      rw [fopL_all HV.out] at h
      obtain ⟨p', cap', e, h2, _⟩ := h.ints (k := 0) rfl (tab_length _ _) (fun x hx => by
        obtain ⟨u, hu, rfl⟩ := List.mem_map.1 hx
        have := nxF_in HV.out (e := (u : Int)) (by omega) (by have := List.mem_range.1 hu; omega)
        omega)
      cases e
      exact ⟨Hwq.out, _, _, rfl, h2⟩

end Go.Proofs.YtdacnkjmimhcaaaDoor
