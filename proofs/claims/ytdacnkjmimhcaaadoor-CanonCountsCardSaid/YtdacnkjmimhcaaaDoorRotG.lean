/- Follow, and Next of the reference. -/
import Derived.Test.YtdacnkjmimhcaaaDoorRotF
set_option linter.unusedSimpArgs false
set_option linter.unusedVariables false
namespace Go.Proofs.YtdacnkjmimhcaaaDoor
open Go.RowKit
attribute [local go_sem ↓] Go.wp_at_zero Go.wp_at_succ

/-- What is written when the darts of S have been met: at place g e the dart behind e. -/
def folL (A : List (List Int)) (M : Nat) (S : List Int) : List Int := tab M fun e : Nat => if (e : Int) ∈ S then sucF A e else 0
theorem folL_length (A : List (List Int)) (M : Nat) (S : List Int) : (folL A M S).length = M := tab_length _ _
theorem folL_set {A : List (List Int)} {M d : Nat} {S : List Int} (hd : d < M) : (folL A M S).set d (sucF A d) = folL A M (S ++ [(d : Int)]) := by
  unfold folL
  rw [tab_set M _ hd]
  refine tab_congr fun u hu => ?_
  by_cases e : u = d
  · subst e; rw [if_pos rfl, if_pos (List.mem_append_right _ (List.mem_singleton.2 rfl))]
  · rw [if_neg e]
    have : ((u : Int) ∈ S ++ [(d : Int)]) ↔ (u : Int) ∈ S := by
      rw [List.mem_append, List.mem_singleton]
      exact ⟨fun h => h.resolve_right (by omega), Or.inl⟩
    simp only [this]
/-- The list of the darts that come next around a vertex. -/
def folA (A : List (List Int)) (M : Nat) : List Int := tab M fun e : Nat => sucF A e
theorem folL_all {N : Int} {E : List (Int × Int)} {A : List (List Int)} (hV : vRot N E A) : folL A (2 * E.length) ((pre A A.length).map (·.2)) = folA A (2 * E.length) := by
  unfold folL folA
  refine tab_congr fun u hu => if_pos ?_
  obtain ⟨v, k, h1, h2, h3, _⟩ := dart_pos hV (e := (u : Int)) (by omega) (by omega)
  exact List.mem_map.2 ⟨(v, (u : Int)), mem_pre.2 ⟨k, h1, h2, h3⟩, rfl⟩
theorem sucF_in {N : Int} {E : List (Int × Int)} {A : List (List Int)} (hV : vRot N E A) {e : Int} (h0 : 0 ≤ e) (h1 : e < 2 * E.length) : 0 ≤ sucF A e ∧ sucF A e < 2 * E.length := by
  obtain ⟨v, k, hv, hk, he, _⟩ := dart_pos hV h0 h1
  rw [← he, suc_of hV hv hk]
  have hm : (k + 1) % (rowOf A v).length < (rowOf A v).length := Nat.mod_lt _ (by omega)
  have := hV.dr (v, ge (rowOf A v) ((k + 1) % (rowOf A v).length)) (mem_pre.2 ⟨_, hv, hm, rfl⟩)
  exact ⟨this.1, this.2.1⟩

set_option maxRecDepth 8000 in
set_option maxHeartbeats 8000000 in
theorem follow_r (N : Int) (pE pA : Option Addr) (nE nA cE cA : Nat) (E : List (Int × Int)) (A : List (List Int)) (w : World) (hR : RotAt w pE pA E A) (hV : vRot N E A) (hnE : E.length = nE) (hnA : A.length = nA) :
    Calls Tryd.prog 47 #[.agg #[.int .i64 N, .slice pE nE cE, .slice pA nA cA]] w fun e w' => Grew w w' ∧ ∃ q cap, e = .returned (.slice q (2 * E.length) cap) ∧ Ints w' q (folA A (2 * E.length)) ∧ Owns w' w.heap.size [⟨.slice q (2 * E.length) cap, 3, 1, 2 * E.length, intVs (folA A (2 * E.length))⟩] := by
  subst hnE hnA
  have he1 := hR.e1
  have ha1 := hR.a1
  have hN : N = A.length := hV.al.symm
  subst hN
  have HR := Lib.hid hR
  have HL := Lib.hid hR.r1
  have HV := Lib.hid hV
  clear hR hV
  go_enter Tryd.func47, Tryd.ntmps47
  go_wp2_with (refine wp_make_owns rfl _ _ 26 rfl 3 8 (.int .i64 0) Tryd.underlying26 Tryd.infoInt rfl .i64 .i64 _ _ (2 * E.length) rfl rfl (by push_cast; rfl) (by push_cast; rfl) (by omega) (by simp only [maxLen]; omega) (w.heap.size + 1) [] (Owns.nil _ _) (by simp) ?_; intro w4 hO hg4 hs4; have HO4 := Lib.hid hO; have Hg4 := Lib.hid hg4; have hsz4 := hg4.below.size; clear hO hg4)
  simp at hs4 hsz4
  have HwB : Hid (Grew w (w.alloc (.cells #[.int .i64 A.length, .slice pE E.length cE, .slice pA A.length cA] 25))) := Lib.hid ((Grew.refl w).alloc _)
  have Hc0 : Hid ((w.alloc (.cells #[.int .i64 A.length, .slice pE E.length cE, .slice pA A.length cA] 25)).cell? ⟨w.heap.size, 0, none⟩ = some (.int .i64 A.length)) := Lib.hid (by simp [go_sem])
  have Hc2 : Hid ((w.alloc (.cells #[.int .i64 A.length, .slice pE E.length cE, .slice pA A.length cA] 25)).cell? ⟨w.heap.size, 2, none⟩ = some (.slice pA A.length cA)) := Lib.hid (by simp [go_sem])
  have hsB : (w.alloc (.cells #[.int .i64 A.length, .slice pE E.length cE, .slice pA A.length cA] 25)).heap.size = w.heap.size + 1 := by simp
  obtain ⟨wB, hwB⟩ : ∃ wB, w.alloc (.cells #[.int .i64 A.length, .slice pE E.length cE, .slice pA A.length cA] 25) = wB := ⟨_, rfl⟩
  rw [hwB] at Hg4 HwB Hc0 Hc2 hsB HO4
  clear hwB
  have HO5 : Hid (Owns w4 (w.heap.size + 1) [⟨.slice (some ⟨w.heap.size + 1, 0, none⟩) (2 * E.length) (2 * E.length), 3, 1, 2 * E.length, intVs (folL A (2 * E.length) [])⟩]) := Lib.hid (by
    have := HO4.out
    rw [hsB] at this
    have e : folL A (2 * E.length) [] = tab (2 * E.length) (fun _ => 0) := tab_congr fun u hu => if_neg (by simp)
    rw [e, ← intVs_rep]
    exact this)
  clear HO4
  go_loopw [4] (fun i wq => ∃ v : Nat, v ≤ A.length ∧ i = .int .i64 v ∧ Grew wB wq ∧ w4.heap.size ≤ wq.heap.size ∧ Owns wq (w.heap.size + 1) [⟨.slice (some ⟨w.heap.size + 1, 0, none⟩) (2 * E.length) (2 * E.length), 3, 1, 2 * E.length, intVs (folL A (2 * E.length) ((pre A v).map (·.2)))⟩]) (fun i _ => A.length - (intOf i).toNat)
  case atStart => exact ⟨0, Nat.zero_le _, rfl, Hg4.out, Nat.le_refl _, HO5.out⟩
  case round =>
    obtain ⟨v, hv, rfl, hgq, hsq, hOq⟩ := hrel
    have Hgq := Lib.hid hgq
    have HOq := Lib.hid hOq
    have q0 := hgq.cellEq Hc0.out
    have q2 := hgq.cellEq Hc2.out
    have Hwq : Hid (Grew w wr) := Lib.hid (HwB.out.trans hgq)
    clear hgq hOq
    by_cases hlv : v < A.length
    · obtain ⟨bA, oA, rp, rc, rfl, lA, cA'⟩ := HR.out.hA.rows (by omega)
      obtain ⟨a1, _⟩ := cA' wr Hwq.out v hlv
      obtain ⟨_, a2⟩ := cA' w (Grew.refl _) v hlv
      obtain ⟨rv, hrv⟩ : ∃ rv, rp v = rv := ⟨_, rfl⟩
      rw [hrv] at a1 a2
      have Ha2 := Lib.hid a2
      have hrl := HL.out v hlv
      clear cA' a2 hrv
      go_wp2
      clear q0 q2
      go_loopw [6] (fun i wk => ∃ k : Nat, k ≤ (rowOf A v).length ∧ i = .int .i64 k ∧ Grew wB wk ∧ wr.heap.size ≤ wk.heap.size ∧ Owns wk (w.heap.size + 1) [⟨.slice (some ⟨w.heap.size + 1, 0, none⟩) (2 * E.length) (2 * E.length), 3, 1, 2 * E.length, intVs (folL A (2 * E.length) ((preK A v k).map (·.2)))⟩]) (fun i _ => (rowOf A v).length - (intOf i).toNat)
      case atStart => exact ⟨0, Nat.zero_le _, rfl, Hgq.out, Nat.le_refl _, by rw [preK_zero]; exact HOq.out⟩
      case round =>
        obtain ⟨k, hk, rfl, hgk, hgr, hOk⟩ := hrel
        have Hgk := Lib.hid hgk
        have HOk := Lib.hid hOk
        have Hwk : Hid (Grew w wr) := Lib.hid (HwB.out.trans hgk)
        clear hgk hOk
        by_cases hlk : k < (rowOf A v).length
        · obtain ⟨bR, oR, rfl, lR, cR⟩ := Ha2.out.cells (by omega)
          obtain ⟨j2, hj2⟩ : ∃ j2, (k + 1) % (rowOf A v).length = j2 := ⟨_, rfl⟩
          have hj2l : j2 < (rowOf A v).length := by rw [← hj2]; exact Nat.mod_lt _ (by omega)
          have e1 := cR wr Hwk.out k hlk
          have e2 := cR wr Hwk.out j2 hj2l
          have hem : ((k : Int) + 1) % ((rowOf A v).length : Int) = (j2 : Int) := by rw [← hj2]; push_cast; rfl
          have het : ((k : Int) + 1).tmod ((rowOf A v).length : Int) = (j2 : Int) := by rw [Int.tmod_eq_emod_of_nonneg (by omega)]; exact hem
          have hln0 : ¬ rowOf A v = [] := fun e => by rw [e] at hlk; simp at hlk
          have hwk1 : IntKind.i64.wrap ((k : Int) + 1) = (k : Int) + 1 := IntWalk.i64_in _ ⟨by omega, by omega⟩
          have hok := HV.out.dr (v, ge (rowOf A v) k) (mem_pre.2 ⟨k, hlv, hlk, rfl⟩)
          obtain ⟨m, hm0⟩ : ∃ m : Nat, ge (rowOf A v) k = (m : Int) := ⟨(ge (rowOf A v) k).toNat, by have := hok.1; dsimp only at this; omega⟩
          have hm : m < 2 * E.length := by have := hok.2.1; dsimp only at this; omega
          have hmi : (m : Int) < 2 * (E.length : Int) := by omega
          have hsuc := suc_of HV.out hlv hlk
          rw [hm0, hj2] at hsuc
          rw [hm0] at e1
          rw [← hsuc] at e2
          obtain ⟨gM, cM, eM, _, kM, _, _, nM, mM⟩ := HOk.out.some (k := 0) rfl (by omega)
          cases eM
          have x1 := mM m _ (intVs_get _ (by rw [folL_length]; exact hm))
          have x2 := nM m
          have Hn := Lib.hid (preK_succ A v hlk)
          have Hm0 := Lib.hid hm0
          clear cR hok hm0 hsuc nM mM hj2
          go_upto_region 9 with fail
          refine wp_region_T (s := 14) (S := fun w' => w'.cell? ⟨bR, oR + k, none⟩ = some (.int .i64 m) ∧ w'.cell? ⟨bR, oR + j2, none⟩ = some (.int .i64 (sucF A m))) (by kernel_rfl) ⟨e1, e2⟩ (fun hH => ?_)
          refine wpAnyT_takeL (i := 0) (v := ?_) rfl (by kernel_rfl) (by kernel_rfl) (by kernel_rfl) (by kernel_rfl) (fun _ _ _ h => h) (Or.inl ⟨by rfl, ?_⟩) (by assumption) ?_
          rotate_left
          · (intro w hSw; (try dsimp only at hSw); go_simp; (try with_reducible rfl))
          (try simp only [Act.put, List.setIfInBounds_toArray, List.set_cons_zero, List.set_cons_succ])
          refine wpAnyT_takeL (i := 1) (v := ?_) rfl (by kernel_rfl) (by kernel_rfl) (by kernel_rfl) (by kernel_rfl) (fun _ _ _ h => h) (Or.inl ⟨by rfl, ?_⟩) (by assumption) ?_
          rotate_left
          · (intro w hSw; (try dsimp only at hSw); go_simp; (try with_reducible rfl))
          (try simp only [Act.put, List.setIfInBounds_toArray, List.set_cons_zero, List.set_cons_succ])
          refine wpAnyT_takeL (i := 2) (v := ?_) rfl (by kernel_rfl) (by kernel_rfl) (by kernel_rfl) (by kernel_rfl) (fun _ _ _ h => h) (Or.inl ⟨by rfl, ?_⟩) (by assumption) ?_
          rotate_left
          · (intro w hSw; (try dsimp only at hSw); go_simp; (try with_reducible rfl))
          (try simp only [Act.put, List.setIfInBounds_toArray, List.set_cons_zero, List.set_cons_succ])
          refine wpAnyT_takeL (i := 3) (v := ?_) rfl (by kernel_rfl) (by kernel_rfl) (by kernel_rfl) (by kernel_rfl) (fun _ _ _ h => h) (Or.inl ⟨by rfl, ?_⟩) (by assumption) ?_
          rotate_left
          · (intro w hSw; (try dsimp only at hSw); go_simp; (try with_reducible rfl))
          (try simp only [Act.put, List.setIfInBounds_toArray, List.set_cons_zero, List.set_cons_succ])
          refine wpAnyT_takeL (i := 4) (v := ?_) rfl (by kernel_rfl) (by kernel_rfl) (by kernel_rfl) (by kernel_rfl) (fun _ _ _ h => h) (Or.inl ⟨by rfl, ?_⟩) (by assumption) ?_
          rotate_left
          · (intro w hSw; (try dsimp only at hSw); go_simp; (try with_reducible rfl))
          (try simp only [Act.put, List.setIfInBounds_toArray, List.set_cons_zero, List.set_cons_succ])
          refine wpAnyT_takeL (i := 5) (v := ?_) rfl (by kernel_rfl) (by kernel_rfl) (by kernel_rfl) (by kernel_rfl) (fun _ _ _ h => h) (Or.inl ⟨by rfl, ?_⟩) (by assumption) ?_
          rotate_left
          · (intro w hSw; (try dsimp only at hSw); go_simp; (try with_reducible rfl))
          (try simp only [Act.put, List.setIfInBounds_toArray, List.set_cons_zero, List.set_cons_succ])
          refine wpAnyT_takeL (i := 6) (v := ?_) rfl (by kernel_rfl) (by kernel_rfl) (by kernel_rfl) (by kernel_rfl) (fun _ _ _ h => h) (Or.inl ⟨by rfl, ?_⟩) (by assumption) ?_
          rotate_left
          · (intro w hSw; (try dsimp only at hSw); go_simp; (try with_reducible rfl))
          (try simp only [Act.put, List.setIfInBounds_toArray, List.set_cons_zero, List.set_cons_succ])
          refine wpAnyT_takeL (i := 7) (v := ?_) rfl (by kernel_rfl) (by kernel_rfl) (by kernel_rfl) (by kernel_rfl) (fun _ _ _ h => h) (Or.inl ⟨by rfl, ?_⟩) (by assumption) ?_
          rotate_left
          · (intro w hSw; (try dsimp only at hSw); go_simp; (try with_reducible rfl))
          (try simp only [Act.put, List.setIfInBounds_toArray, List.set_cons_zero, List.set_cons_succ])
          refine wpAnyT_takeL (i := 8) (v := ?_) rfl (by kernel_rfl) (by kernel_rfl) (by kernel_rfl) (by kernel_rfl) (fun _ _ _ h => h) (Or.inl ⟨by rfl, ?_⟩) (by assumption) ?_
          rotate_left
          · (intro w hSw; (try dsimp only at hSw); go_simp; (try with_reducible rfl))
          (try simp only [Act.put, List.setIfInBounds_toArray, List.set_cons_zero, List.set_cons_succ])
          refine wpAnyT_takeL (i := 9) (v := ?_) rfl (by kernel_rfl) (by kernel_rfl) (by kernel_rfl) (by kernel_rfl) (fun _ _ _ h => h) (Or.inl ⟨by rfl, ?_⟩) (by assumption) ?_
          rotate_left
          · (intro w hSw; (try dsimp only at hSw); go_simp; (try with_reducible rfl))
          (try simp only [Act.put, List.setIfInBounds_toArray, List.set_cons_zero, List.set_cons_succ])
          refine wpAnyT_takeL (i := 10) (v := ?_) rfl (by kernel_rfl) (by kernel_rfl) (by kernel_rfl) (by kernel_rfl) (fun _ _ _ h => h) (Or.inl ⟨by rfl, ?_⟩) (by assumption) ?_
          rotate_left
          · (intro w hSw; (try dsimp only at hSw); go_simp; (try with_reducible rfl))
          (try simp only [Act.put, List.setIfInBounds_toArray, List.set_cons_zero, List.set_cons_succ])
          refine wpAnyT_takeL (i := 11) (v := ?_) rfl (by kernel_rfl) (by kernel_rfl) (by kernel_rfl) (by kernel_rfl) (fun _ _ _ h => h) (Or.inl ⟨by rfl, ?_⟩) (by assumption) ?_
          rotate_left
          · (intro w hSw; (try dsimp only at hSw); go_simp; (try with_reducible rfl))
          (try simp only [Act.put, List.setIfInBounds_toArray, List.set_cons_zero, List.set_cons_succ])
          refine wpAnyT_takeL (i := 12) (v := ?_) rfl (by kernel_rfl) (by kernel_rfl) (by kernel_rfl) (by kernel_rfl) (fun _ _ _ h => h) (Or.inl ⟨by rfl, ?_⟩) (by assumption) ?_
          rotate_left
          · (intro w hSw; (try dsimp only at hSw); go_simp; (try with_reducible rfl))
          (try simp only [Act.put, List.setIfInBounds_toArray, List.set_cons_zero, List.set_cons_succ])
          refine wpAnyT_takeL (i := 13) (v := ?_) rfl (by kernel_rfl) (by kernel_rfl) (by kernel_rfl) (by kernel_rfl) (fun _ _ _ h => h) (Or.inl ⟨by rfl, ?_⟩) (by assumption) ?_
          rotate_left
          · (intro w hSw; (try dsimp only at hSw); go_simp; (try with_reducible rfl))
          (try simp only [Act.put, List.setIfInBounds_toArray, List.set_cons_zero, List.set_cons_succ])
          refine wpAnyT_all (rs := [14]) (by kernel_rfl) (by simp) (AllT.lastL rfl (fun K hK => ?_))
          go_simp
          refine hK.out _ _ ?_
          clear hK K
          (try simp only [Act.put, List.setIfInBounds_toArray, List.set_cons_zero, List.set_cons_succ])
          refine wpAnyT_done (by kernel_rfl) ?_ _
          go_wp2
          go_roundw
          case rel =>
            have hmap : (preK A v (k + 1)).map (·.2) = (preK A v k).map (·.2) ++ [(m : Int)] := by rw [Hn.out, List.map_append, Hm0.out]; rfl
            have h1 := (HOk.out.grew (Grew.drew (Grew.refl wr))).set (k := 0) rfl m (.int .i64 (sucF A m))
            rw [intVs_set, folL_set hm] at h1
            refine ⟨k + 1, by omega, by go_num, (Hgk.out.trans (Grew.drew (Grew.refl wr))).setCell (show wB.heap.size ≤ w.heap.size + 1 by omega) _, by simp; omega, ?_⟩
            rw [hmap]
            exact h1
          case measure => simp [intOf]; omega
        · have hke : k = (rowOf A v).length := by omega
          have Hp : Hid (preK A v k = pre A (v + 1)) := Lib.hid (by rw [hke, preK_all])
          go_wp2
          go_roundw
          case rel => exact ⟨v + 1, by omega, by go_num, Hgk.out, by omega, by rw [← Hp.out]; exact HOk.out⟩
          case measure => simp [intOf]; omega
    · have hve : v = A.length := by omega
      subst hve
      go_wp2
      go_ret
      have h := HOq.out
      rw [folL_all HV.out] at h
      obtain ⟨p', cap', e, h2, _⟩ := h.ints (k := 0) rfl (tab_length _ _) (fun x hx => by
        obtain ⟨u, hu, rfl⟩ := List.mem_map.1 hx
        have := sucF_in HV.out (e := (u : Int)) (by omega) (by have := List.mem_range.1 hu; omega)
        omega)
      cases e
      exact ⟨Hwq.out, _, _, rfl, h2, h.base (by omega)⟩

end Go.Proofs.YtdacnkjmimhcaaaDoor
