/- near and third of the program. -/
import Derived.Test.YtdacnkjmimhcaaaDoorTriE
set_option linter.unusedSimpArgs false
set_option linter.unusedVariables false
namespace Go.Proofs.YtdacnkjmimhcaaaDoor
open Go.RowKit
attribute [local go_sem ↓] Go.wp_at_zero Go.wp_at_succ

/-- The heads of the darts of a list. -/
def nearL (E : List (Int × Int)) (r : List Int) : List Int := r.map fun d => tailE E (oth d)
theorem nearL_length (E : List (Int × Int)) (r : List Int) : (nearL E r).length = r.length := by simp [nearL]
theorem nearL_take (E : List (Int × Int)) {r : List Int} {k : Nat} (h : k < r.length) : nearL E (r.take (k + 1)) = nearL E (r.take k) ++ [tailE E (oth (ge r k))] := by
  unfold nearL
  rw [List.take_succ_eq_append_getElem h, ge_eq _ h, List.map_append]
  rfl
/-- What a function answers that returns a new list of numbers. -/
def NewInts (xs : List Int) (w : World) (e : Ending) (w' : World) : Prop := Grew w w' ∧ ∃ q cap, e = .returned (.slice q xs.length cap) ∧ Ints w' q xs ∧ xs.length ≤ cap ∧ cap ≤ maxLen ∧ ∀ a, q = some a → w.heap.size ≤ a.block

theorem own_ints {w : World} {B : Nat} {rs : List Row} {k n : Nat} {v : Value} {xs : List Int} (h : Owns w B rs) (hk : rs[k]? = some ⟨v, 3, 1, n, intVs xs⟩) (hb : ∀ x ∈ xs, -9223372036854775808 ≤ x ∧ x ≤ 9223372036854775807) :
    ∃ p cap, v = .slice p n cap ∧ xs.length = n ∧ n ≤ cap ∧ cap ≤ maxLen ∧ (∀ a, p = some a → B ≤ a.block ∧ a.block < w.heap.size) ∧ ∀ w' : World, Grew w w' → Ints w' p xs := by
  obtain ⟨p, cap, h1, h2, h3, h4, h5, h6⟩ := h.form hk
  rw [intVs_length] at h2
  refine ⟨p, cap, h1, h2, h3, h4, fun a ha => (h.1 k _ hk).lt a.block (by rw [h1, ha]; rfl), fun w' hg => ⟨by simp only [maxLen] at h4; omega, hb, ?_⟩⟩
  cases p with
  | none => have := h5 rfl; exact ⟨0, 0, fun h0 => by omega, fun i hi => by omega⟩
  | some a =>
    by_cases h0 : 0 < xs.length
    · obtain ⟨g, cap', e1, _, e2, _, _, _, e3⟩ := h.some hk (by omega)
      rw [h1] at e1
      cases e1
      refine ⟨g, 0, fun _ => ⟨rfl, Nat.lt_of_lt_of_le e2 hg.below.size⟩, fun i hi => hg.cellEq ?_⟩
      rw [Nat.zero_add]
      exact e3 i _ (intVs_get xs hi)
    · exact ⟨0, 0, fun h => absurd h h0, fun i hi => by omega⟩
theorem nearL_bound {N : Int} {E : List (Int × Int)} {A : List (List Int)} (hV : vRot N E A) {v : Nat} (hv : v < A.length) : ∀ x ∈ nearL E (rowOf A v), 0 ≤ x ∧ x < N := by
  intro x hx
  obtain ⟨d, hd, rfl⟩ := List.mem_map.1 hx
  obtain ⟨i, hi, rfl⟩ := List.getElem_of_mem hd
  have h := dart_of hV hv hi
  rw [ge_eq _ hi] at h
  obtain ⟨h1, h2⟩ := oth_in h.1 h.2.1
  exact tail_in hV h1 h2

set_option maxHeartbeats 4000000 in
theorem near_p (N : Int) (pE pA : Option Addr) (nE nA cE cA : Nat) (E : List (Int × Int)) (A : List (List Int)) (v : Nat) (w : World) (hR : RotAt w pE pA E A) (hL : Lim w) (hV : vRot N E A) (hv : v < A.length) (hnE : E.length = nE) (hnA : A.length = nA) :
    Calls Tryd.prog 53 #[.agg #[.int .i64 N, .slice pE nE cE, .slice pA nA cA], .int .i64 v] w (NewInts (nearL E (rowOf A v)) w) := by
  subst hnE hnA
  have he1 := hR.e1
  have hrl := hR.r1 v hv
  have HR := Lib.hid hR
  have HL := Lib.hid hL
  have HV := Lib.hid hV
  have hvi : (v : Int) < (A.length : Int) := by omega
  obtain ⟨bA, oA, rp, rc, rfl, lA, cA'⟩ := hR.hA.rows (by omega)
  obtain ⟨a1, a2⟩ := cA' w (Grew.refl _) v hv
  obtain ⟨rv, hrv⟩ : ∃ rv, rp v = rv := ⟨_, rfl⟩
  rw [hrv] at a1 a2
  have Ha2 := Lib.hid a2
  clear cA' a2 hrv hR hL hV
  go_enter Tryd.func53, Tryd.ntmps53
  go_wp2
  obtain ⟨wB, hwB⟩ : ∃ wB, w.alloc (.cells #[.int .i64 N, .slice pE E.length cE, .slice (some ⟨bA, oA, none⟩) A.length cA] 25) = wB := ⟨_, rfl⟩
  have HwB : Hid (Grew w wB) := Lib.hid (by rw [← hwB]; exact (Grew.refl w).alloc _)
  have Hc0 : Hid (wB.cell? ⟨w.heap.size, 0, none⟩ = some (.int .i64 N)) := Lib.hid (by rw [← hwB]; simp [go_sem])
  have Hc1 : Hid (wB.cell? ⟨w.heap.size, 1, none⟩ = some (.slice pE E.length cE)) := Lib.hid (by rw [← hwB]; simp [go_sem])
  have Hc2 : Hid (wB.cell? ⟨w.heap.size, 2, none⟩ = some (.slice (some ⟨bA, oA, none⟩) A.length cA)) := Lib.hid (by rw [← hwB]; simp [go_sem])
  have hsB : wB.heap.size = w.heap.size + 1 := by rw [← hwB]; simp
  rw [hwB]
  clear hwB
  go_loopw [5, 14] (fun vl iv wr => ∃ k : Nat, k ≤ (rowOf A v).length ∧ iv = .int .i64 k ∧ Grew wB wr ∧ Owns wr (w.heap.size + 1) [⟨vl, 3, 1, k, intVs (nearL E ((rowOf A v).take k))⟩]) (fun _ iv _ => (rowOf A v).length - (intOf iv).toNat)
  case atStart => exact ⟨0, Nat.zero_le _, rfl, Grew.refl _, (Owns.nil _ _).none _ _⟩
  case round =>
    obtain ⟨k, hk, rfl, hgB, hO⟩ := hrel
    have hszr := hgB.below.size
    rw [hsB] at hszr
    have Hgw : Hid (Grew w wr) := Lib.hid (HwB.out.trans hgB)
    have q0 := hgB.cellEq Hc0.out
    have q1 := hgB.cellEq Hc1.out
    have q2 := hgB.cellEq Hc2.out
    have HgB := Lib.hid hgB
    have HO := Lib.hid hO
    by_cases hlk : k < (rowOf A v).length
    · obtain ⟨bR, oR, rfl, lR, cR⟩ := Ha2.out.cells (by omega)
      have e1 := cR wr Hgw.out k hlk
      have hok := dart_of HV.out hv hlk
      obtain ⟨m, hm0⟩ : ∃ m : Nat, ge (rowOf A v) k = (m : Int) := ⟨(ge (rowOf A v) k).toNat, by have := hok.1; omega⟩
      have hm : m < 2 * E.length := by have := hok.2.1; omega
      rw [hm0] at e1
      obtain ⟨ho1, ho2⟩ := oth_in (d := (m : Int)) (M := E.length) (by omega) (by omega)
      obtain ⟨o, hoe⟩ : ∃ o : Nat, oth m = (o : Int) := ⟨(oth m).toNat, by omega⟩
      have hx2 : bits BinOp.xor IntKind.i64 (m : Int) 1 = (o : Int) := by rw [← hoe]; exact xor_small m (by omega)
      have hti := tail_in HV.out (d := (o : Int)) (by omega) (by omega)
      obtain ⟨y, hy⟩ : ∃ y, tailE E o = y := ⟨_, rfl⟩
      have Hyt : Hid (∀ W1, Grew w W1 → Calls Tryd.prog 25 #[.agg #[.int .i64 N, .slice pE E.length cE, .slice (some ⟨bA, oA, none⟩) A.length cA], .int .i64 o] W1 fun e w' => e = .returned (.int .i64 y) ∧ Grew W1 w') := Lib.hid (fun W1 h1 => by
        have h := tailp_l N pE (some ⟨bA, oA, none⟩) E.length A.length cE cA E A o W1 (HR.out.grew h1) (HL.out.grew h1) rfl rfl
        unfold tailF at h
        rw [if_pos ⟨vRotB_iff.2 HV.out, by omega, by omega⟩, hy] at h
        exact h)
      have Hnx : Hid (intVs (nearL E ((rowOf A v).take (k + 1))) = intVs (nearL E ((rowOf A v).take k)) ++ [.int .i64 y]) := Lib.hid (by rw [nearL_take E hlk, hm0, hoe, hy, intVs_app']; rfl)
      clear cR hok hm0 ho1 ho2 hoe hy hO hgB hti
      go_wp2_with (first
        | (go_at_call 25; apply Calls.mono; (with_reducible exact Hyt.out _ (Hgw.out.trans (by (repeat (first | exact Grew.refl _ | refine Grew.over ?_ _ | refine Grew.alloc ?_ _ | refine Grew.drew ?_ | refine Grew.drewN ?_ _))))); rintro e w' ⟨rfl, x, rfl⟩)
        | (at_builtin; refine wp_append_owns rfl _ _ 26 rfl 3 1 8 (.int .i64 0) Tryd.underlying26 Tryd.infoInt rfl (by decide) (w.heap.size + 1) _ 0 _ _ _ (HO.out.grew (by (repeat (first | exact Grew.refl _ | refine Grew.over ?_ _ | refine Grew.alloc ?_ _ | refine Grew.drew ?_ | refine Grew.drewN ?_ _)))) rfl rfl _ 1 1 rfl [.int .i64 (y)] rfl (fun h => by cases h) (one_news _ (by first | (go_simp; done) | (simp [go_sem, ↓IntWalk.iteOmega, *]; done))) (by simp [Value.oneCell']) (by simp only [maxLen]; omega) (by omega) (by first | rfl | omega | (simp <;> omega)) ?_; intro v1 w1 hO1 hg1 hb1 hv1; have Hg1 := Lib.hid (Grew.grownBy (w0 := wB) (HgB.out.trans (by (repeat (first | exact Grew.refl _ | refine Grew.over ?_ _ | refine Grew.alloc ?_ _ | refine Grew.drew ?_ | refine Grew.drewN ?_ _)))) hg1 (fun g h => by have := hb1 g h; omega)); have HO1 := Lib.hid hO1; clear hO1 hg1 hb1 hv1))
      go_roundw
      case rel => exact ⟨k + 1, by omega, by go_num, Hg1.out.trans (by (repeat (first | exact Grew.refl _ | refine Grew.over ?_ _ | refine Grew.alloc ?_ _ | refine Grew.drew ?_ | refine Grew.drewN ?_ _))), (by rw [Hnx.out]; exact HO1.out.grew (by (repeat (first | exact Grew.refl _ | refine Grew.over ?_ _ | refine Grew.alloc ?_ _ | refine Grew.drew ?_ | refine Grew.drewN ?_ _))))⟩
      case measure => simp [intOf]; omega
    · have hke : k = (rowOf A v).length := by omega
      have hN9 := HV.out.n1
      have hbd := fun x hx => (by have := nearL_bound HV.out hv x hx; omega : -9223372036854775808 ≤ x ∧ x ≤ 9223372036854775807)
      subst hke
      rw [List.take_length] at hO
      obtain ⟨p1, c1, rfl, k1, k2, k3, k4, hI⟩ := own_ints hO (k := 0) rfl hbd
      have H4 := Lib.hid k4
      have HI := Lib.hid hI
      clear hO HO hgB hI hbd hN9 k4
      go_wp2
      go_ret
      exact ⟨Hgw.out.trans (by (repeat (first | exact Grew.refl _ | refine Grew.over ?_ _ | refine Grew.alloc ?_ _ | refine Grew.drew ?_ | refine Grew.drewN ?_ _))), p1, c1, (by rw [nearL_length]; rfl), HI.out _ (by (repeat (first | exact Grew.refl _ | refine Grew.over ?_ _ | refine Grew.alloc ?_ _ | refine Grew.drew ?_ | refine Grew.drewN ?_ _))), by omega, k3, fun a ha => by have := (H4.out a ha).1; omega⟩

/-- The third corner of the face of dart 0. -/
noncomputable def thirdF (N : Int) (E : List (Int × Int)) (A : List (List Int)) : Int := tailF N E A (nextF N E A (nextF N E A 0))
set_option maxHeartbeats 2000000 in
theorem third_p (N : Int) (pE pA : Option Addr) (nE nA cE cA : Nat) (E : List (Int × Int)) (A : List (List Int)) (w : World) (hR : RotAt w pE pA E A) (hL : Lim w) (hnE : E.length = nE) (hnA : A.length = nA) :
    Calls Tryd.prog 26 #[.agg #[.int .i64 N, .slice pE nE cE, .slice pA nA cA]] w fun e w' => e = .returned (.int .i64 (thirdF N E A)) ∧ Grew w w' := by
  subst hnE hnA
  have HR := Lib.hid hR
  have HL := Lib.hid hL
  clear hR hL
  obtain ⟨a, ha⟩ : ∃ a, nextF N E A 0 = a := ⟨_, rfl⟩
  obtain ⟨b, hb⟩ : ∃ b, nextF N E A a = b := ⟨_, rfl⟩
  obtain ⟨c, hc⟩ : ∃ c, tailF N E A b = c := ⟨_, rfl⟩
  have Hf : Hid (thirdF N E A = c) := Lib.hid (by unfold thirdF; rw [ha, hb, hc])
  have H1 : Hid (∀ W1, Grew w W1 → Calls Tryd.prog 40 #[.agg #[.int .i64 N, .slice pE E.length cE, .slice pA A.length cA], .int .i64 0] W1 fun e w' => e = .returned (.int .i64 a) ∧ Grew W1 w') := Lib.hid (fun W1 h => by rw [← ha]; exact nextp_l _ _ _ _ _ _ _ _ _ _ _ (HR.out.grew h) (HL.out.grew h) rfl rfl)
  have H2 : Hid (∀ W1, Grew w W1 → Calls Tryd.prog 40 #[.agg #[.int .i64 N, .slice pE E.length cE, .slice pA A.length cA], .int .i64 a] W1 fun e w' => e = .returned (.int .i64 b) ∧ Grew W1 w') := Lib.hid (fun W1 h => by rw [← hb]; exact nextp_l _ _ _ _ _ _ _ _ _ _ _ (HR.out.grew h) (HL.out.grew h) rfl rfl)
  have H3 : Hid (∀ W1, Grew w W1 → Calls Tryd.prog 25 #[.agg #[.int .i64 N, .slice pE E.length cE, .slice pA A.length cA], .int .i64 b] W1 fun e w' => e = .returned (.int .i64 c) ∧ Grew W1 w') := Lib.hid (fun W1 h => by rw [← hc]; exact tailp_l _ _ _ _ _ _ _ _ _ _ _ (HR.out.grew h) (HL.out.grew h) rfl rfl)
  clear ha hb hc
  go_enter Tryd.func26, Tryd.ntmps26
  go_upto_region 1 with fail
  refine wp_region_over (by kernel_rfl) (by kernel_rfl) ?_; (repeat (go_big_quiet_step ((first | (go_at_call 25; apply over_call; with_reducible exact H3.out _ (by (repeat (first | exact Grew.refl _ | refine Grew.over ?_ _ | refine Grew.alloc ?_ _ | refine Grew.drew ?_ | refine Grew.drewN ?_ _)))) | (go_at_call 40; apply over_call; with_reducible exact H1.out _ (by (repeat (first | exact Grew.refl _ | refine Grew.over ?_ _ | refine Grew.alloc ?_ _ | refine Grew.drew ?_ | refine Grew.drewN ?_ _)))) | (go_at_call 40; apply over_call; with_reducible exact H2.out _ (by (repeat (first | exact Grew.refl _ | refine Grew.over ?_ _ | refine Grew.alloc ?_ _ | refine Grew.drew ?_ | refine Grew.drewN ?_ _)))))))); refine wpQuiet_nil ?_; rintro _ ⟨x, rfl⟩
  go_wp2
  go_ret
  exact ⟨by rw [Hf.out]; rfl, by (repeat (first | exact Grew.refl _ | refine Grew.over ?_ _ | refine Grew.alloc ?_ _ | refine Grew.drew ?_ | refine Grew.drewN ?_ _))⟩

end Go.Proofs.YtdacnkjmimhcaaaDoor
