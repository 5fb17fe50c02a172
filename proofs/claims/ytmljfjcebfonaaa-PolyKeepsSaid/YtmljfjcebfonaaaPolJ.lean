/- The iterator over the segments of a path. -/
import Derived.RangeFuncNested
import Derived.RangeFuncBound
import Derived.RangeFuncCalls
import Derived.RangeFuncLeaves
import Derived.Shelf.Abstract
import Derived.Shelf.RegionOpen
import Derived.WalkKit
import Derived.OwnWalkIn
import Derived.TacticsInMore
import Derived.LoopNIn
import Derived.LoopIn
import Derived.BigRegionIn
import Derived.Stop.RegionWithIn
import Derived.Test.YtmljfjcebfonaaaPolC
set_option linter.unusedSimpArgs false
set_option linter.unusedVariables false
namespace Go.Proofs.Ytmljfjcebfonaaa
open Go.RowKit Go.Shelf
attribute [local go_sem] Oper.semAt_some

abbrev Sg := (Int × Int) × (Int × Int)
abbrev sgV (x : Sg) : Array Value := #[.agg #[.int .i64 x.1.1, .int .i64 x.1.2, .int .i64 x.2.1, .int .i64 x.2.2]]
def sgK (E : List (Int × Int)) (k : Nat) : List Sg := (List.range k).map fun j => (pr E j, pr E (j + 1))
theorem sgK_succ (E : List (Int × Int)) (k : Nat) : sgK E (k + 1) = sgK E k ++ [(pr E k, pr E (k + 1))] := by simp [sgK, List.range_succ]
theorem sgK_length (E : List (Int × Int)) (k : Nat) : (sgK E k).length = k := by simp [sgK]

/-- What a round keeps: all below n₀, and the iterator's box. -/
def KpS (n₀ Bs : Nat) (A B : World) : Prop := Below n₀ A B ∧ ∀ v, A.cell? ⟨Bs, 0, none⟩ = some v → B.cell? ⟨Bs, 0, none⟩ = some v
theorem KpS.trans {n₀ Bs : Nat} {A B C : World} (h : KpS n₀ Bs A B) (k : KpS n₀ Bs B C) : KpS n₀ Bs A C := ⟨h.1.trans k.1, fun v hv => k.2 v (h.2 v hv)⟩
theorem KpS.drew {n₀ Bs : Nat} {A B : World} (h : KpS n₀ Bs A B) : KpS n₀ Bs A B.drew := ⟨h.1.drew, fun v hv => h.2 v hv⟩
theorem KpS.refl (n₀ Bs : Nat) (A : World) : KpS n₀ Bs A A := ⟨Below.refl _ _, fun _ h => h⟩

set_option maxHeartbeats 1000000 in
theorem segs_in (F : Fence) (n : Nat) (hf : F.fn 29) (hro : F.round = none) (a : Option Addr) (len cap : Nat) (w : World) :
    CallsIn F n Try.prog 29 #[.slice a len cap] w fun e w' => e = .returned (.func (.func 42) #[] #[.pointer (some ⟨w.heap.size, 0, none⟩)]) ∧ w' = w.alloc (.cells #[.slice a len cap] 22) := by
  refine callsIn_of_wp Try.func29 rfl hf ?_ hro
  simp only [Try.ntmps29, List.size_toArray, List.length_cons, List.length_nil, Nat.reduceAdd, Nat.reduceSub, Array.replicate_succ, Array.replicate_zero, List.push_toArray, List.append_toArray, List.nil_append, List.cons_append]
  gi_wp2
  go_ret
  exact ⟨rfl, rfl⟩

set_option maxRecDepth 100000 in
set_option maxHeartbeats 2000000 in
theorem segs1_in (n : Nat) (hn : 1 ≤ n) (l Bs n₀ b o cap : Nat) (E : List (Int × Int)) (hl : E.length ≤ 512) (hl1 : 1 ≤ E.length) (hb : b < n₀) (J Jx : List Sg → World → Prop)
    (hY : ∀ pre x W, J pre W → pre.length < E.length - 1 → YieldAt Fence.wide (n - 1) Try.prog l (sgV x) W fun e W' =>
      (e = .returned (.bool true) ∧ J (pre ++ [x]) W' ∧ KpS n₀ Bs W W') ∨ (e = .returned (.bool false) ∧ Jx (pre ++ [x]) W'))
    (hD : ∀ pre W, J pre W → J pre W.drew)
    (W : World) (hBs : W.cell? ⟨Bs, 0, none⟩ = some (.slice (some ⟨b, o, none⟩) E.length cap))
    (hc : ∀ i, i < E.length → W.cell? ⟨b, o + i * 2, none⟩ = some (.int .i64 (pr E i).1) ∧ W.cell? ⟨b, o + i * 2 + 1, none⟩ = some (.int .i64 (pr E i).2)) (h0 : J [] W) :
    CallsIn Fence.wide n Try.prog 42 #[.func (.yield l) #[] #[], .pointer (some ⟨Bs, 0, none⟩)] W fun e W' => (∃ v, e = .returned v) ∧
      ((∃ ys, ys = sgK E (E.length - 1) ∧ J ys W') ∨ (∃ pre, (∃ k, k ≤ E.length - 1 ∧ pre = sgK E k) ∧ Jx pre W')) := by
  refine callsIn_of_wp Try.func42 rfl trivial ?_ rfl
  simp only [Try.ntmps42, List.size_toArray, List.length_cons, List.length_nil, Nat.reduceAdd, Nat.reduceSub, Array.replicate_succ, Array.replicate_zero, List.push_toArray, List.append_toArray, List.nil_append, List.cons_append]
  have Hc := Lib.hid hc
  clear hc
  gi_wp2
  gi_loopw [3] (fun i wr => ∃ k : Nat, k + 1 ≤ E.length ∧ i = .int .i64 ((k : Int) + 1) ∧ J (sgK E k) wr ∧ KpS n₀ Bs W wr)
    (fun i _ => E.length - (intOf i).toNat)
  case atStart => exact ⟨0, by omega, rfl, h0, KpS.refl _ _ _⟩
  case round =>
    obtain ⟨k, hk, rfl, hJs, hkp⟩ := hrel
    have hnx := hkp.1
    have q0 := hkp.2 _ hBs
    have Hkp := Lib.hid hkp
    clear hkp
    by_cases hlt : (k + 1) < E.length
    · have c1 := (hnx.cell (p := ⟨b, o + k * 2, none⟩) hb).trans (Hc.out k (by omega)).1
      have c2 := (hnx.cell (p := ⟨b, o + k * 2 + 1, none⟩) hb).trans (Hc.out k (by omega)).2
      have d1 := (hnx.cell (p := ⟨b, o + (k + 1) * 2, none⟩) hb).trans (Hc.out (k + 1) hlt).1
      have d2 := (hnx.cell (p := ⟨b, o + (k + 1) * 2 + 1, none⟩) hb).trans (Hc.out (k + 1) hlt).2
      have hk0 : k < E.length := by omega
      have hsub : (k : Int) + 1 - 1 = (k : Int) := by omega
      have hwk : IntKind.i64.wrap (k : Int) = (k : Int) := IntWalk.i64_in _ ⟨by omega, by omega⟩
      have hlti : (k : Int) + 1 < (E.length : Int) := by omega
      have hk0i : (k : Int) < (E.length : Int) := by omega
      obtain ⟨fn, tmps, assign, body, hy, hR⟩ := hY _ (pr E k, pr E (k + 1)) wr.drew (hD _ _ hJs) (by rw [sgK_length]; omega)
      unfold sgV at hy
      dsimp only at hy
      gi_wp2
      have hR2 := hR.mono (R' := fun e W' => ∃ y, e = .returned (.bool y) ∧ (y = true → J (sgK E k ++ [(pr E k, pr E (k + 1))]) W' ∧ KpS n₀ Bs wr.drew W') ∧ (y = false → Jx (sgK E k ++ [(pr E k, pr E (k + 1))]) W')) (by
        rintro e W' (⟨rfl, h1, h2⟩ | ⟨rfl, h1⟩)
        · exact ⟨true, rfl, (fun _ => ⟨h1, h2⟩), (fun h => by cases h)⟩
        · exact ⟨false, rfl, (fun h => by cases h), (fun _ => h1)⟩)
      clear hR
      gi_region_with ((refine hR2.mono ?_; rintro e W3 ⟨y, rfl, h⟩; have H3 := Lib.hid h; clear h))
      all_goals
        cases y
        · have hJ3 := H3.out.2 rfl
          gi_wp2
          refine bodyPost_ret (results_none rfl _ _ _) rfl ?_
          exact ⟨⟨_, rfl⟩, .inr ⟨_, ⟨k + 1, by omega, (sgK_succ _ _).symm⟩, hJ3⟩⟩
        · obtain ⟨hJ3, hB3⟩ := H3.out.1 rfl
          gi_wp2
          go_roundw
          case rel => exact ⟨k + 1, by omega, by simp, by rw [sgK_succ]; exact hJ3, Hkp.out.drew.trans hB3⟩
          case measure => simp [intOf]; omega
    · have hlti : ¬ (k : Int) + 1 < (E.length : Int) := by omega
      have hke : k = E.length - 1 := by omega
      gi_wp2
      go_end0
      exact ⟨⟨_, rfl⟩, .inl (by rw [← hke]; exact hJs)⟩
theorem segs_stops (n : Nat) (hn : 1 ≤ n) (Bs n₀ cap : Nat) (p : Option Addr) (E : List (Int × Int)) (hV : vP E) (w w0 : World) (hP : Prs w0 p E) (hn0 : w0.heap.size ≤ n₀) (hg : Below n₀ w0 w) (hnw : n₀ ≤ w.heap.size) (hBs : Bs < w.heap.size)
    (hc : w.cell? ⟨Bs, 0, none⟩ = some (.slice p E.length cap)) :
    SeqStopsK Fence.wide n Try.prog 42 #[.pointer (some ⟨Bs, 0, none⟩)] sgV (KpS n₀ Bs) (fun ys => ys = sgK E (E.length - 1)) (fun pre => ∃ k, k ≤ E.length - 1 ∧ pre = sgK E k) (E.length - 1) w := fun l J Jx W hW hJ hJx hY h0 => by
  obtain ⟨_, b, o, h3, h4⟩ := hP
  obtain ⟨rfl, hb⟩ := h3 (by have := hV.l1; omega)
  have hWW : Below n₀ w0 W := hg.trans (hW.mono hnw)
  exact segs1_in n hn l Bs n₀ b o cap E hV.l2 hV.l1 (by omega) J Jx hY (fun pre W1 h => hJ pre W1 W1.drew none h ⟨rfl, rfl, rfl, Nat.le_refl _, fun _ _ _ => rfl⟩ (fun r e => by cases e)) W
    ((hW.cell (p := ⟨Bs, 0, none⟩) hBs).trans hc) (fun i hi => ⟨(hWW.cell (p := ⟨b, o + i * 2, none⟩) (by show b < n₀; omega)).trans (h4 i hi).1, (hWW.cell (p := ⟨b, o + i * 2 + 1, none⟩) (by show b < n₀; omega)).trans (h4 i hi).2⟩) h0
end Go.Proofs.Ytmljfjcebfonaaa
