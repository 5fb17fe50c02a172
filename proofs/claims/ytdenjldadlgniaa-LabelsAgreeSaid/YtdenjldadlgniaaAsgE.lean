/- bits.Mul with one factor 1; slices.Repeat of one number. -/
import Derived.Test.YtdenjldadlgniaaHunE
import Derived.Laws.CopyOwn
import Derived.Deep.RegionLaw
import Derived.Laws.Bits64b
set_option linter.unusedSimpArgs false
set_option linter.unusedVariables false
namespace Go.Proofs.Ytdenjldadlgniaa
open Go.RowKit

set_option maxHeartbeats 1000000 in
theorem mul64_1 (y : Nat) (hy : y ≤ 1000) (w : World) :
    Calls Try.prog 65 #[.int .u64 1, .int .u64 y] w fun e w' => e = .returned (.tuple #[.int .u64 0, .int .u64 y]) ∧ w = w' := by
  have h1 : bits .and .u64 (1 : Int) 4294967295 = 1 := by decide
  have h0 : bits .and .u64 (0 : Int) 4294967295 = 0 := by decide
  have hm : bits .and .u64 (y : Int) 4294967295 = (y : Int) := by
    have h := bits_and_u64_nat y 4294967295 (by omega) (by omega)
    rw [show y &&& 4294967295 = y % 4294967296 from Nat.and_two_pow_sub_one_eq_mod y 32, Nat.mod_eq_of_lt (by omega)] at h
    exact h
  have hd : (y : Int) / 4294967296 = 0 := by omega
  go_enter Try.func65, Try.ntmps65
  go_wp2
  go_ret2
  exact ⟨rfl, rfl⟩

set_option maxHeartbeats 1000000 in
theorem mul_1 (y : Nat) (hy : y ≤ 1000) (w : World) :
    Calls Try.prog 61 #[.int .u64 1, .int .u64 y] w fun e w' => e = .returned (.tuple #[.int .u64 0, .int .u64 y]) ∧ w = w' := by
  go_enter Try.func61, Try.ntmps61
  go_wp2_with ((go_at_call 65; apply Calls.mono; (with_reducible exact mul64_1 _ hy _); rintro e w' ⟨rfl, rfl⟩))
  go_ret2
  exact ⟨rfl, rfl⟩

def negs (n : Nat) : List Value := List.replicate n (.int .i64 (-1))
theorem negs_len (n : Nat) : (negs n).length = n := by simp [negs]
theorem negs_one (n : Nat) : ∀ u ∈ negs n, u.oneCell' = true := fun u hu => by rw [List.eq_of_mem_replicate hu]; rfl
def halfN (K j : Nat) : List Value := negs j ++ List.replicate (K - j) (.int .i64 0)
theorem halfN_len {K j : Nat} (h : j ≤ K) : (halfN K j).length = K := by simp [halfN, negs_len]; omega
theorem halfN_splice {K j t : Nat} (h : j + t ≤ K) : splice (halfN K j) j (negs t) = halfN K (j + t) := by
  unfold splice halfN
  have e1 : (negs j ++ List.replicate (K - j) (Value.int .i64 0)).take j = negs j := by
    rw [List.take_append_of_le_length (by rw [negs_len]; exact Nat.le_refl _), List.take_of_length_le (by rw [negs_len]; exact Nat.le_refl _)]
  have e2 : (negs j ++ List.replicate (K - j) (Value.int .i64 0)).drop (j + t) = List.replicate (K - (j + t)) (.int .i64 0) := by
    rw [List.drop_append, negs_len, List.drop_eq_nil_of_le (by rw [negs_len]; omega), List.nil_append, List.drop_replicate]
    congr 1
    omega
  rw [e1, negs_len, e2, ← List.append_assoc]
  congr 1
  unfold negs
  rw [List.replicate_append_replicate]
theorem halfN_get {K j i : Nat} (h : i < j) : (halfN K j)[i]? = some (.int .i64 (-1)) := by
  unfold halfN
  rw [List.getElem?_append_left (by rw [negs_len]; exact h)]
  unfold negs
  rw [List.getElem?_replicate, if_pos h]
theorem negs_get {t i : Nat} {v : Value} (h : (negs t)[i]? = some v) : i < t ∧ v = .int .i64 (-1) := by
  unfold negs at h
  rw [List.getElem?_replicate] at h
  split at h
  · exact ⟨by assumption, by cases h; rfl⟩
  · cases h
theorem half_cells {W : World} {g K j : Nat} {t : TypeId} (hh : W.heap[g]? = some (.cells (halfN K j).toArray t (0, 0))) {i : Nat} (hi : i < j) : W.cell? ⟨g, i, none⟩ = some (.int .i64 (-1)) := by
  simp only [World.cell?, hh]
  simpa using halfN_get hi
theorem copy_neg {w0 W : World} {g K j t sLen dLen dCap sCap : Nat} {ad : Addr} (hh : W.heap[g]? = some (.cells (halfN K j).toArray 3 (0, 0))) (hg : Grew w0 W) (hB : w0.heap.size ≤ g) (hjt : j + t ≤ K) (ht : t = Nat.min sLen dLen)
    (hs : ∀ i, i < t → W.cell? (ad.add i) = some (.int .i64 (-1))) :
    ∃ w2, (Builtin.copy_ #[24, 24] 3 #[.slice (some ⟨g, j, none⟩) dLen dCap, .slice (some ad) sLen sCap]).run Try.prog W = .ok (.int .i64 t) w2 ∧ w2.heap[g]? = some (.cells (halfN K (j + t)).toArray 3 (0, 0)) ∧ Grew w0 w2 := by
  have h := run_copy_row (P := Try.prog) W 24 24 3 3 g j dLen dCap ad sLen sCap (halfN K j).toArray 3 (negs t) Try.underlying24 (by kernel_rfl) hh (by rw [negs_len]; exact ht)
    (fun i v hv => by obtain ⟨h1, rfl⟩ := negs_get hv; exact hs i h1) (by rw [negs_len]; simpa [halfN_len (show j ≤ K by omega)] using hjt) (negs_one _)
  rw [negs_len] at h
  refine ⟨_, h, ?_, .of_below (below_setRow hg.below hB _)⟩
  have e : (halfN K j).take j ++ negs t ++ (halfN K j).drop (j + t) = halfN K (j + t) := by
    rw [← halfN_splice hjt]
    unfold splice
    rw [negs_len, List.append_assoc]
  rw [setRow_heap W g _ _ _ _ hh, e]
theorem halfN_zero (K : Nat) : halfN K 0 = List.replicate K (.int .i64 0) := by simp [halfN, negs]
theorem halfN_full (K : Nat) : halfN K K = intVs (List.replicate K (-1)) := by simp [halfN, negs, intVs]

set_option maxHeartbeats 4000000 in
theorem repeat_p (b o cp K : Nat) (w : World) (hc : w.cell? ⟨b, o, none⟩ = some (.int .i64 (-1))) (hb : b < w.heap.size) (hK : 1 ≤ K) (hK2 : K ≤ 64) :
    Calls Try.prog 56 #[.slice (some ⟨b, o, none⟩) 1 cp, .int .i64 K] w fun e w' => Grew w w' ∧ ∃ q, e = .returned (.slice (some ⟨q, 0, none⟩) K K) ∧ Owns w' w.heap.size [rI q K (List.replicate K (-1))] := by
  have hmk := make_ints K (by omega)
  have hcv : ((K : Int) % 18446744073709551616) = (K : Int) := by omega
  obtain ⟨w2, hcopy, hh2, hg2⟩ := copy_neg (w0 := w) (W := w.alloc (.cells (Array.replicate K (.int .i64 0)) 3)) (g := w.heap.size) (K := K) (j := 0) (t := 1) (sLen := 1) (dLen := K) (dCap := K) (sCap := cp) (ad := ⟨b, o, none⟩)
    (by rw [heap_alloc_if, if_neg (by omega), if_pos rfl, halfN_zero, List.toArray_replicate]) (by (repeat (first | exact Grew.refl _ | refine Grew.over ?_ _ | refine Grew.alloc ?_ _ | refine Grew.drew ?_ | refine Grew.drewN ?_ _))) (Nat.le_refl _) (by omega) (by simp [Nat.min]; omega)
    (fun i hi => by have : i = 0 := by omega
                    subst this
                    show World.cell? _ ⟨b, o + 0, none⟩ = _
                    exact Grew.cellEq (by (repeat (first | exact Grew.refl _ | refine Grew.over ?_ _ | refine Grew.alloc ?_ _ | refine Grew.drew ?_ | refine Grew.drewN ?_ _))) hc)
  have Hh2 := Lib.hid hh2
  have Hg2 := Lib.hid hg2
  clear hh2 hg2
  go_enter Try.func56, Try.ntmps56
  go_wp2_with (go_at_call 61; apply Calls.mono; (with_reducible exact mul_1 _ (by omega) _); rintro e w' ⟨rfl, rfl⟩)
  obtain ⟨q, hq⟩ : ∃ q, w.heap.size = q := ⟨_, rfl⟩
  rw [hq] at Hh2 ⊢
  have Hq := Lib.hid hq
  clear hq hcopy
  go_loopw [8] (fun v8 wr => ∃ j : Nat, 1 ≤ j ∧ j ≤ K ∧ v8 = .int .i64 j ∧ wr.heap[q]? = some (.cells (halfN K j).toArray 3 (0, 0)) ∧ Grew w wr) (fun v8 _ => K - (intOf v8).toNat)
  case atStart => exact ⟨1, by omega, hK, rfl, Hh2.out, Hg2.out⟩
  case round =>
    clear Hh2 Hg2
    obtain ⟨j, hj1, hj, rfl, hh, hg⟩ := hrel
    have hqz : q < wr.heap.size := lt_of_block hh
    have Hh := Lib.hid hh
    have Hg := Lib.hid hg
    clear hh hg
    by_cases hlt : j < K
    · obtain ⟨t, ht⟩ : ∃ t, Nat.min j (K - j) = t := ⟨_, rfl⟩
      have ht1 : t ≤ K - j ∧ 1 ≤ t := by rw [← ht]; simp only [Nat.min_def]; split <;> omega
      obtain ⟨ht1, ht2⟩ := ht1
      obtain ⟨w3, hcopy, hh3, hg3⟩ := copy_neg (w0 := w) (W := wr.drew) (g := q) (K := K) (j := j) (t := t) (sLen := j) (dLen := K - j) (dCap := K - j) (sCap := K) (ad := ⟨q, 0, none⟩)
        Hh.out Hg.out.drew (by rw [Hq.out]; exact Nat.le_refl _) (by omega) ht.symm
        (fun i hi => by
          rw [Addr.add_lit, Nat.zero_add]
          refine half_cells (K := K) (j := j) (t := 3) Hh.out ?_
          have : t ≤ j := by rw [← ht]; exact Nat.min_le_left _ _
          omega)
      have Hh3 := Lib.hid hh3
      have Hg3 := Lib.hid hg3
      have Ht := Lib.hid ht
      clear hh3 hg3 ht
      go_wp2
      go_region
      all_goals
        go_wp2
        go_roundw
        case rel => exact ⟨j + t, by omega, by omega, by go_num, Hh3.out, Hg3.out⟩
        case measure => simp [intOf]; omega
    · have hje : j = K := by omega
      subst hje
      go_wp2
      go_ret
      refine ⟨Hg.out, q, rfl, (Owns.nil _ _).cons ⟨by simp [rI, intVs_length], Or.inr ⟨q, j, (halfN j j).toArray, rfl, by rw [Hq.out]; exact Nat.le_refl _, Hh.out, Nat.le_refl _, by simp only [maxLen]; omega, by simp [halfN_len], ?_⟩⟩ (fun k x hk => by simp at hk)⟩
      show (halfN j j).take (j * 1) = intVs (List.replicate j (-1))
      rw [Nat.mul_one, List.take_of_length_le (by rw [halfN_len (Nat.le_refl _)]; exact Nat.le_refl _), halfN_full]
end Go.Proofs.Ytdenjldadlgniaa
