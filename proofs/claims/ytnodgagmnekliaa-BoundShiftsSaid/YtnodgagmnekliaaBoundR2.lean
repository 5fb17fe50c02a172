/- Contracts of the reference: in, sum, Lower. -/
import Derived.Test.YtnodgagmnekliaaBoundR1
set_option linter.unusedSimpArgs false
set_option linter.unusedVariables false
namespace Go.Proofs.Ytnodgagmnekliaa
open Go.RowKit

/-- A valid matrix with a row, as the walk wants it. -/
theorem Mat.valid {w : World} {p : Option Addr} {m : List (List Int)} (h : Mat w p m) (hv : vMat m) (hp : 0 < m.length) :
    ∃ b o, ∃ rb ro rc : Nat → Nat, p = some ⟨b, o, none⟩ ∧ b < w.heap.size ∧ ∀ u, u < m.length →
      w.cell? ⟨b, o + u, none⟩ = some (.slice (some ⟨rb u, ro u, none⟩) m.length (rc u)) ∧ rb u < w.heap.size ∧ ∀ v, v < m.length → w.cell? ⟨rb u, ro u + v, none⟩ = some (.int .i64 (at2 m u v)) := by
  obtain ⟨_, b, o, rp, rc, h3, h4⟩ := h
  have hch : ∀ u, ∃ bo : Nat × Nat, u < m.length → rp u = some ⟨bo.1, bo.2, none⟩ ∧ bo.1 < w.heap.size ∧ ∀ v, v < m.length → w.cell? ⟨bo.1, bo.2 + v, none⟩ = some (.int .i64 (at2 m u v)) := by
    intro u
    by_cases hu : u < m.length
    · obtain ⟨b1, o1, g1, g2⟩ := (h4 u hu).2.open
      have hl := (hv.2 u hu).1
      rw [hl] at g1 g2
      exact ⟨(b1, o1), fun _ => ⟨(g1 hp).1, (g1 hp).2, fun v hv' => g2 v hv'⟩⟩
    · exact ⟨(0, 0), fun h => absurd h hu⟩
  refine ⟨b, o, fun u => (Classical.choose (hch u)).1, fun u => (Classical.choose (hch u)).2, rc, (h3 hp).1, (h3 hp).2, fun u hu => ?_⟩
  have hs := Classical.choose_spec (hch u) hu
  refine ⟨?_, hs.2.1, hs.2.2⟩
  rw [(h4 u hu).1, hs.1, (hv.2 u hu).1]

def natL (xs : List Int) : List Nat := xs.map Int.toNat
theorem natL_drop {xs : List Int} {i : Nat} (h : i < xs.length) : (natL xs).drop i = (ge xs i).toNat :: (natL xs).drop (i + 1) := by
  unfold natL
  rw [List.drop_eq_getElem_cons (by simpa using h)]
  simp [ge_eq xs h]
theorem natL_length (xs : List Int) : (natL xs).length = xs.length := by simp [natL]

theorem sumL_bd {f : Nat → Int} {B : Int} {l : List Nat} (h : ∀ x ∈ l, 0 ≤ f x ∧ f x ≤ B) : 0 ≤ sumL f l ∧ sumL f l ≤ B * l.length := by
  induction l with
  | nil => simp [sumL]
  | cons x l ih =>
    have h1 := h x List.mem_cons_self
    have h2 := ih fun y hy => h y (List.mem_cons_of_mem _ hy)
    simp only [sumL, List.length_cons]
    rw [show ((l.length + 1 : Nat) : Int) = (l.length : Int) + 1 from by omega, Int.mul_add, Int.mul_one]
    omega
theorem costL_bd {c : Nat → Nat → Int} {l : List Nat} (h : ∀ x ∈ l, ∀ y ∈ l, 0 ≤ c x y ∧ c x y ≤ 1000000) (h8 : l.length ≤ 8) : 0 ≤ costL c l ∧ costL c l ≤ 8000000 * l.length := by
  induction l with
  | nil => simp [costL]
  | cons x l ih =>
    simp only [List.length_cons] at h8
    have h1 := sumL_bd (f := c x) (B := 1000000) (l := l) fun y hy => h x List.mem_cons_self y (List.mem_cons_of_mem _ hy)
    have h2 := ih (fun a ha b hb => h a (List.mem_cons_of_mem _ ha) b (List.mem_cons_of_mem _ hb)) (by omega)
    simp only [costL, List.length_cons]
    omega

set_option maxHeartbeats 1000000 in
theorem in_r (p : Option Addr) (n cap : Nat) (xs : List Int) (v : Int) (w : World) (hI : Ints w p xs) (hn : xs.length = n) :
    Calls Try.prog 22 #[.slice p n cap, .int .i64 v] w fun e w' => e = .returned (.bool (decide (v ∈ xs))) ∧ w = w' := by
  subst hn
  obtain ⟨hm, _, b, o, h3, h4⟩ := hI
  go_enter Try.func22, Try.ntmps22
  go_wp2
  go_loop [5] (fun i => ∃ k : Nat, k ≤ xs.length ∧ i = .int .i64 k ∧ ∀ j, j < k → v ≠ ge xs j) (fun i => xs.length - (intOf i).toNat)
  case atStart => exact ⟨0, Nat.zero_le _, rfl, fun j hj => by omega⟩
  case round =>
    obtain ⟨k, hk, rfl, hall⟩ := hrel
    have Hall := Lib.hid hall
    clear hall
    by_cases hlt : k < xs.length
    · obtain ⟨rfl, hb⟩ := h3 (by omega)
      have hc := h4 k hlt
      clear h3 h4
      by_cases he : v = ge xs k
      · have Hf := Lib.hid (show decide (v ∈ xs) = true from decide_eq_true (he ▸ ge_mem hlt))
        have he' : (ge xs k == v) = true := beq_iff_eq.2 he.symm
        clear he
        go_wp2
        go_ret
        exact ⟨ret_bool Hf.out.symm, rfl⟩
      · have he' : (ge xs k == v) = false := beq_eq_false_iff_ne.2 (Ne.symm he)
        have He := Lib.hid he
        clear he
        go_wp2
        go_round
        case rel => exact ⟨k + 1, by omega, by go_num, fun j hj => by
          by_cases h : j = k
          · rw [h]; exact He.out
          · exact Hall.out j (by omega)⟩
        case measure => simp [intOf]; omega
    · have Hf := Lib.hid (show decide (v ∈ xs) = false from decide_eq_false fun hv => by
        obtain ⟨i, hi, he⟩ := List.getElem_of_mem hv
        exact Hall.out i (by omega) (by rw [ge_eq xs hi]; exact he.symm))
      go_wp2
      go_ret
      exact ⟨ret_bool Hf.out.symm, rfl⟩

set_option maxHeartbeats 2000000 in
theorem sum_r (p q : Option Addr) (n k cp cq : Nat) (m : List (List Int)) (xs : List Int) (w : World) (hM : Mat w p m) (hv : vMat m) (hx : Ints w q xs) (hn : m.length = n) (hk : xs.length = k)
    (hr : ∀ x ∈ xs, 0 ≤ x ∧ x < m.length) (hk8 : xs.length ≤ 8) :
    Calls Try.prog 23 #[.slice p n cp, .slice q k cq] w fun e w' => e = .returned (.int .i64 (costL (at2 m) (natL xs))) ∧ Grew w w' := by
  subst hn hk
  have hcell : ∀ x ∈ natL xs, ∀ y ∈ natL xs, 0 ≤ at2 m x y ∧ at2 m x y ≤ 1000000 := by
    intro x hx y hy
    obtain ⟨x', hx', rfl⟩ := List.mem_map.1 hx
    obtain ⟨y', hy', rfl⟩ := List.mem_map.1 hy
    have h1 := hr x' hx'
    have h2 := hr y' hy'
    exact (hv.2 _ (by omega)).2 _ (by omega)
  have hB : ∀ i, 0 ≤ costL (at2 m) ((natL xs).drop i) ∧ costL (at2 m) ((natL xs).drop i) ≤ 64000000 := by
    intro i
    have := costL_bd (c := at2 m) (l := (natL xs).drop i) (fun x hx y hy => hcell x (List.mem_of_mem_drop hx) y (List.mem_of_mem_drop hy)) (by simp [natL]; omega)
    have hl : ((natL xs).drop i).length ≤ 8 := by simp [natL]; omega
    omega
  have hS : ∀ u ∈ natL xs, ∀ j, 0 ≤ sumL (at2 m u) ((natL xs).drop j) := fun u hu j => sumL_nonneg fun y hy => (hcell u hu y (List.mem_of_mem_drop hy)).1
  have HB := Lib.hid hB
  have HS := Lib.hid hS
  have Hr := Lib.hid hr
  have Hv := Lib.hid hv
  have hB0 := hB 0
  rw [List.drop_zero] at hB0
  obtain ⟨b1, b2⟩ := hB0
  clear hcell hB hS hr hv
  obtain ⟨bx, ox, h1, c1⟩ := hx.open
  have hmx := hx.1
  have hmm := hM.1
  generalize hT : costL (at2 m) (natL xs) = T at b1 b2 ⊢
  have HT := Lib.hid hT
  clear hT
  go_enter Try.func23, Try.ntmps23
  go_wp2
  go_loopw [5, 6] (fun s i wr => ∃ j : Nat, ∃ S : Int, j ≤ xs.length ∧ i = .int .i64 j ∧ s = .int .i64 S ∧ 0 ≤ S ∧ S + costL (at2 m) ((natL xs).drop j) = T ∧ Grew w wr) (fun _ i _ => xs.length - (intOf i).toNat)
  case atStart => exact ⟨0, 0, Nat.zero_le _, rfl, rfl, by omega, by rw [List.drop_zero, HT.out]; omega, Grew.refl w⟩
  case round =>
    obtain ⟨j, S, hj, rfl, rfl, hS0, hsum, x, rfl⟩ := hrel
    have Hsum := Lib.hid hsum
    clear hsum
    by_cases hlt : j < xs.length
    · go_wp2
      go_loopw [5, 7] (fun s i wr => ∃ t : Nat, ∃ S' : Int, j + 1 ≤ t ∧ t ≤ xs.length ∧ i = .int .i64 t ∧ s = .int .i64 S' ∧ 0 ≤ S' ∧ S' + sumL (at2 m (ge xs j).toNat) ((natL xs).drop t) + costL (at2 m) ((natL xs).drop (j + 1)) = T ∧ Grew w wr) (fun _ i _ => xs.length - (intOf i).toNat)
      case atStart =>
        refine ⟨j + 1, S, by omega, by omega, by go_num, rfl, hS0, ?_, Grew.over' w x⟩
        have := Hsum.out
        rw [natL_drop hlt] at this
        simp only [costL] at this
        omega
      case round =>
        obtain ⟨t, S', ht0, ht, rfl, rfl, hS1, hsum2, x2, rfl⟩ := hrel
        have Hsum2 := Lib.hid hsum2
        clear hsum2
        by_cases hlt2 : t < xs.length
        · have hjm : (ge xs j).toNat ∈ natL xs := List.mem_map.2 ⟨_, ge_mem hlt, rfl⟩
          obtain ⟨u, hu⟩ := Int.eq_ofNat_of_zero_le (Hr.out _ (ge_mem hlt)).1
          obtain ⟨v, hv⟩ := Int.eq_ofNat_of_zero_le (Hr.out _ (ge_mem hlt2)).1
          have hul : u < m.length := by have := (Hr.out _ (ge_mem hlt)).2; omega
          have hvl : v < m.length := by have := (Hr.out _ (ge_mem hlt2)).2; omega
          obtain ⟨b, o, rb, ro, rc, rfl, hbs, hrow⟩ := hM.valid Hv.out (by omega)
          obtain ⟨rfl, hb1⟩ := h1 (by omega)
          obtain ⟨r1, r2, r3⟩ := hrow u hul
          have r4 := r3 v hvl
          have d1 := c1 j hlt
          have d2 := c1 t hlt2
          have hnext := Hsum2.out
          rw [natL_drop hlt2] at hnext
          simp only [sumL] at hnext
          have hb2 := HB.out (j + 1)
          have hb3 := HS.out _ hjm (t + 1)
          have hb4 := (Hv.out.2 u hul).2 v hvl
          rw [hu, hv, Int.toNat_natCast, Int.toNat_natCast] at hnext
          rw [hu, Int.toNat_natCast] at hb3
          have Hnext := Lib.hid hnext
          have hs0 : S' + at2 m u v ≤ 64000000 := by omega
          have Hu := Lib.hid hu
          rw [hu] at d1
          rw [hv] at d2
          have hb5 := hb4.1
          clear hrow r3 h1 c1 hnext hu hv hb2 hb3 hM hjm
          go_wp2
          refine wp_region_over (by kernel_rfl) (by kernel_rfl) ?_; (repeat (go_big_quiet_step (fail))); refine wpQuiet_nil ?_; rintro _ ⟨x, rfl⟩
          go_wp2
          go_roundw
          case rel =>
            refine ⟨t + 1, S' + at2 m u v, by omega, by omega, by go_num, rfl, by omega, ?_, ?_⟩
            · have := Hnext.out
              rw [Hu.out, Int.toNat_natCast]
              omega
            · (repeat (first | exact Grew.refl _ | refine Grew.over ?_ _ | refine Grew.alloc ?_ _ | refine Grew.drew ?_ | refine Grew.drewN ?_ _))
          case measure => simp [intOf]; omega
        · go_wp2
          go_roundw
          case rel =>
            refine ⟨j + 1, S', by omega, by go_num, rfl, hS1, ?_, ?_⟩
            · have := Hsum2.out
              rw [List.drop_eq_nil_of_le (by rw [natL_length]; omega)] at this
              simp only [sumL] at this
              omega
            · (repeat (first | exact Grew.refl _ | refine Grew.over ?_ _ | refine Grew.alloc ?_ _ | refine Grew.drew ?_ | refine Grew.drewN ?_ _))
          case measure => simp [intOf]; omega
    · have Hf : Hid (S = T) := Lib.hid (by
        have := Hsum.out
        rw [List.drop_eq_nil_of_le (by rw [natL_length]; omega)] at this
        simp only [costL] at this
        omega)
      go_wp2
      go_ret
      refine ⟨ret_int Hf.out, ?_⟩
      (repeat (first | exact Grew.refl _ | refine Grew.over ?_ _ | refine Grew.alloc ?_ _ | refine Grew.drew ?_ | refine Grew.drewN ?_ _))

end Go.Proofs.Ytnodgagmnekliaa
