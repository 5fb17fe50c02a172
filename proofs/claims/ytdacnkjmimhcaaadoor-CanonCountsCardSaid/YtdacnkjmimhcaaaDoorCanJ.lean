/- Order of the program. -/
import Derived.Test.YtdacnkjmimhcaaaDoorCanI
set_option linter.unusedSimpArgs false
set_option linter.unusedVariables false
namespace Go.Proofs.YtdacnkjmimhcaaaDoor
open Go.RowKit
attribute [local go_sem ↓] Go.wp_at_zero Go.wp_at_succ

/-! ### The peeling, plain -/
section
variable (E : List (Int × Int)) (A : List (List Int))
def leftL (st C : List Int) (i : Nat) : List Int := restL st (nearL E (rowOf A (ge C i).toNat))
def freeB (st C : List Int) (i : Nat) : Bool := restN st (nearL E (rowOf A (ge C i).toNat)) == 2
def pickN (st C : List Int) : Nat → Nat → Nat
  | 0, i => i
  | f + 1, i => if i + 2 < C.length ∧ freeB E A st C i = false then pickN st C f (i + 1) else i
def goodB (st C : List Int) (i : Nat) : Bool := decide (ge C (i - 1) ∈ leftL E A st C i) && decide (2 ≤ (leftL E A st C i).length) && decide ((takeC C (leftL E A st C i) i).length ≤ 100)
def peelF : Nat → List Int → List Int → List Int → Option (List Int)
  | f, st, C, ord => if C.length ≤ 2 then some ord else match f with
    | 0 => none
    | f + 1 => if goodB E A st C (pickN E A st C C.length 1) = true then peelF f (takeS st C (leftL E A st C (pickN E A st C C.length 1)) (pickN E A st C C.length 1)) (takeC C (leftL E A st C (pickN E A st C C.length 1)) (pickN E A st C C.length 1)) (ord ++ [ge C (pickN E A st C C.length 1)]) else none
end
theorem pickN_stop {E : List (Int × Int)} {A : List (List Int)} {st C : List Int} {f i : Nat} (h : ¬ (i + 2 < C.length ∧ freeB E A st C i = false)) : pickN E A st C f i = i := by
  cases f with
  | zero => rfl
  | succ f => unfold pickN; rw [if_neg h]
theorem pickN_go {E : List (Int × Int)} {A : List (List Int)} {st C : List Int} {f i : Nat} (h : i + 2 < C.length ∧ freeB E A st C i = false) : pickN E A st C (f + 1) i = pickN E A st C f (i + 1) := by
  rw [pickN, if_pos h]
theorem pickN_in {E : List (Int × Int)} {A : List (List Int)} {st C : List Int} : ∀ (f : Nat) {i : Nat}, i + 1 < C.length → i ≤ pickN E A st C f i ∧ pickN E A st C f i + 1 < C.length
  | 0, i, h => ⟨Nat.le_refl _, h⟩
  | f + 1, i, h => by
    unfold pickN
    split
    · rename_i hc
      have := pickN_in f (E := E) (A := A) (st := st) (C := C) (i := i + 1) (by omega)
      omega
    · exact ⟨Nat.le_refl _, h⟩
theorem turnL_mem {l : List Int} {a b u : Int} (h : u ∈ turnL l a b) : u ∈ l := by
  unfold turnL at h
  have hm : ∀ x, x ∈ l.drop (idx a l).toNat ++ l.take (idx a l).toNat → x ∈ l := fun x hx => by
    rcases List.mem_append.1 hx with hx | hx
    · exact List.mem_of_mem_drop hx
    · exact List.mem_of_mem_take hx
  simp only at h
  split at h
  · exact hm u h
  · rcases List.mem_append.1 h with h | h
    · exact hm u (List.mem_of_mem_take h)
    · exact hm u (List.mem_of_mem_drop (List.mem_reverse.1 h))
theorem takeC_mem {C l : List Int} {i : Nat} {u : Int} (h : u ∈ takeC C l i) : u ∈ C ∨ u ∈ l := by
  unfold takeC at h
  rcases List.mem_append.1 h with h | h
  · rcases List.mem_append.1 h with h | h
    · exact Or.inl (List.mem_of_mem_take h)
    · exact Or.inr (turnL_mem h)
  · exact Or.inl (List.mem_of_mem_drop h)
theorem leftL_range {N : Int} {E : List (Int × Int)} {A : List (List Int)} (hV : vRot N E A) {st C : List Int} {i : Nat} (hC : ∀ u ∈ C, 0 ≤ u ∧ u < (A.length : Int)) (hi : i < C.length) : ∀ u ∈ leftL E A st C i, 0 ≤ u ∧ u < (A.length : Int) := by
  intro u hu
  have h1 := hC _ (ge_mem hi)
  have := nearL_bound hV (v := (ge C i).toNat) (by omega) u (List.mem_filter.1 hu).1
  have := hV.al
  omega
theorem takeS_len (st C l : List Int) (i : Nat) : (takeS st C l i).length = st.length := by unfold takeS; rw [List.length_set, stOut_len]

/-! ### Memory -/
theorem Peel.gr {X : Nat → Prop} {w w' : World} {g gs : Nat} {N : Int} {pE pA : Option Addr} {nE nA cE cA : Nat} {st : List Int} {pC : Option Addr} {cC : Nat} {C : List Int} (h : Peel w g gs N pE pA nE nA cE cA st pC cC C) (hg : Gr X w w') (h1 : ¬ X g) (h2 : ¬ X gs) (h3 : ∀ a, pC = some a → ¬ X a.block) :
    Peel w' g gs N pE pA nE nA cE cA st pC cC C :=
  ⟨hg.cellEq h1 h.c0, hg.cellEq h1 h.c1, hg.cellEq h1 h.c2, hg.cellEq h1 h.c3, hg.cellEq h1 h.c4, by rw [hg.frozen (World.block_lt_of_cell? w _ h.c4) h1]; exact h.f4,
    fun i hi => ⟨hg.cellEq h2 (h.hst i hi).1, by rw [hg.frozen h.hb h2]; exact (h.hst i hi).2⟩, Nat.lt_of_lt_of_le h.hb hg.size, h.hC.gr hg h3, h.cC1, h.cC2, h.ne, h.nC⟩
theorem Grew.gr {X : Nat → Prop} {a b c : World} (h : Grew a b) (hg : Gr X b c) (hX : ∀ k, X k → a.heap.size ≤ k) : Grew a c := by
  refine Gr.grew ?_
  refine ⟨hg.os.trans h.below.os, hg.tape.trans h.below.tape, hg.output.trans h.below.output, Nat.le_trans h.below.size hg.size, fun k hk _ => ?_⟩
  rw [hg.block k (Nat.lt_of_lt_of_le hk h.below.size) (fun e => by have := hX k e; omega)]
  exact h.below.block k hk
/-- States in memory. -/
def StAt (w : World) (gs : Nat) (st : List Int) : Prop := gs < w.heap.size ∧ ∀ i, i < st.length → w.cell? ⟨gs, i, none⟩ = some (.int .i64 (ge st i)) ∧ w.frozen? ⟨gs, i, none⟩ = false
theorem StAt.grew {w w' : World} {gs : Nat} {st : List Int} (h : StAt w gs st) (hg : Grew w w') : StAt w' gs st :=
  ⟨Nat.lt_of_lt_of_le h.1 hg.below.size, fun i hi => ⟨hg.cellEq (h.2 i hi).1, hg.frozenEq h.1 (h.2 i hi).2⟩⟩
theorem StAt.made (w : World) (n : Nat) : StAt (w.alloc (.cells (Array.replicate n (.int .i64 0)) 3)) w.heap.size (List.replicate n 0) := by
  refine ⟨by simp, fun i hi => ?_⟩
  rw [List.length_replicate] at hi
  have : ge (List.replicate n (0 : Int)) i = 0 := by unfold ge; simp [hi]
  rw [this]
  exact ⟨by rw [cell?_alloc_if, if_neg (by omega), if_pos rfl]; simp [hi], by rw [frozen?_alloc_if, if_neg (by omega)]⟩
theorem ones_rep (z : Value) (n : Nat) : madeCells #[z] n = Array.replicate n z := by
  rw [← Array.toArray_toList (xs := madeCells #[z] n), toList_madeCells_one]
  simp
theorem mk_intsJ (n : Nat) (hn : n ≤ 100000) (W : World) : (Instr.makeSlice 26 (.int .i64 n) (.int .i64 n)).run Tryd.prog W = .ok (.slice (some ⟨W.heap.size, 0, none⟩) n n) (W.alloc (.cells (Array.replicate n (.int .i64 0)) 3)) := by
  obtain ⟨i0, hi, hz0, hz1, hz2⟩ := info_parts Tryd.infoInt
  have h := run_make (P := Tryd.prog) W 26 3 i0 (.int .i64 0) Tryd.underlying26 hi hz0 .i64 .i64 (n : Int) (n : Int) (by omega) (by omega) (by rw [hz2]; omega) (by omega)
  rw [hz1, show (Value.int .i64 0).cells = #[.int .i64 0] from rfl, Int.toNat_natCast, Nat.mul_one, ones_rep] at h
  exact h
/-- Three numbers in a block. -/
def CtAt (w : World) (gc : Nat) (C : List Int) : Prop := gc < w.heap.size ∧ Ints w (some ⟨gc, 0, none⟩) C
theorem CtAt.grew {w w' : World} {gc : Nat} {C : List Int} (h : CtAt w gc C) (hg : Grew w w') : CtAt w' gc C := ⟨Nat.lt_of_lt_of_le h.1 hg.below.size, h.2.grew hg⟩
theorem CtAt.made (w : World) {a b c : Int} (ha : -9223372036854775808 ≤ a ∧ a ≤ 9223372036854775807) (hb : -9223372036854775808 ≤ b ∧ b ≤ 9223372036854775807) (hc : -9223372036854775808 ≤ c ∧ c ≤ 9223372036854775807) :
    CtAt (w.alloc (.cells #[.int .i64 a, .int .i64 b, .int .i64 c] 3)) w.heap.size [a, b, c] := by
  refine ⟨by simp, by simp, fun x hx => ?_, w.heap.size, 0, fun _ => ⟨rfl, by simp⟩, fun i hi => ?_⟩
  · simp at hx
    rcases hx with rfl | rfl | rfl
    · exact ha
    · exact hb
    · exact hc
  · match i, hi with
    | 0, _ => simp [go_sem, ge]
    | 1, _ => simp [go_sem, ge]
    | 2, _ => simp [go_sem, ge]
theorem peel_mk {W : World} {gs gc n : Nat} {N : Int} {pE pA : Option Addr} {nE nA cE cA : Nat} {st : List Int} {a b c : Int} {tp : TypeId} (hS : StAt W gs st) (hC : CtAt W gc [a, b, c]) (hne : gc ≠ gs) (hn : st.length = n) :
    Peel (W.alloc (.cells #[.int .i64 N, .slice pE nE cE, .slice pA nA cA, .slice (some ⟨gs, 0, none⟩) n n, .slice (some ⟨gc, 0, none⟩) 3 3] tp)) W.heap.size gs N pE pA nE nA cE cA st (some ⟨gc, 0, none⟩) 3 [a, b, c] := by
  subst hn
  have hg : Grew W (W.alloc (.cells #[.int .i64 N, .slice pE nE cE, .slice pA nA cA, .slice (some ⟨gs, 0, none⟩) st.length st.length, .slice (some ⟨gc, 0, none⟩) 3 3] tp)) := by (repeat (first | exact Grew.refl _ | refine Grew.over ?_ _ | refine Grew.alloc ?_ _ | refine Grew.drew ?_ | refine Grew.drewN ?_ _))
  have h1 := hS.grew hg
  have h2 := hS.1
  have h3 := hC.1
  exact ⟨by simp [go_sem], by simp [go_sem], by simp [go_sem], by simp [go_sem], by simp [go_sem], by simp [go_sem], h1.2, h1.1, (hC.grew hg).2, by simp, by decide, by omega, fun ad had => by cases had; dsimp only; omega⟩

theorem app_peel {wo pre w1 : World} {row : Option Nat} {g gs : Nat} {N : Int} {pE pA : Option Addr} {nE nA cE cA : Nat} {st : List Int} {pC : Option Addr} {cC : Nat} {C : List Int} (h : Peel wo g gs N pE pA nE nA cE cA st pC cC C) (hq : Grew wo pre) (hg : pre.grownBy w1 row)
    (h1 : row ≠ some g) (h2 : row ≠ some gs) (h3 : ∀ a, pC = some a → row ≠ some a.block) : Peel w1 g gs N pE pA nE nA cE cA st pC cC C :=
  (h.grew hq).gr (Gr.of_grownBy hg) (fun e => h1 e.symm) (fun e => h2 e.symm) (fun a ha e => h3 a ha e.symm)
theorem two_ints (w : World) {a b : Int} (ha : -9223372036854775808 ≤ a ∧ a ≤ 9223372036854775807) (hb : -9223372036854775808 ≤ b ∧ b ≤ 9223372036854775807) :
    Ints (w.alloc (.cells #[.int .i64 a, .int .i64 b] 3)) (some ⟨w.heap.size, 0, none⟩) [a, b] := by
  refine ⟨by simp, fun x hx => ?_, w.heap.size, 0, fun _ => ⟨rfl, by simp⟩, fun i hi => ?_⟩
  · simp at hx
    rcases hx with rfl | rfl
    · exact ha
    · exact hb
  · match i, hi with
    | 0, _ => simp [go_sem, ge]
    | 1, _ => simp [go_sem, ge]
theorem trg_tails {N : Int} {E : List (Int × Int)} {A : List (List Int)} (hT : trgB N E A = true) : (0 ≤ tailF N E A 0 ∧ tailF N E A 0 < N) ∧ (0 ≤ tailF N E A 1 ∧ tailF N E A 1 < N) ∧ 0 ≤ thirdF N E A ∧ thirdF N E A < N := by
  have hV := trg_valid hT
  have hE := trg_pos hT
  have e0 : tailF N E A 0 = tailE E 0 := by unfold tailF; rw [if_pos ⟨vRotB_iff.2 hV, by omega, by omega⟩]
  have e1 : tailF N E A 1 = tailE E 1 := by unfold tailF; rw [if_pos ⟨vRotB_iff.2 hV, by omega, by omega⟩]
  have h0 : nextF N E A 0 = nxF A 0 := by unfold nextF; rw [if_pos ⟨vRotB_iff.2 hV, by omega, by omega⟩]; rfl
  obtain ⟨d0, d1⟩ := nxF_in hV (e := 0) (by omega) (by omega)
  have e2 : thirdF N E A = tailE E (nxF A (nxF A 0)) := by
    unfold thirdF
    rw [h0]
    have h1 : nextF N E A (nxF A 0) = nxF A (nxF A 0) := by unfold nextF; rw [if_pos ⟨vRotB_iff.2 hV, d0, d1⟩]; rfl
    obtain ⟨f0, f1⟩ := nxF_in hV d0 d1
    rw [h1]; unfold tailF; rw [if_pos ⟨vRotB_iff.2 hV, f0, f1⟩]
  obtain ⟨f0, f1⟩ := nxF_in hV d0 d1
  rw [e0, e1, e2]
  exact ⟨tail_in hV (by omega) (by omega), tail_in hV (by omega) (by omega), tail_in hV f0 f1⟩
noncomputable def peel0 (N : Int) (E : List (Int × Int)) (A : List (List Int)) : List Int := [tailF N E A 0, thirdF N E A, tailF N E A 1]

set_option maxRecDepth 8000 in
set_option maxHeartbeats 16000000 in
theorem order_p (N : Int) (pE pA : Option Addr) (nE nA cE cA : Nat) (E : List (Int × Int)) (A : List (List Int)) (F : Nat) (R : List Int) (w : World) (hR : RotIn w pE pA cE E A) (hL : Lim w)
    (hT : trgB N E A = true) (hF : F ≤ 90) (hp : peelF E A F (stOut (List.replicate A.length 0) (peel0 N E A)) (peel0 N E A) [] = some R) (hnE : E.length = nE) (hnA : A.length = nA) :
    Calls Tryd.prog 14 #[.agg #[.int .i64 N, .slice pE nE cE, .slice pA nA cA]] w (TwoPost ((R ++ [tailF N E A 1, tailF N E A 0]).reverse) 0 w) := by
  subst hnE hnA
  have HR := Lib.hid hR
  have HL := Lib.hid hL
  have ha1 := hR.a1
  have hV := trg_valid hT
  have hN3 := trg_three hT
  have hN : N = A.length := hV.al.symm
  subst hN
  have HV := Lib.hid hV
  have HRt := Lib.hid (HR.out.at HR.out.e5 (vRotB_iff.2 hV))
  obtain ⟨⟨a0, a0'⟩, ⟨a1, a1'⟩, a2, a2'⟩ := trg_tails hT
  have hp0 : peel0 A.length E A = [tailF A.length E A 0, thirdF A.length E A, tailF A.length E A 1] := rfl
  rw [hp0] at hp
  obtain ⟨t0, ht0⟩ : ∃ t, tailF A.length E A 0 = t := ⟨_, rfl⟩
  obtain ⟨t1, ht1⟩ : ∃ t, tailF A.length E A 1 = t := ⟨_, rfl⟩
  obtain ⟨t2, ht2⟩ : ∃ t, thirdF A.length E A = t := ⟨_, rfl⟩
  have H0 : Hid (∀ W1, Grew w W1 → Calls Tryd.prog 25 #[.agg #[.int .i64 A.length, .slice pE E.length cE, .slice pA A.length cA], .int .i64 0] W1 fun e w' => e = .returned (.int .i64 t0) ∧ Grew W1 w') := Lib.hid (fun W1 h => by rw [← ht0]; exact tailp_l _ _ _ _ _ _ _ _ _ _ _ (HRt.out.grew h) (HL.out.grew h) rfl rfl)
  have H1 : Hid (∀ W1, Grew w W1 → Calls Tryd.prog 25 #[.agg #[.int .i64 A.length, .slice pE E.length cE, .slice pA A.length cA], .int .i64 1] W1 fun e w' => e = .returned (.int .i64 t1) ∧ Grew W1 w') := Lib.hid (fun W1 h => by rw [← ht1]; exact tailp_l _ _ _ _ _ _ _ _ _ _ _ (HRt.out.grew h) (HL.out.grew h) rfl rfl)
  have H2 : Hid (∀ W1, Grew w W1 → Calls Tryd.prog 26 #[.agg #[.int .i64 A.length, .slice pE E.length cE, .slice pA A.length cA]] W1 fun e w' => e = .returned (.int .i64 t2) ∧ Grew W1 w') := Lib.hid (fun W1 h => by rw [← ht2]; exact third_p _ _ _ _ _ _ _ _ _ _ (HRt.out.grew h) (HL.out.grew h) rfl rfl)
  have Htr : Hid (∀ W1, Grew w W1 → Calls Tryd.prog 19 #[.agg #[.int .i64 A.length, .slice pE E.length cE, .slice pA A.length cA]] W1 fun e w' => e = .returned (.bool true) ∧ Grew W1 w') := Lib.hid (fun W1 h => by rw [← hT]; exact trg_p _ _ _ _ _ _ _ _ _ _ (HR.out.grew h) (HL.out.grew h) rfl rfl)
  rw [ht0, ht1, ht2] at hp
  rw [ht0] at a0 a0' ⊢
  rw [ht1] at a1 a1' ⊢
  rw [ht2] at a2 a2'
  have Hp := Lib.hid hp
  have hmk := mk_intsJ A.length (by omega)
  clear hR hL hV hT hp hp0 ht0 ht1 ht2 hN3
  go_enter Tryd.func14, Tryd.ntmps14
  go_wp2_with ((go_at_call 19; apply Calls.mono; (with_reducible exact Htr.out _ (by (repeat (first | exact Grew.refl _ | refine Grew.over ?_ _ | refine Grew.alloc ?_ _ | refine Grew.drew ?_ | refine Grew.drewN ?_ _)))); rintro e w' ⟨rfl, x, rfl⟩))
  have HwB0 : Hid (Grew w (over (w.alloc (.cells #[.int .i64 A.length, .slice pE E.length cE, .slice pA A.length cA] 25)) x)) := Lib.hid (by (repeat (first | exact Grew.refl _ | refine Grew.over ?_ _ | refine Grew.alloc ?_ _ | refine Grew.drew ?_ | refine Grew.drewN ?_ _)))
  have b0 : (over (w.alloc (.cells #[.int .i64 A.length, .slice pE E.length cE, .slice pA A.length cA] 25)) x).cell? ⟨w.heap.size, 0, none⟩ = some (.int .i64 A.length) := by simp [go_sem]
  have b1 : (over (w.alloc (.cells #[.int .i64 A.length, .slice pE E.length cE, .slice pA A.length cA] 25)) x).cell? ⟨w.heap.size, 1, none⟩ = some (.slice pE E.length cE) := by simp [go_sem]
  have b2 : (over (w.alloc (.cells #[.int .i64 A.length, .slice pE E.length cE, .slice pA A.length cA] 25)) x).cell? ⟨w.heap.size, 2, none⟩ = some (.slice pA A.length cA) := by simp [go_sem]
  obtain ⟨wB, hwB⟩ : ∃ wB, over (w.alloc (.cells #[.int .i64 A.length, .slice pE E.length cE, .slice pA A.length cA] 25)) x = wB := ⟨_, rfl⟩
  rw [hwB] at HwB0 b0 b1 b2 ⊢
  clear hwB x
  have hszB := HwB0.out.below.size
  have B0 := Lib.hid b0
  have B1 := Lib.hid b1
  have B2 := Lib.hid b2
  have hblt := World.block_lt_of_cell? wB _ b0
  dsimp only at hblt
  have Ha := Lib.hid (show (-9223372036854775808 ≤ t0 ∧ t0 ≤ 9223372036854775807) ∧ (-9223372036854775808 ≤ t1 ∧ t1 ≤ 9223372036854775807) ∧ -9223372036854775808 ≤ t2 ∧ t2 ≤ 9223372036854775807 by omega)
  go_cut [4] (fun v4 wx => ∃ g gs pC, v4 = .pointer (some ⟨g, 0, none⟩) ∧ Grew wB wx ∧ wB.heap.size ≤ g ∧ wB.heap.size ≤ gs ∧ Peel wx g gs A.length pE pA E.length A.length cE cA (List.replicate A.length 0) pC 3 [t0, t2, t1] ∧ ∀ a, pC = some a → wB.heap.size ≤ a.block)
  case first =>
    refine wp_region_T (s := 14) (S := fun w' => w'.cell? ⟨w.heap.size, 0, none⟩ = some (.int .i64 A.length) ∧ w'.cell? ⟨w.heap.size, 1, none⟩ = some (.slice pE E.length cE) ∧ w'.cell? ⟨w.heap.size, 2, none⟩ = some (.slice pA A.length cA)) (by kernel_rfl) ⟨by simpa using b0, by simpa using b1, by simpa using b2⟩ (fun hH => ?_)
    refine wpAnyT_takeV (i := 0) (v := ?_) rfl (by kernel_rfl) (by kernel_rfl) (by kernel_rfl) (by decide) (fun _ _ _ h => h) (Or.inl ⟨by rfl, ?_⟩) (by assumption) ?_
    rotate_left
    · (intro w hSw; (try dsimp only at hSw); go_simp; (try with_reducible rfl))
    (try simp only [Act.put, List.setIfInBounds_toArray, List.set_cons_zero, List.set_cons_succ])
    refine wpAnyT_takeV (i := 1) (v := ?_) rfl (by kernel_rfl) (by kernel_rfl) (by kernel_rfl) (by decide) (fun _ _ _ h => h) (Or.inl ⟨by rfl, ?_⟩) (by assumption) ?_
    rotate_left
    · (intro w hSw; (try dsimp only at hSw); go_simp; (try with_reducible rfl))
    (try simp only [Act.put, List.setIfInBounds_toArray, List.set_cons_zero, List.set_cons_succ])
    refine wpAnyT_takeV (i := 2) (v := ?_) rfl (by kernel_rfl) (by kernel_rfl) (by kernel_rfl) (by decide) (fun _ _ _ h => h) (Or.inl ⟨by rfl, ?_⟩) (by assumption) ?_
    rotate_left
    · (intro w hSw; (try dsimp only at hSw); go_simp; (try with_reducible rfl))
    (try simp only [Act.put, List.setIfInBounds_toArray, List.set_cons_zero, List.set_cons_succ])
    refine wpAnyT_takeV (i := 4) (v := ?_) rfl (by kernel_rfl) (by kernel_rfl) (by kernel_rfl) (by decide) (fun _ _ _ h => h) (Or.inl ⟨by rfl, ?_⟩) (by assumption) ?_
    rotate_left
    · (intro w hSw; (try dsimp only at hSw); go_simp; (try with_reducible rfl))
    (try simp only [Act.put, List.setIfInBounds_toArray, List.set_cons_zero, List.set_cons_succ])
    refine wpAnyT_takeV (i := 6) (v := ?_) rfl (by kernel_rfl) (by kernel_rfl) (by kernel_rfl) (by decide) (fun _ _ _ h => h) (Or.inl ⟨by rfl, ?_⟩) (by assumption) ?_
    rotate_left
    · (intro w hSw; (try dsimp only at hSw); go_simp; (try with_reducible rfl))
    (try simp only [Act.put, List.setIfInBounds_toArray, List.set_cons_zero, List.set_cons_succ])
    refine wpAnyT_takeV (i := 8) (v := ?_) rfl (by kernel_rfl) (by kernel_rfl) (by kernel_rfl) (by decide) (fun _ _ _ h => h) (Or.inl ⟨by rfl, ?_⟩) (by assumption) ?_
    rotate_left
    · (intro w hSw; (try dsimp only at hSw); go_simp; (try with_reducible rfl))
    (try simp only [Act.put, List.setIfInBounds_toArray, List.set_cons_zero, List.set_cons_succ])
    obtain ⟨wk, hwk⟩ : ∃ wk, wB.drew = wk := ⟨_, rfl⟩
    have Hcur : Hid (Grew wB wk) := Lib.hid (by rw [← hwk]; exact (Grew.refl wB).drew)
    rw [hwk] at hH ⊢
    replace b0 := hH.1
    replace b1 := hH.2.1
    replace b2 := hH.2.2
    have hszk := Hcur.out.below.size
    clear hwk
    --ORD
    refine wpAnyT_all (rs := [3, 5]) (by kernel_rfl) (by simp) (AllT.consL (i := 3) rfl (fun K hK => ?_) (AllT.consL (i := 5) rfl (fun K hK => ?_) AllT.nil))
    · go_simp
      have HSt := Lib.hid (StAt.made wk A.length)
      have Hgs0 := Lib.hid hszk
      have hgk2 : Grew wk (wk.alloc (.cells (Array.replicate A.length (.int .i64 0)) 3)) := (Grew.refl wk).alloc _
      obtain ⟨wk, hwm⟩ : ∃ wm, wk.alloc (.cells (Array.replicate A.length (.int .i64 0)) 3) = wm := ⟨_, rfl⟩
      rw [hwm] at hgk2 HSt ⊢
      have Hcur := Lib.hid (Hcur.out.trans hgk2)
      have b0 := hgk2.cellEq b0
      have b1 := hgk2.cellEq b1
      have b2 := hgk2.cellEq b2
      have hszk := Hcur.out.below.size
      clear hwm hgk2
      refine hK.out _ _ ?_ (fun hH => ?_)
      · (first | (simp [go_sem, ↓IntWalk.iteOmega, *]; done) | go_keep)
      clear hK K
      (try simp only [Act.put, List.setIfInBounds_toArray, List.set_cons_zero, List.set_cons_succ])
      refine wpAnyT_all (rs := [5]) (by kernel_rfl) (by simp) (AllT.consL (i := 5) rfl (fun K hK => ?_) AllT.nil)
      go_simp
      go_wp2_with (go_at_call 25; apply Calls.mono; (with_reducible exact H0.out _ (HwB0.out.trans (Hcur.out.trans (by (repeat (first | exact Grew.refl _ | refine Grew.over ?_ _ | refine Grew.alloc ?_ _ | refine Grew.drew ?_ | refine Grew.drewN ?_ _)))))); rintro e wk ⟨rfl, hgk⟩; have hgk2 := Grew.trans (by (repeat (first | exact Grew.refl _ | refine Grew.over ?_ _ | refine Grew.alloc ?_ _ | refine Grew.drew ?_ | refine Grew.drewN ?_ _))) hgk; have HSt := Lib.hid (HSt.out.grew hgk2); have Hcur := Lib.hid (Hcur.out.trans hgk2); have b0 := hgk2.cellEq b0; have b1 := hgk2.cellEq b1; have b2 := hgk2.cellEq b2; have hszk := Hcur.out.below.size; clear hgk hgk2)
      refine hK.out _ _ ?_ (fun hH => ?_)
      · (first | (simp [go_sem, ↓IntWalk.iteOmega, *]; done) | go_keep)
      clear hK K
      (try simp only [Act.put, List.setIfInBounds_toArray, List.set_cons_zero, List.set_cons_succ])
      refine wpAnyT_all (rs := [7]) (by kernel_rfl) (by simp) (AllT.consL (i := 7) rfl (fun K hK => ?_) AllT.nil)
      go_simp
      go_wp2_with (go_at_call 26; apply Calls.mono; (with_reducible exact H2.out _ (HwB0.out.trans (Hcur.out.trans (by (repeat (first | exact Grew.refl _ | refine Grew.over ?_ _ | refine Grew.alloc ?_ _ | refine Grew.drew ?_ | refine Grew.drewN ?_ _)))))); rintro e wk ⟨rfl, hgk⟩; have hgk2 := Grew.trans (by (repeat (first | exact Grew.refl _ | refine Grew.over ?_ _ | refine Grew.alloc ?_ _ | refine Grew.drew ?_ | refine Grew.drewN ?_ _))) hgk; have HSt := Lib.hid (HSt.out.grew hgk2); have Hcur := Lib.hid (Hcur.out.trans hgk2); have b0 := hgk2.cellEq b0; have b1 := hgk2.cellEq b1; have b2 := hgk2.cellEq b2; have hszk := Hcur.out.below.size; clear hgk hgk2)
      refine hK.out _ _ ?_ (fun hH => ?_)
      · (first | (simp [go_sem, ↓IntWalk.iteOmega, *]; done) | go_keep)
      clear hK K
      (try simp only [Act.put, List.setIfInBounds_toArray, List.set_cons_zero, List.set_cons_succ])
      refine wpAnyT_all (rs := [9]) (by kernel_rfl) (by simp) (AllT.consL (i := 9) rfl (fun K hK => ?_) AllT.nil)
      go_simp
      go_wp2_with (go_at_call 25; apply Calls.mono; (with_reducible exact H1.out _ (HwB0.out.trans (Hcur.out.trans (by (repeat (first | exact Grew.refl _ | refine Grew.over ?_ _ | refine Grew.alloc ?_ _ | refine Grew.drew ?_ | refine Grew.drewN ?_ _)))))); rintro e wk ⟨rfl, hgk⟩; have hgk2 := Grew.trans (by (repeat (first | exact Grew.refl _ | refine Grew.over ?_ _ | refine Grew.alloc ?_ _ | refine Grew.drew ?_ | refine Grew.drewN ?_ _))) hgk; have HSt := Lib.hid (HSt.out.grew hgk2); have Hcur := Lib.hid (Hcur.out.trans hgk2); have b0 := hgk2.cellEq b0; have b1 := hgk2.cellEq b1; have b2 := hgk2.cellEq b2; have hszk := Hcur.out.below.size; clear hgk hgk2)
      refine hK.out _ _ ?_ (fun hH => ?_)
      · (first | (simp [go_sem, ↓IntWalk.iteOmega, *]; done) | go_keep)
      clear hK K
      (try simp only [Act.put, List.setIfInBounds_toArray, List.set_cons_zero, List.set_cons_succ])
      refine wpAnyT_all (rs := [10]) (by kernel_rfl) (by simp) (AllT.consL (i := 10) rfl (fun K hK => ?_) AllT.nil)
      go_simp
      have HCt := Lib.hid (CtAt.made wk Ha.out.1 Ha.out.2.2 Ha.out.2.1)
      have Hgc0 := Lib.hid hszk
      have Hne := Lib.hid (Nat.ne_of_gt HSt.out.1)
      have hgk2 : Grew wk (wk.alloc (.cells #[.int .i64 t0, .int .i64 t2, .int .i64 t1] 3)) := (Grew.refl wk).alloc _
      have HSt := Lib.hid (HSt.out.grew hgk2)
      obtain ⟨wk, hwm⟩ : ∃ wm, wk.alloc (.cells #[.int .i64 t0, .int .i64 t2, .int .i64 t1] 3) = wm := ⟨_, rfl⟩
      rw [hwm] at hgk2 HSt HCt ⊢
      have Hcur := Lib.hid (Hcur.out.trans hgk2)
      have b0 := hgk2.cellEq b0
      have b1 := hgk2.cellEq b1
      have b2 := hgk2.cellEq b2
      have hszk := Hcur.out.below.size
      clear hwm hgk2
      refine hK.out _ _ ?_ (fun hH => ?_)
      · (first | (simp [go_sem, ↓IntWalk.iteOmega, *]; done) | go_keep)
      clear hK K
      (try simp only [Act.put, List.setIfInBounds_toArray, List.set_cons_zero, List.set_cons_succ])
      refine wpAnyT_all (rs := [11]) (by kernel_rfl) (by simp) (AllT.consL (i := 11) rfl (fun K hK => ?_) AllT.nil)
      go_simp
      refine hK.out _ _ ?_ (fun hH => ?_)
      · (first | (simp [go_sem, ↓IntWalk.iteOmega, *]; done) | go_keep)
      clear hK K
      (try simp only [Act.put, List.setIfInBounds_toArray, List.set_cons_zero, List.set_cons_succ])
      refine wpAnyT_all (rs := [12]) (by kernel_rfl) (by simp) (AllT.consL (i := 12) rfl (fun K hK => ?_) AllT.nil)
      go_simp
      refine hK.out _ _ ?_ (fun hH => ?_)
      · (first | (simp [go_sem, ↓IntWalk.iteOmega, *]; done) | go_keep)
      clear hK K
      (try simp only [Act.put, List.setIfInBounds_toArray, List.set_cons_zero, List.set_cons_succ])
      refine wpAnyT_all (rs := [13]) (by kernel_rfl) (by simp) (AllT.consL (i := 13) rfl (fun K hK => ?_) AllT.nil)
      go_simp
      refine hK.out _ _ ?_ (fun hH => ?_)
      · (first | (simp [go_sem, ↓IntWalk.iteOmega, *]; done) | go_keep)
      clear hK K
      (try simp only [Act.put, List.setIfInBounds_toArray, List.set_cons_zero, List.set_cons_succ])
      refine wpAnyT_done (by kernel_rfl) ?_ _
      go_wp2_with fail
      go_meet
      exact ⟨_, _, _, rfl, Hcur.out.trans (by (repeat (first | exact Grew.refl _ | refine Grew.over ?_ _ | refine Grew.alloc ?_ _ | refine Grew.drew ?_ | refine Grew.drewN ?_ _))), hszk, Hgs0.out, peel_mk HSt.out HCt.out Hne.out (by simp), fun ad had => by cases had; exact Hgc0.out⟩
    · go_simp
      go_wp2_with (go_at_call 25; apply Calls.mono; (with_reducible exact H0.out _ (HwB0.out.trans (Hcur.out.trans (by (repeat (first | exact Grew.refl _ | refine Grew.over ?_ _ | refine Grew.alloc ?_ _ | refine Grew.drew ?_ | refine Grew.drewN ?_ _)))))); rintro e wk ⟨rfl, hgk⟩; have hgk2 := Grew.trans (by (repeat (first | exact Grew.refl _ | refine Grew.over ?_ _ | refine Grew.alloc ?_ _ | refine Grew.drew ?_ | refine Grew.drewN ?_ _))) hgk; have Hcur := Lib.hid (Hcur.out.trans hgk2); have b0 := hgk2.cellEq b0; have b1 := hgk2.cellEq b1; have b2 := hgk2.cellEq b2; have hszk := Hcur.out.below.size; clear hgk hgk2)
      refine hK.out _ _ ?_ (fun hH => ?_)
      · (first | (simp [go_sem, ↓IntWalk.iteOmega, *]; done) | go_keep)
      clear hK K
      (try simp only [Act.put, List.setIfInBounds_toArray, List.set_cons_zero, List.set_cons_succ])
      refine wpAnyT_all (rs := [3, 7]) (by kernel_rfl) (by simp) (AllT.consL (i := 3) rfl (fun K hK => ?_) (AllT.consL (i := 7) rfl (fun K hK => ?_) AllT.nil))
      · go_simp
        have HSt := Lib.hid (StAt.made wk A.length)
        have Hgs0 := Lib.hid hszk
        have hgk2 : Grew wk (wk.alloc (.cells (Array.replicate A.length (.int .i64 0)) 3)) := (Grew.refl wk).alloc _
        obtain ⟨wk, hwm⟩ : ∃ wm, wk.alloc (.cells (Array.replicate A.length (.int .i64 0)) 3) = wm := ⟨_, rfl⟩
        rw [hwm] at hgk2 HSt ⊢
        have Hcur := Lib.hid (Hcur.out.trans hgk2)
        have b0 := hgk2.cellEq b0
        have b1 := hgk2.cellEq b1
        have b2 := hgk2.cellEq b2
        have hszk := Hcur.out.below.size
        clear hwm hgk2
        refine hK.out _ _ ?_ (fun hH => ?_)
        · (first | (simp [go_sem, ↓IntWalk.iteOmega, *]; done) | go_keep)
        clear hK K
        (try simp only [Act.put, List.setIfInBounds_toArray, List.set_cons_zero, List.set_cons_succ])
        refine wpAnyT_all (rs := [7]) (by kernel_rfl) (by simp) (AllT.consL (i := 7) rfl (fun K hK => ?_) AllT.nil)
        go_simp
        go_wp2_with (go_at_call 26; apply Calls.mono; (with_reducible exact H2.out _ (HwB0.out.trans (Hcur.out.trans (by (repeat (first | exact Grew.refl _ | refine Grew.over ?_ _ | refine Grew.alloc ?_ _ | refine Grew.drew ?_ | refine Grew.drewN ?_ _)))))); rintro e wk ⟨rfl, hgk⟩; have hgk2 := Grew.trans (by (repeat (first | exact Grew.refl _ | refine Grew.over ?_ _ | refine Grew.alloc ?_ _ | refine Grew.drew ?_ | refine Grew.drewN ?_ _))) hgk; have HSt := Lib.hid (HSt.out.grew hgk2); have Hcur := Lib.hid (Hcur.out.trans hgk2); have b0 := hgk2.cellEq b0; have b1 := hgk2.cellEq b1; have b2 := hgk2.cellEq b2; have hszk := Hcur.out.below.size; clear hgk hgk2)
        refine hK.out _ _ ?_ (fun hH => ?_)
        · (first | (simp [go_sem, ↓IntWalk.iteOmega, *]; done) | go_keep)
        clear hK K
        (try simp only [Act.put, List.setIfInBounds_toArray, List.set_cons_zero, List.set_cons_succ])
        refine wpAnyT_all (rs := [9]) (by kernel_rfl) (by simp) (AllT.consL (i := 9) rfl (fun K hK => ?_) AllT.nil)
        go_simp
        go_wp2_with (go_at_call 25; apply Calls.mono; (with_reducible exact H1.out _ (HwB0.out.trans (Hcur.out.trans (by (repeat (first | exact Grew.refl _ | refine Grew.over ?_ _ | refine Grew.alloc ?_ _ | refine Grew.drew ?_ | refine Grew.drewN ?_ _)))))); rintro e wk ⟨rfl, hgk⟩; have hgk2 := Grew.trans (by (repeat (first | exact Grew.refl _ | refine Grew.over ?_ _ | refine Grew.alloc ?_ _ | refine Grew.drew ?_ | refine Grew.drewN ?_ _))) hgk; have HSt := Lib.hid (HSt.out.grew hgk2); have Hcur := Lib.hid (Hcur.out.trans hgk2); have b0 := hgk2.cellEq b0; have b1 := hgk2.cellEq b1; have b2 := hgk2.cellEq b2; have hszk := Hcur.out.below.size; clear hgk hgk2)
        refine hK.out _ _ ?_ (fun hH => ?_)
        · (first | (simp [go_sem, ↓IntWalk.iteOmega, *]; done) | go_keep)
        clear hK K
        (try simp only [Act.put, List.setIfInBounds_toArray, List.set_cons_zero, List.set_cons_succ])
        refine wpAnyT_all (rs := [10]) (by kernel_rfl) (by simp) (AllT.consL (i := 10) rfl (fun K hK => ?_) AllT.nil)
        go_simp
        have HCt := Lib.hid (CtAt.made wk Ha.out.1 Ha.out.2.2 Ha.out.2.1)
        have Hgc0 := Lib.hid hszk
        have Hne := Lib.hid (Nat.ne_of_gt HSt.out.1)
        have hgk2 : Grew wk (wk.alloc (.cells #[.int .i64 t0, .int .i64 t2, .int .i64 t1] 3)) := (Grew.refl wk).alloc _
        have HSt := Lib.hid (HSt.out.grew hgk2)
        obtain ⟨wk, hwm⟩ : ∃ wm, wk.alloc (.cells #[.int .i64 t0, .int .i64 t2, .int .i64 t1] 3) = wm := ⟨_, rfl⟩
        rw [hwm] at hgk2 HSt HCt ⊢
        have Hcur := Lib.hid (Hcur.out.trans hgk2)
        have b0 := hgk2.cellEq b0
        have b1 := hgk2.cellEq b1
        have b2 := hgk2.cellEq b2
        have hszk := Hcur.out.below.size
        clear hwm hgk2
        refine hK.out _ _ ?_ (fun hH => ?_)
        · (first | (simp [go_sem, ↓IntWalk.iteOmega, *]; done) | go_keep)
        clear hK K
        (try simp only [Act.put, List.setIfInBounds_toArray, List.set_cons_zero, List.set_cons_succ])
        refine wpAnyT_all (rs := [11]) (by kernel_rfl) (by simp) (AllT.consL (i := 11) rfl (fun K hK => ?_) AllT.nil)
        go_simp
        refine hK.out _ _ ?_ (fun hH => ?_)
        · (first | (simp [go_sem, ↓IntWalk.iteOmega, *]; done) | go_keep)
        clear hK K
        (try simp only [Act.put, List.setIfInBounds_toArray, List.set_cons_zero, List.set_cons_succ])
        refine wpAnyT_all (rs := [12]) (by kernel_rfl) (by simp) (AllT.consL (i := 12) rfl (fun K hK => ?_) AllT.nil)
        go_simp
        refine hK.out _ _ ?_ (fun hH => ?_)
        · (first | (simp [go_sem, ↓IntWalk.iteOmega, *]; done) | go_keep)
        clear hK K
        (try simp only [Act.put, List.setIfInBounds_toArray, List.set_cons_zero, List.set_cons_succ])
        refine wpAnyT_all (rs := [13]) (by kernel_rfl) (by simp) (AllT.consL (i := 13) rfl (fun K hK => ?_) AllT.nil)
        go_simp
        refine hK.out _ _ ?_ (fun hH => ?_)
        · (first | (simp [go_sem, ↓IntWalk.iteOmega, *]; done) | go_keep)
        clear hK K
        (try simp only [Act.put, List.setIfInBounds_toArray, List.set_cons_zero, List.set_cons_succ])
        refine wpAnyT_done (by kernel_rfl) ?_ _
        go_wp2_with fail
        go_meet
        exact ⟨_, _, _, rfl, Hcur.out.trans (by (repeat (first | exact Grew.refl _ | refine Grew.over ?_ _ | refine Grew.alloc ?_ _ | refine Grew.drew ?_ | refine Grew.drewN ?_ _))), hszk, Hgs0.out, peel_mk HSt.out HCt.out Hne.out (by simp), fun ad had => by cases had; exact Hgc0.out⟩
      · go_simp
        go_wp2_with (go_at_call 26; apply Calls.mono; (with_reducible exact H2.out _ (HwB0.out.trans (Hcur.out.trans (by (repeat (first | exact Grew.refl _ | refine Grew.over ?_ _ | refine Grew.alloc ?_ _ | refine Grew.drew ?_ | refine Grew.drewN ?_ _)))))); rintro e wk ⟨rfl, hgk⟩; have hgk2 := Grew.trans (by (repeat (first | exact Grew.refl _ | refine Grew.over ?_ _ | refine Grew.alloc ?_ _ | refine Grew.drew ?_ | refine Grew.drewN ?_ _))) hgk; have Hcur := Lib.hid (Hcur.out.trans hgk2); have b0 := hgk2.cellEq b0; have b1 := hgk2.cellEq b1; have b2 := hgk2.cellEq b2; have hszk := Hcur.out.below.size; clear hgk hgk2)
        refine hK.out _ _ ?_ (fun hH => ?_)
        · (first | (simp [go_sem, ↓IntWalk.iteOmega, *]; done) | go_keep)
        clear hK K
        (try simp only [Act.put, List.setIfInBounds_toArray, List.set_cons_zero, List.set_cons_succ])
        refine wpAnyT_all (rs := [3, 9]) (by kernel_rfl) (by simp) (AllT.consL (i := 3) rfl (fun K hK => ?_) (AllT.consL (i := 9) rfl (fun K hK => ?_) AllT.nil))
        · go_simp
          have HSt := Lib.hid (StAt.made wk A.length)
          have Hgs0 := Lib.hid hszk
          have hgk2 : Grew wk (wk.alloc (.cells (Array.replicate A.length (.int .i64 0)) 3)) := (Grew.refl wk).alloc _
          obtain ⟨wk, hwm⟩ : ∃ wm, wk.alloc (.cells (Array.replicate A.length (.int .i64 0)) 3) = wm := ⟨_, rfl⟩
          rw [hwm] at hgk2 HSt ⊢
          have Hcur := Lib.hid (Hcur.out.trans hgk2)
          have b0 := hgk2.cellEq b0
          have b1 := hgk2.cellEq b1
          have b2 := hgk2.cellEq b2
          have hszk := Hcur.out.below.size
          clear hwm hgk2
          refine hK.out _ _ ?_ (fun hH => ?_)
          · (first | (simp [go_sem, ↓IntWalk.iteOmega, *]; done) | go_keep)
          clear hK K
          (try simp only [Act.put, List.setIfInBounds_toArray, List.set_cons_zero, List.set_cons_succ])
          refine wpAnyT_all (rs := [9]) (by kernel_rfl) (by simp) (AllT.consL (i := 9) rfl (fun K hK => ?_) AllT.nil)
          go_simp
          go_wp2_with (go_at_call 25; apply Calls.mono; (with_reducible exact H1.out _ (HwB0.out.trans (Hcur.out.trans (by (repeat (first | exact Grew.refl _ | refine Grew.over ?_ _ | refine Grew.alloc ?_ _ | refine Grew.drew ?_ | refine Grew.drewN ?_ _)))))); rintro e wk ⟨rfl, hgk⟩; have hgk2 := Grew.trans (by (repeat (first | exact Grew.refl _ | refine Grew.over ?_ _ | refine Grew.alloc ?_ _ | refine Grew.drew ?_ | refine Grew.drewN ?_ _))) hgk; have HSt := Lib.hid (HSt.out.grew hgk2); have Hcur := Lib.hid (Hcur.out.trans hgk2); have b0 := hgk2.cellEq b0; have b1 := hgk2.cellEq b1; have b2 := hgk2.cellEq b2; have hszk := Hcur.out.below.size; clear hgk hgk2)
          refine hK.out _ _ ?_ (fun hH => ?_)
          · (first | (simp [go_sem, ↓IntWalk.iteOmega, *]; done) | go_keep)
          clear hK K
          (try simp only [Act.put, List.setIfInBounds_toArray, List.set_cons_zero, List.set_cons_succ])
          refine wpAnyT_all (rs := [10]) (by kernel_rfl) (by simp) (AllT.consL (i := 10) rfl (fun K hK => ?_) AllT.nil)
          go_simp
          have HCt := Lib.hid (CtAt.made wk Ha.out.1 Ha.out.2.2 Ha.out.2.1)
          have Hgc0 := Lib.hid hszk
          have Hne := Lib.hid (Nat.ne_of_gt HSt.out.1)
          have hgk2 : Grew wk (wk.alloc (.cells #[.int .i64 t0, .int .i64 t2, .int .i64 t1] 3)) := (Grew.refl wk).alloc _
          have HSt := Lib.hid (HSt.out.grew hgk2)
          obtain ⟨wk, hwm⟩ : ∃ wm, wk.alloc (.cells #[.int .i64 t0, .int .i64 t2, .int .i64 t1] 3) = wm := ⟨_, rfl⟩
          rw [hwm] at hgk2 HSt HCt ⊢
          have Hcur := Lib.hid (Hcur.out.trans hgk2)
          have b0 := hgk2.cellEq b0
          have b1 := hgk2.cellEq b1
          have b2 := hgk2.cellEq b2
          have hszk := Hcur.out.below.size
          clear hwm hgk2
          refine hK.out _ _ ?_ (fun hH => ?_)
          · (first | (simp [go_sem, ↓IntWalk.iteOmega, *]; done) | go_keep)
          clear hK K
          (try simp only [Act.put, List.setIfInBounds_toArray, List.set_cons_zero, List.set_cons_succ])
          refine wpAnyT_all (rs := [11]) (by kernel_rfl) (by simp) (AllT.consL (i := 11) rfl (fun K hK => ?_) AllT.nil)
          go_simp
          refine hK.out _ _ ?_ (fun hH => ?_)
          · (first | (simp [go_sem, ↓IntWalk.iteOmega, *]; done) | go_keep)
          clear hK K
          (try simp only [Act.put, List.setIfInBounds_toArray, List.set_cons_zero, List.set_cons_succ])
          refine wpAnyT_all (rs := [12]) (by kernel_rfl) (by simp) (AllT.consL (i := 12) rfl (fun K hK => ?_) AllT.nil)
          go_simp
          refine hK.out _ _ ?_ (fun hH => ?_)
          · (first | (simp [go_sem, ↓IntWalk.iteOmega, *]; done) | go_keep)
          clear hK K
          (try simp only [Act.put, List.setIfInBounds_toArray, List.set_cons_zero, List.set_cons_succ])
          refine wpAnyT_all (rs := [13]) (by kernel_rfl) (by simp) (AllT.consL (i := 13) rfl (fun K hK => ?_) AllT.nil)
          go_simp
          refine hK.out _ _ ?_ (fun hH => ?_)
          · (first | (simp [go_sem, ↓IntWalk.iteOmega, *]; done) | go_keep)
          clear hK K
          (try simp only [Act.put, List.setIfInBounds_toArray, List.set_cons_zero, List.set_cons_succ])
          refine wpAnyT_done (by kernel_rfl) ?_ _
          go_wp2_with fail
          go_meet
          exact ⟨_, _, _, rfl, Hcur.out.trans (by (repeat (first | exact Grew.refl _ | refine Grew.over ?_ _ | refine Grew.alloc ?_ _ | refine Grew.drew ?_ | refine Grew.drewN ?_ _))), hszk, Hgs0.out, peel_mk HSt.out HCt.out Hne.out (by simp), fun ad had => by cases had; exact Hgc0.out⟩
        · go_simp
          go_wp2_with (go_at_call 25; apply Calls.mono; (with_reducible exact H1.out _ (HwB0.out.trans (Hcur.out.trans (by (repeat (first | exact Grew.refl _ | refine Grew.over ?_ _ | refine Grew.alloc ?_ _ | refine Grew.drew ?_ | refine Grew.drewN ?_ _)))))); rintro e wk ⟨rfl, hgk⟩; have hgk2 := Grew.trans (by (repeat (first | exact Grew.refl _ | refine Grew.over ?_ _ | refine Grew.alloc ?_ _ | refine Grew.drew ?_ | refine Grew.drewN ?_ _))) hgk; have Hcur := Lib.hid (Hcur.out.trans hgk2); have b0 := hgk2.cellEq b0; have b1 := hgk2.cellEq b1; have b2 := hgk2.cellEq b2; have hszk := Hcur.out.below.size; clear hgk hgk2)
          refine hK.out _ _ ?_ (fun hH => ?_)
          · (first | (simp [go_sem, ↓IntWalk.iteOmega, *]; done) | go_keep)
          clear hK K
          (try simp only [Act.put, List.setIfInBounds_toArray, List.set_cons_zero, List.set_cons_succ])
          refine wpAnyT_all (rs := [3, 10]) (by kernel_rfl) (by simp) (AllT.consL (i := 3) rfl (fun K hK => ?_) (AllT.consL (i := 10) rfl (fun K hK => ?_) AllT.nil))
          · go_simp
            have HSt := Lib.hid (StAt.made wk A.length)
            have Hgs0 := Lib.hid hszk
            have hgk2 : Grew wk (wk.alloc (.cells (Array.replicate A.length (.int .i64 0)) 3)) := (Grew.refl wk).alloc _
            obtain ⟨wk, hwm⟩ : ∃ wm, wk.alloc (.cells (Array.replicate A.length (.int .i64 0)) 3) = wm := ⟨_, rfl⟩
            rw [hwm] at hgk2 HSt ⊢
            have Hcur := Lib.hid (Hcur.out.trans hgk2)
            have b0 := hgk2.cellEq b0
            have b1 := hgk2.cellEq b1
            have b2 := hgk2.cellEq b2
            have hszk := Hcur.out.below.size
            clear hwm hgk2
            refine hK.out _ _ ?_ (fun hH => ?_)
            · (first | (simp [go_sem, ↓IntWalk.iteOmega, *]; done) | go_keep)
            clear hK K
            (try simp only [Act.put, List.setIfInBounds_toArray, List.set_cons_zero, List.set_cons_succ])
            refine wpAnyT_all (rs := [10]) (by kernel_rfl) (by simp) (AllT.consL (i := 10) rfl (fun K hK => ?_) AllT.nil)
            go_simp
            have HCt := Lib.hid (CtAt.made wk Ha.out.1 Ha.out.2.2 Ha.out.2.1)
            have Hgc0 := Lib.hid hszk
            have Hne := Lib.hid (Nat.ne_of_gt HSt.out.1)
            have hgk2 : Grew wk (wk.alloc (.cells #[.int .i64 t0, .int .i64 t2, .int .i64 t1] 3)) := (Grew.refl wk).alloc _
            have HSt := Lib.hid (HSt.out.grew hgk2)
            obtain ⟨wk, hwm⟩ : ∃ wm, wk.alloc (.cells #[.int .i64 t0, .int .i64 t2, .int .i64 t1] 3) = wm := ⟨_, rfl⟩
            rw [hwm] at hgk2 HSt HCt ⊢
            have Hcur := Lib.hid (Hcur.out.trans hgk2)
            have b0 := hgk2.cellEq b0
            have b1 := hgk2.cellEq b1
            have b2 := hgk2.cellEq b2
            have hszk := Hcur.out.below.size
            clear hwm hgk2
            refine hK.out _ _ ?_ (fun hH => ?_)
            · (first | (simp [go_sem, ↓IntWalk.iteOmega, *]; done) | go_keep)
            clear hK K
            (try simp only [Act.put, List.setIfInBounds_toArray, List.set_cons_zero, List.set_cons_succ])
            refine wpAnyT_all (rs := [11]) (by kernel_rfl) (by simp) (AllT.consL (i := 11) rfl (fun K hK => ?_) AllT.nil)
            go_simp
            refine hK.out _ _ ?_ (fun hH => ?_)
            · (first | (simp [go_sem, ↓IntWalk.iteOmega, *]; done) | go_keep)
            clear hK K
            (try simp only [Act.put, List.setIfInBounds_toArray, List.set_cons_zero, List.set_cons_succ])
            refine wpAnyT_all (rs := [12]) (by kernel_rfl) (by simp) (AllT.consL (i := 12) rfl (fun K hK => ?_) AllT.nil)
            go_simp
            refine hK.out _ _ ?_ (fun hH => ?_)
            · (first | (simp [go_sem, ↓IntWalk.iteOmega, *]; done) | go_keep)
            clear hK K
            (try simp only [Act.put, List.setIfInBounds_toArray, List.set_cons_zero, List.set_cons_succ])
            refine wpAnyT_all (rs := [13]) (by kernel_rfl) (by simp) (AllT.consL (i := 13) rfl (fun K hK => ?_) AllT.nil)
            go_simp
            refine hK.out _ _ ?_ (fun hH => ?_)
            · (first | (simp [go_sem, ↓IntWalk.iteOmega, *]; done) | go_keep)
            clear hK K
            (try simp only [Act.put, List.setIfInBounds_toArray, List.set_cons_zero, List.set_cons_succ])
            refine wpAnyT_done (by kernel_rfl) ?_ _
            go_wp2_with fail
            go_meet
            exact ⟨_, _, _, rfl, Hcur.out.trans (by (repeat (first | exact Grew.refl _ | refine Grew.over ?_ _ | refine Grew.alloc ?_ _ | refine Grew.drew ?_ | refine Grew.drewN ?_ _))), hszk, Hgs0.out, peel_mk HSt.out HCt.out Hne.out (by simp), fun ad had => by cases had; exact Hgc0.out⟩
          · go_simp
            have HCt := Lib.hid (CtAt.made wk Ha.out.1 Ha.out.2.2 Ha.out.2.1)
            have Hgc0 := Lib.hid hszk
            have hgk2 : Grew wk (wk.alloc (.cells #[.int .i64 t0, .int .i64 t2, .int .i64 t1] 3)) := (Grew.refl wk).alloc _
            obtain ⟨wk, hwm⟩ : ∃ wm, wk.alloc (.cells #[.int .i64 t0, .int .i64 t2, .int .i64 t1] 3) = wm := ⟨_, rfl⟩
            rw [hwm] at hgk2 HCt ⊢
            have Hcur := Lib.hid (Hcur.out.trans hgk2)
            have b0 := hgk2.cellEq b0
            have b1 := hgk2.cellEq b1
            have b2 := hgk2.cellEq b2
            have hszk := Hcur.out.below.size
            clear hwm hgk2
            refine hK.out _ _ ?_ (fun hH => ?_)
            · (first | (simp [go_sem, ↓IntWalk.iteOmega, *]; done) | go_keep)
            clear hK K
            (try simp only [Act.put, List.setIfInBounds_toArray, List.set_cons_zero, List.set_cons_succ])
            refine wpAnyT_all (rs := [3]) (by kernel_rfl) (by simp) (AllT.consL (i := 3) rfl (fun K hK => ?_) AllT.nil)
            go_simp
            have HSt := Lib.hid (StAt.made wk A.length)
            have Hgs0 := Lib.hid hszk
            have Hne := Lib.hid (Nat.ne_of_lt HCt.out.1)
            have hgk2 : Grew wk (wk.alloc (.cells (Array.replicate A.length (.int .i64 0)) 3)) := (Grew.refl wk).alloc _
            have HCt := Lib.hid (HCt.out.grew hgk2)
            obtain ⟨wk, hwm⟩ : ∃ wm, wk.alloc (.cells (Array.replicate A.length (.int .i64 0)) 3) = wm := ⟨_, rfl⟩
            rw [hwm] at hgk2 HSt HCt ⊢
            have Hcur := Lib.hid (Hcur.out.trans hgk2)
            have b0 := hgk2.cellEq b0
            have b1 := hgk2.cellEq b1
            have b2 := hgk2.cellEq b2
            have hszk := Hcur.out.below.size
            clear hwm hgk2
            refine hK.out _ _ ?_ (fun hH => ?_)
            · (first | (simp [go_sem, ↓IntWalk.iteOmega, *]; done) | go_keep)
            clear hK K
            (try simp only [Act.put, List.setIfInBounds_toArray, List.set_cons_zero, List.set_cons_succ])
            refine wpAnyT_all (rs := [11]) (by kernel_rfl) (by simp) (AllT.consL (i := 11) rfl (fun K hK => ?_) AllT.nil)
            go_simp
            refine hK.out _ _ ?_ (fun hH => ?_)
            · (first | (simp [go_sem, ↓IntWalk.iteOmega, *]; done) | go_keep)
            clear hK K
            (try simp only [Act.put, List.setIfInBounds_toArray, List.set_cons_zero, List.set_cons_succ])
            refine wpAnyT_all (rs := [12]) (by kernel_rfl) (by simp) (AllT.consL (i := 12) rfl (fun K hK => ?_) AllT.nil)
            go_simp
            refine hK.out _ _ ?_ (fun hH => ?_)
            · (first | (simp [go_sem, ↓IntWalk.iteOmega, *]; done) | go_keep)
            clear hK K
            (try simp only [Act.put, List.setIfInBounds_toArray, List.set_cons_zero, List.set_cons_succ])
            refine wpAnyT_all (rs := [13]) (by kernel_rfl) (by simp) (AllT.consL (i := 13) rfl (fun K hK => ?_) AllT.nil)
            go_simp
            refine hK.out _ _ ?_ (fun hH => ?_)
            · (first | (simp [go_sem, ↓IntWalk.iteOmega, *]; done) | go_keep)
            clear hK K
            (try simp only [Act.put, List.setIfInBounds_toArray, List.set_cons_zero, List.set_cons_succ])
            refine wpAnyT_done (by kernel_rfl) ?_ _
            go_wp2_with fail
            go_meet
            exact ⟨_, _, _, rfl, Hcur.out.trans (by (repeat (first | exact Grew.refl _ | refine Grew.over ?_ _ | refine Grew.alloc ?_ _ | refine Grew.drew ?_ | refine Grew.drewN ?_ _))), hszk, Hgs0.out, peel_mk HSt.out HCt.out Hne.out (by simp), fun ad had => by cases had; exact Hgc0.out⟩
    --DRO
  case rest =>
    obtain ⟨g, gs, pC, rfl, hgc, hgB, hgsB, hP, hpC⟩ := hcut
    have HP := Lib.hid hP
    have HpC := Lib.hid hpC
    have Hgc := Lib.hid hgc
    have c3 := hP.c3
    have c4 := hP.c4
    have hgne := hP.ne
    have hngg : ¬ g = gs := fun e => hgne e.symm
    have hszc := hgc.below.size
    rw [List.length_replicate] at c3
    obtain ⟨bC, oC, rfl, lC, _⟩ := hP.hC.cells (by simp)
    have nC1 := (hP.nC _ rfl).1
    have nC2 := (hP.nC _ rfl).2
    dsimp only at nC1 nC2
    have HC0 := Lib.hid hP.hC
    have hgl := World.block_lt_of_cell? wc _ hP.c0
    dsimp only at hgl
    have hgsl := hP.hb
    have H3 : Hid (∀ k : Nat, k < 3 → ∃ u : Nat, u < A.length ∧ ge [t0, t2, t1] k = (u : Int)) := Lib.hid (fun k hk => by
      match k, hk with
      | 0, _ => exact ⟨t0.toNat, by omega, by show t0 = _; omega⟩
      | 1, _ => exact ⟨t2.toNat, by omega, by show t2 = _; omega⟩
      | 2, _ => exact ⟨t1.toNat, by omega, by show t1 = _; omega⟩)
    clear hP hpC hgc b0 b1 b2
    go_wp2
    go_loopw [6, 30] (fun _ iv wr => ∃ t : Nat, t ≤ 3 ∧ iv = .int .i64 t ∧ Gr (fun q => q = gs) wc wr ∧ ∀ i, i < A.length → wr.cell? ⟨gs, i, none⟩ = some (.int .i64 (ge (stOut (List.replicate A.length 0) ([t0, t2, t1].take t)) i)) ∧ wr.frozen? ⟨gs, i, none⟩ = false) (fun _ iv _ => 3 - (intOf iv).toNat)
    case atStart =>
      refine ⟨0, Nat.zero_le _, rfl, (Gr.refl _ _).over (by (repeat (first | exact Grew.refl _ | refine Grew.over ?_ _ | refine Grew.alloc ?_ _ | refine Grew.drew ?_ | refine Grew.drewN ?_ _))), fun i hi => ?_⟩
      have h := HP.out.hst i (by simpa using hi)
      exact ⟨(show Grew wc _ by (repeat (first | exact Grew.refl _ | refine Grew.over ?_ _ | refine Grew.alloc ?_ _ | refine Grew.drew ?_ | refine Grew.drewN ?_ _))).cellEq h.1, (show Grew wc _ by (repeat (first | exact Grew.refl _ | refine Grew.over ?_ _ | refine Grew.alloc ?_ _ | refine Grew.drew ?_ | refine Grew.drewN ?_ _))).frozenEq hgsl h.2⟩
    case round =>
      obtain ⟨t, ht, rfl, hgr, hsr⟩ := hrel
      have hszr := hgr.size
      have c3r := hgr.cellEq hngg c3
      have Hgr := Lib.hid hgr
      have Hsr := Lib.hid hsr
      clear hgr hsr
      by_cases ht3 : t < 3
      · obtain ⟨u, hul, hue⟩ := H3.out t ht3
        obtain ⟨b', o', e, hb', hc'⟩ := (HC0.out.gr Hgr.out (fun ad had => by cases had; exact nC2)).cells (by simp)
        cases e
        have e1 := hc' wr (Grew.refl _) t (by simpa using ht3)
        rw [hue] at e1
        obtain ⟨s1, s2⟩ := Hsr.out u hul
        have hl0 : (List.replicate A.length (0 : Int)).length = A.length := List.length_replicate
        have HSn : Hid (stOut (List.replicate A.length 0) ([t0, t2, t1].take (t + 1)) = (stOut (List.replicate A.length 0) ([t0, t2, t1].take t)).set u 1) := Lib.hid (by rw [stOut_take _ (by simpa using ht3), hue, Int.toNat_natCast])
        have Hset := Lib.hid (st_set (gs := gs) (u := u) (x := 1) (fun i (hi : i < (stOut (List.replicate A.length 0) ([t0, t2, t1].take t)).length) => Hsr.out i (by rw [stOut_len, hl0] at hi; exact hi)) (by rw [stOut_len, hl0]; exact hul))
        have hti : (t : Int) < 3 := by omega
        have hui : (u : Int) < (A.length : Int) := by omega
        clear hc' hue hl0
        go_wp2
        go_roundw
        case rel => exact ⟨t + 1, by omega, by go_num, (Hgr.out.setCell rfl _).over (by (repeat (first | exact Grew.refl _ | refine Grew.over ?_ _ | refine Grew.alloc ?_ _ | refine Grew.drew ?_ | refine Grew.drewN ?_ _))), fun i hi => by
          have h := Hset.out i (by rw [stOut_len, List.length_replicate]; exact hi)
          rw [HSn.out]
          exact ⟨(show Grew (wr.setCell ⟨gs, u, none⟩ (.int .i64 1)) _ by (repeat (first | exact Grew.refl _ | refine Grew.over ?_ _ | refine Grew.alloc ?_ _ | refine Grew.drew ?_ | refine Grew.drewN ?_ _))).cellEq h.1, (show Grew (wr.setCell ⟨gs, u, none⟩ (.int .i64 1)) _ by (repeat (first | exact Grew.refl _ | refine Grew.over ?_ _ | refine Grew.alloc ?_ _ | refine Grew.drew ?_ | refine Grew.drewN ?_ _))).frozenEq (by simp; omega) h.2⟩⟩
        case measure => simp [intOf]; omega
      · have hte : t = 3 := by omega
        have hti : ¬ (t : Int) < 3 := by omega
        rw [hte] at Hsr
        clear hte
        have HP2 : Hid (Peel wr g gs A.length pE pA E.length A.length cE cA (stOut (List.replicate A.length 0) [t0, t2, t1]) (some ⟨bC, oC, none⟩) 3 [t0, t2, t1]) := Lib.hid (by
          have hr : (fun q => q = gs) g = False := by simp [hngg]
          have hSr := Hsr.out
          rw [show [t0, t2, t1].take 3 = [t0, t2, t1] from rfl] at hSr
          have hl0 : (stOut (List.replicate A.length 0) [t0, t2, t1]).length = A.length := by rw [stOut_len, List.length_replicate]
          refine ⟨Hgr.out.cellEq hngg HP.out.c0, Hgr.out.cellEq hngg HP.out.c1, Hgr.out.cellEq hngg HP.out.c2, by rw [hl0]; exact c3r, Hgr.out.cellEq hngg HP.out.c4, by rw [Hgr.out.frozen hgl hngg]; exact HP.out.f4, fun i hi => hSr i (by rw [hl0] at hi; exact hi), Nat.lt_of_lt_of_le hgsl hszr, HC0.out.gr Hgr.out (fun ad had => by cases had; exact nC2), by simp, by decide, hgne, fun ad had => by cases had; exact ⟨nC1, nC2⟩⟩)
        have Hgr2 : Hid (Grew wB wr) := Lib.hid (Hgc.out.gr Hgr.out (fun k hk => by rw [hk]; exact hgsB))
        have hsr2 := Hgr2.out.below.size
        have hgl2 : g < wr.heap.size := by omega
        have hgsl2 : gs < wr.heap.size := by omega
        clear Hgr Hsr c3r
        have HpC2 : Hid (∀ ad : Addr, some ⟨bC, oC, none⟩ = some ad → wB.heap.size ≤ ad.block) := HpC
        go_wp2
        obtain ⟨wS, hwS⟩ : ∃ wS, wr = wS := ⟨_, rfl⟩
        rw [hwS] at HP2 Hgr2 hsr2 hgl2 hgsl2 hszr ⊢
        clear hwS
        go_loopw [7] (fun vO wr => ∃ (f : Nat) (st C ord : List Int) (pC : Option Addr) (cC : Nat), Peel wr g gs A.length pE pA E.length A.length cE cA st pC cC C ∧ st.length = A.length ∧ (∀ u ∈ C, 0 ≤ u ∧ u < (A.length : Int)) ∧ C.length ≤ 100 ∧ (∀ u ∈ ord, 0 ≤ u ∧ u < (A.length : Int)) ∧ peelF E A f st C ord = some R ∧ f + ord.length ≤ F ∧ Grew wB wr ∧ wS.heap.size ≤ wr.heap.size ∧
          Owns wr wS.heap.size [⟨vO, 3, 1, ord.length, intVs ord⟩] ∧ (∀ a, pC = some a → vO.ownBlock ≠ some a.block)) (fun vO _ => F - (match vO with | .slice _ n _ => n | _ => 0))
        case atStart =>
          refine ⟨F, _, [t0, t2, t1], [], _, _, HP2.out.grew (by (repeat (first | exact Grew.refl _ | refine Grew.over ?_ _ | refine Grew.alloc ?_ _ | refine Grew.drew ?_ | refine Grew.drewN ?_ _))), by rw [stOut_len, List.length_replicate], fun u hu => ?_, by simp, (fun u hu => by cases hu), Hp.out, by simp, Hgr2.out.trans (by (repeat (first | exact Grew.refl _ | refine Grew.over ?_ _ | refine Grew.alloc ?_ _ | refine Grew.drew ?_ | refine Grew.drewN ?_ _))), by simp, (Owns.nil _ _).none _ _, (fun ad had h => by cases h)⟩
          rcases List.mem_cons.1 hu with rfl | hu
          · exact ⟨a0, a0'⟩
          · rcases List.mem_cons.1 hu with rfl | hu
            · exact ⟨a2, a2'⟩
            · rw [List.mem_singleton.1 hu]; exact ⟨a1, a1'⟩
        case round =>
          obtain ⟨f, st, C, ord, pC2, cC2, hP, hst, hCr, hC1, hord, hpe, hfo, hgB2, hszr2, hO, hne2⟩ := hrel
          clear HP HP2 HC0 HpC HpC2 Hgr2 c3 c4 hszr
          have c4r := hP.c4
          have hgsz := hgB2.below.size
          have HP := Lib.hid hP
          have HO := Lib.hid hO
          have HCr := Lib.hid hCr
          have Hord := Lib.hid hord
          have Hpe := Lib.hid hpe
          have HgB2 := Lib.hid hgB2
          have Hne2 := Lib.hid hne2
          have Hst2 := Lib.hid hst
          have q0 := hgB2.cellEq B0.out
          have q1 := hgB2.cellEq B1.out
          have q2 := hgB2.cellEq B2.out
          have Hgw : Hid (Grew w wr) := Lib.hid (HwB0.out.trans hgB2)
          obtain ⟨pO, cO, rfl⟩ := own_form hO (k := 0) rfl
          clear hP hCr hord hpe hgB2 hO hne2 hst
          by_cases hC2 : 2 < C.length
          · obtain ⟨bK, oK, rfl, lK, cK⟩ := HP.out.hC.cells (by omega)
            have hCi : 2 < (C.length : Int) := by omega
            obtain ⟨f, rfl⟩ : ∃ f', f = f' + 1 := by
              cases f with
              | zero => have := Hpe.out; unfold peelF at this; rw [if_neg (by omega)] at this; cases this
              | succ f => exact ⟨f, rfl⟩
            obtain ⟨pk, hpk⟩ : ∃ pk, pickN E A st C C.length 1 = pk := ⟨_, rfl⟩
            obtain ⟨hpk1, hpk2⟩ := pickN_in (E := E) (A := A) (st := st) C.length (i := 1) (show 1 + 1 < C.length by omega)
            rw [hpk] at hpk1 hpk2
            have Hstep : Hid (goodB E A st C pk = true ∧ peelF E A f (takeS st C (leftL E A st C pk) pk) (takeC C (leftL E A st C pk) pk) (ord ++ [ge C pk]) = some R) := Lib.hid (by
              have := Hpe.out
              unfold peelF at this
              rw [if_neg (by omega)] at this
              simp only [hpk] at this
              split at this
              · rename_i hg; exact ⟨hg, this⟩
              · cases this)
            have Hpk := Lib.hid hpk
            clear hpk
            go_wp2
            obtain ⟨wo, hwo⟩ : ∃ wo, wo = wr := ⟨_, rfl⟩
            subst hwo
            go_loopw [8] (fun vi wq => ∃ i fu : Nat, 1 ≤ i ∧ i + 1 < C.length ∧ vi = .int .i64 i ∧ pickN E A st C C.length 1 = pickN E A st C fu i ∧ C.length ≤ fu + i ∧ Grew wo wq) (fun vi _ => C.length - (intOf vi).toNat)
            case atStart => exact ⟨1, C.length, Nat.le_refl _, by omega, rfl, rfl, by omega, by (repeat (first | exact Grew.refl _ | refine Grew.over ?_ _ | refine Grew.alloc ?_ _ | refine Grew.drew ?_ | refine Grew.drewN ?_ _))⟩
            case round =>
              obtain ⟨i, fu, hi1, hi2, rfl, hpi, hfu, hgq⟩ := hrel
              have hszq := hgq.below.size
              have c4q := hgq.cellEq c4r
              have Hgq := Lib.hid hgq
              obtain ⟨fb, hfb⟩ : ∃ fb, freeB E A st C i = fb := ⟨_, rfl⟩
              have Hfr : Hid (∀ W1, Grew wo W1 → Calls Tryd.prog 27 #[.pointer (some ⟨g, 0, none⟩), .int .i64 i] W1 fun e w' => e = .returned (.bool fb) ∧ Grew W1 w') := Lib.hid (fun W1 h => by
                rw [← hfb]
                exact free_p g gs A.length pE pA E.length A.length cE cA E A st _ cC2 C i W1 (HP.out.grew h) (HRt.out.grew (Hgw.out.trans h)) (HL.out.grew (Hgw.out.trans h)) HV.out (by omega) HCr.out hC1 Hst2.out rfl rfl)
              have hwk : IntKind.i64.wrap ((C.length : Int) - 2) = (C.length : Int) - 2 := IntWalk.i64_in _ ⟨by omega, by omega⟩
              by_cases hlt : i + 2 < C.length
              · have hlti : (i : Int) < (C.length : Int) - 2 := by omega
                cases fb
                case false =>
                  have Hpi : Hid (∃ fu', pickN E A st C C.length 1 = pickN E A st C fu' (i + 1) ∧ C.length ≤ fu' + (i + 1)) := Lib.hid (by
                    cases fu with
                    | zero => exfalso; omega
                    | succ fu => exact ⟨fu, by rw [hpi, pickN_go ⟨hlt, hfb⟩], by omega⟩)
                  clear hpi hfu hgq hfb
                  go_wp2_with ((go_at_call 27; apply Calls.mono; (with_reducible exact Hfr.out _ (Hgq.out.trans (by (repeat (first | exact Grew.refl _ | refine Grew.over ?_ _ | refine Grew.alloc ?_ _ | refine Grew.drew ?_ | refine Grew.drewN ?_ _))))); rintro e w' ⟨rfl, x, rfl⟩))
                  go_roundw
                  case rel =>
                    obtain ⟨fu', h1, h2⟩ := Hpi.out
                    exact ⟨i + 1, fu', by omega, by omega, by go_num, h1, h2, Hgq.out.trans (by (repeat (first | exact Grew.refl _ | refine Grew.over ?_ _ | refine Grew.alloc ?_ _ | refine Grew.drew ?_ | refine Grew.drewN ?_ _)))⟩
                  case measure => simp [intOf]; omega
                case true =>
                  have hx : ¬ (i + 2 < C.length ∧ freeB E A st C i = false) := fun h => by rw [hfb] at h; cases h.2
                  obtain rfl : pk = i := by rw [← Hpk.out, hpi, pickN_stop hx]
                  have hgood := Hstep.out.1
                  unfold goodB at hgood
                  simp only [Bool.and_eq_true, decide_eq_true_iff] at hgood
                  have HGd := Lib.hid hgood
                  have e1 := cK _ Hgq.out pk (by omega)
                  obtain ⟨v, hv⟩ : ∃ v, ge C pk = v := ⟨_, rfl⟩
                  have Hv := Lib.hid hv
                  rw [hv] at e1
                  have hpl : pk < C.length := by omega
                  have hpli : (pk : Int) < (C.length : Int) := by omega
                  have HTk := Lib.hid (fun (W1 : World) (pC3 : Option Addr) (cC3 : Nat) (h : Grew w W1) (hP1 : Peel W1 g gs A.length pE pA E.length A.length cE cA st pC3 cC3 C) => take_p g gs A.length pE pA E.length A.length cE cA E A st pC3 cC3 C (leftL E A st C pk) pk W1 hP1 (HRt.out.grew h) (HL.out.grew h) HV.out (by omega) hpk2 HCr.out hC1 Hst2.out rfl HGd.out.1.1 HGd.out.1.2 rfl rfl)
                  clear hgood hv hpi hx
                  clear hfu hgq hfb
                  go_wp2_with (first
                    | ((go_at_call 27; apply Calls.mono; (with_reducible exact Hfr.out _ (Hgq.out.trans (by (repeat (first | exact Grew.refl _ | refine Grew.over ?_ _ | refine Grew.alloc ?_ _ | refine Grew.drew ?_ | refine Grew.drewN ?_ _))))); rintro e w' ⟨rfl, x, rfl⟩))
                    | (at_builtin; refine wp_append_own2 rfl _ _ 26 rfl 3 1 8 (.int .i64 0) Tryd.underlying26 Tryd.infoInt rfl (by decide) (wS.heap.size) _ 0 _ _ _ (HO.out.grew (Hgq.out.trans (by (repeat (first | exact Grew.refl _ | refine Grew.over ?_ _ | refine Grew.alloc ?_ _ | refine Grew.drew ?_ | refine Grew.drewN ?_ _))))) rfl rfl _ 1 1 rfl [.int .i64 (v)] rfl (fun h => by cases h) (one_news _ (by first | (go_simp; done) | (simp [go_sem, ↓IntWalk.iteOmega, *]; done))) (by simp [Value.oneCell']) (by simp only [maxLen]; omega) (by omega) (by first | rfl | omega | (simp <;> omega)) ?_; intro v1 w1 hO1 hg1 hb1 hv1; have HO1 := Lib.hid hO1; have hs1 := hg1.size; (try simp at hs1); have HgB1 := Lib.hid (Grew.grownBy (w0 := wB) (HgB2.out.trans (Hgq.out.trans (by (repeat (first | exact Grew.refl _ | refine Grew.over ?_ _ | refine Grew.alloc ?_ _ | refine Grew.drew ?_ | refine Grew.drewN ?_ _))))) hg1 (fun k h => by have := hb1 k h; omega)); have HP1 := Lib.hid (app_peel HP.out (Hgq.out.trans (by (repeat (first | exact Grew.refl _ | refine Grew.over ?_ _ | refine Grew.alloc ?_ _ | refine Grew.drew ?_ | refine Grew.drewN ?_ _)))) hg1 (fun h => by have := hb1 _ h; omega) (fun h => by have := hb1 _ h; omega) Hne2.out); have Hv1 := Lib.hid hv1; clear hO1 hg1 hb1 hv1)
                    | (go_at_call 28; apply Calls.mono; (with_reducible exact HTk.out _ _ _ (HwB0.out.trans HgB1.out) HP1.out); rintro e w2 ⟨rfl, hg2, pC3, cC3, hP2, hf2⟩; have HP2 := Lib.hid hP2; have Hf2 := Lib.hid hf2; have hs2 := hg2.size; have HO2 := Lib.hid (HO1.out.gr hg2 (fun k hk1 hk2 hk3 => by rcases hk3 with h | h <;> omega)); have HgB3 := Lib.hid (HgB1.out.gr hg2 (fun k hk => by rcases hk with h | h <;> omega)); clear hP2 hf2 hg2))
                  go_roundw
                  case rel =>
                    refine ⟨f, takeS st C (leftL E A st C pk) pk, takeC C (leftL E A st C pk) pk, ord ++ [v], pC3, cC3, HP2.out.grew (by (repeat (first | exact Grew.refl _ | refine Grew.over ?_ _ | refine Grew.alloc ?_ _ | refine Grew.drew ?_ | refine Grew.drewN ?_ _))), by rw [takeS_len]; exact Hst2.out, fun u hu => ?_, HGd.out.2, fun u hu => ?_, by rw [← Hv.out]; exact Hstep.out.2, by rw [List.length_append]; simp; omega, HgB3.out.trans (by (repeat (first | exact Grew.refl _ | refine Grew.over ?_ _ | refine Grew.alloc ?_ _ | refine Grew.drew ?_ | refine Grew.drewN ?_ _))), by (first | omega | (simp; omega)), ?_, fun ad had he => ?_⟩
                    · rcases takeC_mem hu with hu | hu
                      · exact HCr.out u hu
                      · exact leftL_range HV.out HCr.out (by omega) u hu
                    · rcases List.mem_append.1 hu with hu | hu
                      · exact Hord.out u hu
                      · rw [List.mem_singleton.1 hu, ← Hv.out]; exact HCr.out _ (ge_mem hpl)
                    · rw [intVs_app', List.length_append]
                      exact HO2.out.grew (by (repeat (first | exact Grew.refl _ | refine Grew.over ?_ _ | refine Grew.alloc ?_ _ | refine Grew.drew ?_ | refine Grew.drewN ?_ _)))
                    · have := Hf2.out ad had
                      have := (HO1.out.1 0 _ rfl).lt _ he
                      omega
                  case measure =>
                    obtain ⟨p9, c9, e9⟩ := own_form HO1.out (k := 0) rfl
                    rw [e9]
                    show F - (ord.length + 1) < F - ord.length
                    omega
              · have hlti : ¬ (i : Int) < (C.length : Int) - 2 := by omega
                have hx : ¬ (i + 2 < C.length ∧ freeB E A st C i = false) := fun h => hlt h.1
                obtain rfl : pk = i := by rw [← Hpk.out, hpi, pickN_stop hx]
                have hgood := Hstep.out.1
                unfold goodB at hgood
                simp only [Bool.and_eq_true, decide_eq_true_iff] at hgood
                have HGd := Lib.hid hgood
                have e1 := cK _ Hgq.out pk (by omega)
                obtain ⟨v, hv⟩ : ∃ v, ge C pk = v := ⟨_, rfl⟩
                have Hv := Lib.hid hv
                rw [hv] at e1
                have hpl : pk < C.length := by omega
                have hpli : (pk : Int) < (C.length : Int) := by omega
                have HTk := Lib.hid (fun (W1 : World) (pC3 : Option Addr) (cC3 : Nat) (h : Grew w W1) (hP1 : Peel W1 g gs A.length pE pA E.length A.length cE cA st pC3 cC3 C) => take_p g gs A.length pE pA E.length A.length cE cA E A st pC3 cC3 C (leftL E A st C pk) pk W1 hP1 (HRt.out.grew h) (HL.out.grew h) HV.out (by omega) hpk2 HCr.out hC1 Hst2.out rfl HGd.out.1.1 HGd.out.1.2 rfl rfl)
                clear hgood hv hpi hx
                clear hfu hgq hfb
                go_wp2_with (first
                  | ((go_at_call 27; apply Calls.mono; (with_reducible exact Hfr.out _ (Hgq.out.trans (by (repeat (first | exact Grew.refl _ | refine Grew.over ?_ _ | refine Grew.alloc ?_ _ | refine Grew.drew ?_ | refine Grew.drewN ?_ _))))); rintro e w' ⟨rfl, x, rfl⟩))
                  | (at_builtin; refine wp_append_own2 rfl _ _ 26 rfl 3 1 8 (.int .i64 0) Tryd.underlying26 Tryd.infoInt rfl (by decide) (wS.heap.size) _ 0 _ _ _ (HO.out.grew (Hgq.out.trans (by (repeat (first | exact Grew.refl _ | refine Grew.over ?_ _ | refine Grew.alloc ?_ _ | refine Grew.drew ?_ | refine Grew.drewN ?_ _))))) rfl rfl _ 1 1 rfl [.int .i64 (v)] rfl (fun h => by cases h) (one_news _ (by first | (go_simp; done) | (simp [go_sem, ↓IntWalk.iteOmega, *]; done))) (by simp [Value.oneCell']) (by simp only [maxLen]; omega) (by omega) (by first | rfl | omega | (simp <;> omega)) ?_; intro v1 w1 hO1 hg1 hb1 hv1; have HO1 := Lib.hid hO1; have hs1 := hg1.size; (try simp at hs1); have HgB1 := Lib.hid (Grew.grownBy (w0 := wB) (HgB2.out.trans (Hgq.out.trans (by (repeat (first | exact Grew.refl _ | refine Grew.over ?_ _ | refine Grew.alloc ?_ _ | refine Grew.drew ?_ | refine Grew.drewN ?_ _))))) hg1 (fun k h => by have := hb1 k h; omega)); have HP1 := Lib.hid (app_peel HP.out (Hgq.out.trans (by (repeat (first | exact Grew.refl _ | refine Grew.over ?_ _ | refine Grew.alloc ?_ _ | refine Grew.drew ?_ | refine Grew.drewN ?_ _)))) hg1 (fun h => by have := hb1 _ h; omega) (fun h => by have := hb1 _ h; omega) Hne2.out); have Hv1 := Lib.hid hv1; clear hO1 hg1 hb1 hv1)
                  | (go_at_call 28; apply Calls.mono; (with_reducible exact HTk.out _ _ _ (HwB0.out.trans HgB1.out) HP1.out); rintro e w2 ⟨rfl, hg2, pC3, cC3, hP2, hf2⟩; have HP2 := Lib.hid hP2; have Hf2 := Lib.hid hf2; have hs2 := hg2.size; have HO2 := Lib.hid (HO1.out.gr hg2 (fun k hk1 hk2 hk3 => by rcases hk3 with h | h <;> omega)); have HgB3 := Lib.hid (HgB1.out.gr hg2 (fun k hk => by rcases hk with h | h <;> omega)); clear hP2 hf2 hg2))
                go_roundw
                case rel =>
                  refine ⟨f, takeS st C (leftL E A st C pk) pk, takeC C (leftL E A st C pk) pk, ord ++ [v], pC3, cC3, HP2.out.grew (by (repeat (first | exact Grew.refl _ | refine Grew.over ?_ _ | refine Grew.alloc ?_ _ | refine Grew.drew ?_ | refine Grew.drewN ?_ _))), by rw [takeS_len]; exact Hst2.out, fun u hu => ?_, HGd.out.2, fun u hu => ?_, by rw [← Hv.out]; exact Hstep.out.2, by rw [List.length_append]; simp; omega, HgB3.out.trans (by (repeat (first | exact Grew.refl _ | refine Grew.over ?_ _ | refine Grew.alloc ?_ _ | refine Grew.drew ?_ | refine Grew.drewN ?_ _))), by (first | omega | (simp; omega)), ?_, fun ad had he => ?_⟩
                  · rcases takeC_mem hu with hu | hu
                    · exact HCr.out u hu
                    · exact leftL_range HV.out HCr.out (by omega) u hu
                  · rcases List.mem_append.1 hu with hu | hu
                    · exact Hord.out u hu
                    · rw [List.mem_singleton.1 hu, ← Hv.out]; exact HCr.out _ (ge_mem hpl)
                  · rw [intVs_app', List.length_append]
                    exact HO2.out.grew (by (repeat (first | exact Grew.refl _ | refine Grew.over ?_ _ | refine Grew.alloc ?_ _ | refine Grew.drew ?_ | refine Grew.drewN ?_ _)))
                  · have := Hf2.out ad had
                    have := (HO1.out.1 0 _ rfl).lt _ he
                    omega
                case measure =>
                  obtain ⟨p9, c9, e9⟩ := own_form HO1.out (k := 0) rfl
                  rw [e9]
                  show F - (ord.length + 1) < F - ord.length
                  omega
          · have hCi : ¬ 2 < (C.length : Int) := by omega
            have hRo : R = ord := by
              have := Hpe.out
              unfold peelF at this
              rw [if_pos (by omega)] at this
              exact (Option.some.inj this).symm
            subst hRo
            have c4i := c4r
            have hol : R.length ≤ 90 := by omega
            go_upto_region 16 with fail
            refine wp_region_T (s := 8) (S := fun w' => w'.cell? ⟨w.heap.size, 0, none⟩ = some (.int .i64 A.length) ∧ w'.cell? ⟨w.heap.size, 1, none⟩ = some (.slice pE E.length cE) ∧ w'.cell? ⟨w.heap.size, 2, none⟩ = some (.slice pA A.length cA)) (by kernel_rfl) ⟨by simpa using q0, by simpa using q1, by simpa using q2⟩ (fun hH => ?_)
            refine wpAnyT_takeV (i := 0) (v := ?_) rfl (by kernel_rfl) (by kernel_rfl) (by kernel_rfl) (by decide) (fun _ _ _ h => h) (Or.inl ⟨by rfl, ?_⟩) (by assumption) ?_
            rotate_left
            · (intro w hSw; (try dsimp only at hSw); go_simp; (try with_reducible rfl))
            (try simp only [Act.put, List.setIfInBounds_toArray, List.set_cons_zero, List.set_cons_succ])
            refine wpAnyT_takeV (i := 1) (v := ?_) rfl (by kernel_rfl) (by kernel_rfl) (by kernel_rfl) (by decide) (fun _ _ _ h => h) (Or.inl ⟨by rfl, ?_⟩) (by assumption) ?_
            rotate_left
            · (intro w hSw; (try dsimp only at hSw); go_simp; (try with_reducible rfl))
            (try simp only [Act.put, List.setIfInBounds_toArray, List.set_cons_zero, List.set_cons_succ])
            refine wpAnyT_takeV (i := 3) (v := ?_) rfl (by kernel_rfl) (by kernel_rfl) (by kernel_rfl) (by decide) (fun _ _ _ h => h) (Or.inl ⟨by rfl, ?_⟩) (by assumption) ?_
            rotate_left
            · (intro w hSw; (try dsimp only at hSw); go_simp; (try with_reducible rfl))
            (try simp only [Act.put, List.setIfInBounds_toArray, List.set_cons_zero, List.set_cons_succ])
            refine wpAnyT_all (rs := [2]) (by kernel_rfl) (by simp) (AllT.consL (i := 2) rfl (fun K hK => ?_) AllT.nil)
            go_simp; go_wp2_with (go_at_call 25; apply Calls.mono; (with_reducible exact H1.out _ (Hgw.out.trans (by (repeat (first | exact Grew.refl _ | refine Grew.over ?_ _ | refine Grew.alloc ?_ _ | refine Grew.drew ?_ | refine Grew.drewN ?_ _))))); rintro e wa ⟨rfl, hga⟩; have hga2 := Grew.trans (a := wr) (by (repeat (first | exact Grew.refl _ | refine Grew.over ?_ _ | refine Grew.alloc ?_ _ | refine Grew.drew ?_ | refine Grew.drewN ?_ _))) hga; have Hga := Lib.hid hga2; have q0 := hga2.cellEq q0; have q1 := hga2.cellEq q1; have q2 := hga2.cellEq q2; clear hga hga2)
            refine hK.out _ _ ?_ (fun hH => ?_)
            · (first | (simp [go_sem, ↓IntWalk.iteOmega, *]; done) | go_keep)
            clear hK K
            (try simp only [Act.put, List.setIfInBounds_toArray, List.set_cons_zero, List.set_cons_succ])
            refine wpAnyT_all (rs := [4]) (by kernel_rfl) (by simp) (AllT.consL (i := 4) rfl (fun K hK => ?_) AllT.nil)
            go_simp; go_wp2_with (go_at_call 25; apply Calls.mono; (with_reducible exact H0.out _ (Hgw.out.trans (Hga.out.trans (by (repeat (first | exact Grew.refl _ | refine Grew.over ?_ _ | refine Grew.alloc ?_ _ | refine Grew.drew ?_ | refine Grew.drewN ?_ _)))))); rintro e wb ⟨rfl, hgb⟩; have hgb2 := Grew.trans (a := wa) (by (repeat (first | exact Grew.refl _ | refine Grew.over ?_ _ | refine Grew.alloc ?_ _ | refine Grew.drew ?_ | refine Grew.drewN ?_ _))) hgb; have Hgb := Lib.hid (Hga.out.trans hgb2); have hszb := Hgb.out.below.size; have q0 := hgb2.cellEq q0; have q1 := hgb2.cellEq q1; have q2 := hgb2.cellEq q2; clear hgb hgb2)
            refine hK.out _ _ ?_ (fun hH => ?_)
            · (first | (simp [go_sem, ↓IntWalk.iteOmega, *]; done) | go_keep)
            clear hK K
            (try simp only [Act.put, List.setIfInBounds_toArray, List.set_cons_zero, List.set_cons_succ])
            refine wpAnyT_all (rs := [5]) (by kernel_rfl) (by simp) (AllT.consL (i := 5) rfl (fun K hK => ?_) AllT.nil)
            go_simp
            refine hK.out _ _ ?_ (fun hH => ?_)
            · (first | (simp [go_sem, ↓IntWalk.iteOmega, *]; done) | go_keep)
            clear hK K
            (try simp only [Act.put, List.setIfInBounds_toArray, List.set_cons_zero, List.set_cons_succ])
            refine wpAnyT_all (rs := [6]) (by kernel_rfl) (by simp) (AllT.consL (i := 6) rfl (fun K hK => ?_) AllT.nil)
            refine step_append_owns rfl _ _ 26 rfl 3 1 8 (.int .i64 0) Tryd.underlying26 Tryd.infoInt rfl (by decide) (wS.heap.size) _ 0 _ _ _ (HO.out.grew (Hgb.out.trans (by (repeat (first | exact Grew.refl _ | refine Grew.over ?_ _ | refine Grew.alloc ?_ _ | refine Grew.drew ?_ | refine Grew.drewN ?_ _))))) rfl rfl _ _ _ rfl (intVs ([t1, t0])) (by rw [intVs_length, Nat.mul_one]; try first | rfl | assumption | (simp; done) | omega) (fun h => by cases h) (Ints.news (two_ints wb Ha.out.2.1 Ha.out.1)) (intVs_one _) (by simp only [maxLen]; omega) (by omega) (by first | rfl | omega | (simp <;> omega)) ?_; intro v1 w1 hO1 hg1 hb1 hv1; have hs1 := hg1.size; have HgB1 := Lib.hid (Grew.grownBy (w0 := wB) (HgB2.out.trans (Hgb.out.trans (by (repeat (first | exact Grew.refl _ | refine Grew.over ?_ _ | refine Grew.alloc ?_ _ | refine Grew.drew ?_ | refine Grew.drewN ?_ _))))) hg1 (fun k h => by have := hb1 k h; omega)); have q0 := HgB1.out.cellEq B0.out; have q1 := HgB1.out.cellEq B1.out; have q2 := HgB1.out.cellEq B2.out; obtain ⟨p9, c9, rfl⟩ := own_form hO1 (k := 0) rfl; have HO1 := Lib.hid hO1; clear hO1 hg1 hb1 hv1
            refine hK.out _ _ ?_ (fun hH => ?_)
            · (first | (simp [go_sem, ↓IntWalk.iteOmega, *]; done) | go_keep)
            clear hK K
            (try simp only [Act.put, List.setIfInBounds_toArray, List.set_cons_zero, List.set_cons_succ])
            refine wpAnyT_all (rs := [7]) (by kernel_rfl) (by simp) (AllT.consL (i := 7) rfl (fun K hK => ?_) AllT.nil)
            go_simp
            refine hK.out _ _ ?_ (fun hH => ?_)
            · (first | (simp [go_sem, ↓IntWalk.iteOmega, *]; done) | go_keep)
            clear hK K
            (try simp only [Act.put, List.setIfInBounds_toArray, List.set_cons_zero, List.set_cons_succ])
            refine wpAnyT_done (by kernel_rfl) ?_ _
            have HO3 : Hid (Owns w1 wS.heap.size [⟨.slice p9 (R.length + 2) c9, 3, 1, R.length + 2, intVs (R ++ [t1, t0])⟩]) := Lib.hid (by rw [intVs_app']; exact HO1.out)
            have hRl : (R ++ [t1, t0]).length = R.length + 2 := by simp
            have HRl := Lib.hid hRl
            have hsS := HgB1.out.below.size
            clear hRl
            go_wp2_with (go_at_call 29; apply Calls.mono; (with_reducible exact reverse_i _ _ _ _ 0 _ _ wB _ (HO3.out.grew (by (repeat (first | exact Grew.refl _ | refine Grew.over ?_ _ | refine Grew.alloc ?_ _ | refine Grew.drew ?_ | refine Grew.drewN ?_ _)))) rfl HRl.out (by omega) (by omega) (HgB1.out.trans (by (repeat (first | exact Grew.refl _ | refine Grew.over ?_ _ | refine Grew.alloc ?_ _ | refine Grew.drew ?_ | refine Grew.drewN ?_ _))))); rintro e w9 ⟨rfl, hg9, hO9⟩; have HO9 := Lib.hid hO9; have Hg9 := Lib.hid hg9; clear hO9 hg9)
            have hbd : ∀ y ∈ (R ++ [t1, t0]).reverse, -9223372036854775808 ≤ y ∧ y ≤ 9223372036854775807 := fun y hy => by
              rcases List.mem_append.1 (List.mem_reverse.1 hy) with hy | hy
              · have := Hord.out y hy; omega
              · simp at hy; rcases hy with rfl | rfl <;> omega
            obtain ⟨p7, c7, e7, e8, e9, e10, _, e11⟩ := own_ints HO9.out (k := 0) rfl hbd
            cases e7
            have H8 := Lib.hid e8
            have H11 := Lib.hid e11
            clear hbd e8 e11
            go_ret2
            exact ⟨HwB0.out.trans (Hg9.out.trans (by (repeat (first | exact Grew.refl _ | refine Grew.over ?_ _ | refine Grew.alloc ?_ _ | refine Grew.drew ?_ | refine Grew.drewN ?_ _)))), p9, c9, by rw [H8.out]; rfl, H11.out _ (by (repeat (first | exact Grew.refl _ | refine Grew.over ?_ _ | refine Grew.alloc ?_ _ | refine Grew.drew ?_ | refine Grew.drewN ?_ _))), by rw [H8.out]; exact e9, e10⟩

end Go.Proofs.YtdacnkjmimhcaaaDoor
