/- Joined by a program from the texts ReaJ RefK LabA SchF SchG SchH OrdA OrdB OrdC. -/
import Derived.Test.YtlealdicoceekaaDoorRTg
/- Build of the program. -/
set_option linter.unusedSimpArgs false
set_option linter.unusedVariables false
namespace Go.Proofs.YtlealdicoceekaaDoor
open Go.RowKit
attribute [local go_sem ↓] Go.wp_at_zero Go.wp_at_succ

/-- The darts from a vertex to those of a contour, in the contour's order. -/
def nearF (E : List (Int × Int)) (row : List Int) (u : Int) : List Int := row.filter fun d => tailE E (oth d) == u
def nearB (E : List (Int × Int)) (row C : List Int) : List Int := C.flatMap (nearF E row)
/-- The labels that they get. -/
def putK (A : List (List Int)) (nl : List Int) (X : List Int) : Nat → List Int
  | 0 => X
  | i + 1 => if outB A (ge nl i) = true then putK A nl X i else if i = 0 then (putK A nl X i).set (ge nl i).toNat 0 else if i + 1 = nl.length then (putK A nl X i).set (ge nl i).toNat 1 else (putK A nl X i).set (oth (ge nl i)).toNat 2
noncomputable def contG (N : Int) (E : List (Int × Int)) (A : List (List Int)) (O : List Int) (j : Nat) : List Int := (contP N E A O j).getD []
noncomputable def buildK (N : Int) (E : List (Int × Int)) (A : List (List Int)) (O : List Int) : Nat → List Int
  | 0 => List.replicate (2 * E.length) (-1)
  | k + 1 => putK A (nearB E (rowOf A (ge O (k + 2)).toNat) (contG N E A O k)) (buildK N E A O k) (nearB E (rowOf A (ge O (k + 2)).toNat) (contG N E A O k)).length
noncomputable def buildRes (N : Int) (E : List (Int × Int)) (A : List (List Int)) (O : List Int) : List Int × Int :=
  if trgB N E A = false then ([], 13) else if chkO N E A O = false then ([], 1) else (buildK N E A O (O.length - 2), 0)
theorem putK_len (A : List (List Int)) (nl X : List Int) : ∀ i, (putK A nl X i).length = X.length
  | 0 => rfl
  | i + 1 => by
    unfold putK
    split
    · exact putK_len A nl X i
    · split
      · rw [List.length_set]; exact putK_len A nl X i
      · split
        · rw [List.length_set]; exact putK_len A nl X i
        · rw [List.length_set]; exact putK_len A nl X i
theorem buildK_len (N : Int) (E : List (Int × Int)) (A : List (List Int)) (O : List Int) : ∀ k, (buildK N E A O k).length = 2 * E.length
  | 0 => by unfold buildK; simp
  | k + 1 => by unfold buildK; rw [putK_len]; exact buildK_len N E A O k
theorem putK_rng (A : List (List Int)) (nl : List Int) {X : List Int} (h : ∀ x ∈ X, -1 ≤ x ∧ x ≤ 2) : ∀ i, ∀ x ∈ putK A nl X i, -1 ≤ x ∧ x ≤ 2
  | 0 => h
  | i + 1 => fun x hx => by
    have ih := putK_rng A nl h i
    unfold putK at hx
    split at hx
    · exact ih x hx
    · split at hx
      · rcases List.mem_or_eq_of_mem_set hx with k | k
        · exact ih x k
        · omega
      · split at hx
        · rcases List.mem_or_eq_of_mem_set hx with k | k
          · exact ih x k
          · omega
        · rcases List.mem_or_eq_of_mem_set hx with k | k
          · exact ih x k
          · omega
theorem buildK_rng (N : Int) (E : List (Int × Int)) (A : List (List Int)) (O : List Int) : ∀ k, ∀ x ∈ buildK N E A O k, -1 ≤ x ∧ x ≤ 2
  | 0 => fun x hx => by unfold buildK at hx; rw [List.mem_replicate] at hx; omega
  | k + 1 => by unfold buildK; exact putK_rng _ _ (buildK_rng N E A O k) _
theorem nearB_succ {E : List (Int × Int)} {row C : List Int} {i : Nat} (h : i < C.length) : nearB E row (C.take (i + 1)) = nearB E row (C.take i) ++ nearF E row (ge C i) := by
  unfold nearB
  rw [List.take_succ_eq_append_getElem h, List.flatMap_append, ← ge_eq C h]
  simp
theorem nearF_succ {E : List (Int × Int)} {row : List Int} {u : Int} {i : Nat} (h : i < row.length) : nearF E (row.take (i + 1)) u = nearF E (row.take i) u ++ if (tailE E (oth (ge row i)) == u) = true then [ge row i] else [] := by
  unfold nearF
  rw [List.take_succ_eq_append_getElem h, List.filter_append, ← ge_eq row h]
  congr 1
  rw [List.filter_cons, List.filter_nil]
theorem nearF_len (E : List (Int × Int)) (row : List Int) (u : Int) : (nearF E row u).length ≤ row.length := List.length_filter_le _ _
theorem nearB_len (E : List (Int × Int)) (row : List Int) : ∀ C : List Int, (nearB E row C).length ≤ C.length * row.length
  | [] => by simp [nearB]
  | u :: C => by
    have h1 := nearB_len E row C
    have h2 := nearF_len E row u
    unfold nearB at h1 ⊢
    rw [List.flatMap_cons, List.length_append, List.length_cons, Nat.add_mul]
    omega
theorem cont_yes {N : Int} {pE pA : Option Addr} {nE nA cE cA : Nat} {E : List (Int × Int)} {A : List (List Int)} {pO : Option Addr} {nO cO : Nat} {O : List Int} {w : World} {j k : Nat} {C : List Int} {n : Nat} (h : chkO N E A O = true) (hC : contP N E A O j = some C) (hk : k = j + 2) (hj : (j : Int) + 2 ≤ N) (hn : C.length = n)
    (hR : RotIn w pE pA cE E A) (hL : Lim w) (hO : Ints w pO O) (hO1 : O.length ≤ 30) (hO2 : nO ≤ cO) (hO3 : cO ≤ maxLen) (hnE : E.length = nE) (hnA : A.length = nA) (hnO : O.length = nO) :
    Calls Tryd.prog 30 #[.agg #[.int .i64 N, .slice pE nE cE, .slice pA nA cA], .slice pO nO cO, .int .i64 k] w fun e w' => Grew w w' ∧ ∃ q cap, e = .returned (.tuple #[.slice q n cap, .int .i64 0]) ∧ Ints w' q C ∧ n ≤ cap ∧ cap ≤ maxLen := by
  subst hn hk
  have := contour36_p N pE pA nE nA cE cA E A pO nO cO O ((j + 2 : Nat) : Int) w hR hL hO hO1 hO2 hO3 hnE hnA hnO
  have e : contRes N E A O ((j + 2 : Nat) : Int) = (C, 0) := by
    unfold contRes
    rw [if_neg (by rw [(chkO_iff.1 h).1]; simp), if_neg (by rw [h]; simp), if_neg (by omega), show (((j + 2 : Nat) : Int) - 2).toNat = j by omega, hC]
    rfl
  rw [e] at this
  exact this.mono fun e w' ⟨hg, q, cap, h1, h2, h3, h4⟩ => ⟨hg, q, cap, h1, h2, by omega, h4⟩
set_option maxRecDepth 8000 in
set_option maxHeartbeats 16000000 in
theorem build_p (N : Int) (pE pA pO : Option Addr) (nE nA nO cE cA cO : Nat) (E : List (Int × Int)) (A : List (List Int)) (O : List Int) (w : World) (hR : RotIn w pE pA cE E A) (hL : Lim w) (hI : Ints w pO O) (hO1 : O.length ≤ 30) (hO2 : nO ≤ cO) (hO3 : cO ≤ maxLen) (hnE : E.length = nE) (hnA : A.length = nA) (hnO : O.length = nO) :
    Calls Tryd.prog 10 #[.agg #[.int .i64 N, .slice pE nE cE, .slice pA nA cA], .slice pO nO cO] w (TwoPost (buildRes N E A O).1 (buildRes N E A O).2 w) := by
  have HR := Lib.hid hR
  have HL := Lib.hid hL
  have HI := Lib.hid hI
  have hO30 : nO ≤ 30 := by omega
  cases hT : trgB N E A
  case false =>
    have Hf : Hid (buildRes N E A O = ([], 13)) := Lib.hid (by unfold buildRes; rw [if_pos hT])
    have Ho : Hid (∀ W1, Grew w W1 → Calls Tryd.prog 28 #[.agg #[.int .i64 N, .slice pE nE cE, .slice pA nA cA]] W1 fun e w' => e = .returned (.pointer none) ∧ Grew W1 w') := Lib.hid (fun W1 h => open_no _ _ _ _ _ _ _ _ _ _ (HR.out.grew h) (HL.out.grew h) hT hnE hnA)
    clear hR hL hI hT
    go_enter Tryd.func10, Tryd.ntmps10
    go_wp2_with ((go_at_call 28; apply Calls.mono; (with_reducible exact Ho.out _ (by (repeat (first | exact gR _ | refine gO ?_ _ | refine gA ?_ _ | refine gD ?_ | refine gN ?_ _)))); rintro e w' ⟨rfl, x, rfl⟩))
    go_ret2
    rw [Hf.out]
    exact TwoPost.none (by (repeat (first | exact gR _ | refine gO ?_ _ | refine gA ?_ _ | refine gD ?_ | refine gN ?_ _)))
  case true =>
  obtain ⟨t, ht⟩ : ∃ t, chkO N E A O = t := ⟨_, rfl⟩
  have Hk : Hid (∀ W1, Grew w W1 → Calls Tryd.prog 29 #[.agg #[.int .i64 N, .slice pE nE cE, .slice pA nA cA], .slice pO nO cO] W1 fun e w' => e = .returned (.bool t) ∧ Grew W1 w') := Lib.hid (fun W1 h => by
    rw [← ht]
    exact check36_p _ _ _ _ _ _ _ _ _ _ _ _ _ _ (HR.out.grew h) (HL.out.grew h) (HI.out.grew h) hO1 hO2 hO3 hnE hnA hnO)
  have HT := Lib.hid hT
  cases t
  case false =>
    have Hf : Hid (buildRes N E A O = ([], 1)) := Lib.hid (by unfold buildRes; rw [if_neg (by rw [hT]; simp), if_pos ht])
    clear hR hL hI hT ht
    go_enter Tryd.func10, Tryd.ntmps10
    go_wp2_with (first
      | (go_at_call 28; apply Calls.mono; (with_reducible exact open_yes _ _ _ _ _ _ _ _ _ _ (HR.out.grew (by (repeat (first | exact gR _ | refine gO ?_ _ | refine gA ?_ _ | refine gD ?_ | refine gN ?_ _)))) (HL.out.grew (by (repeat (first | exact gR _ | refine gO ?_ _ | refine gA ?_ _ | refine gD ?_ | refine gN ?_ _)))) HT.out hnE hnA); rintro e wo ⟨hgo, b, gf, rfl, _, hPl⟩; have Hc := Lib.hid ((show Grew (w.alloc (.cells #[.int .i64 N, .slice pE nE cE, .slice pA nA cA] 25)) _ by (repeat (first | exact gR _ | refine gO ?_ _ | refine gA ?_ _ | refine gD ?_ | refine gN ?_ _))).trans hgo); have q0 := Hc.out.cellEq (show (w.alloc (.cells #[.int .i64 N, .slice pE nE cE, .slice pA nA cA] 25)).cell? ⟨w.heap.size, 0, none⟩ = some (.int .i64 N) by simp [go_sem]); have q1 := Hc.out.cellEq (show (w.alloc (.cells #[.int .i64 N, .slice pE nE cE, .slice pA nA cA] 25)).cell? ⟨w.heap.size, 1, none⟩ = some (.slice pE nE cE) by simp [go_sem]); have q2 := Hc.out.cellEq (show (w.alloc (.cells #[.int .i64 N, .slice pE nE cE, .slice pA nA cA] 25)).cell? ⟨w.heap.size, 2, none⟩ = some (.slice pA nA cA) by simp [go_sem]); have Hgo := Lib.hid ((show Grew w _ by (repeat (first | exact gR _ | refine gO ?_ _ | refine gA ?_ _ | refine gD ?_ | refine gN ?_ _))).trans hgo); clear hPl hgo)
      | ((go_at_call 29; apply Calls.mono; (with_reducible exact Hk.out _ (Hgo.out.trans (by (repeat (first | exact gR _ | refine gO ?_ _ | refine gA ?_ _ | refine gD ?_ | refine gN ?_ _))))); rintro e w' ⟨rfl, x, rfl⟩)))
    go_ret2
    rw [Hf.out]
    exact TwoPost.none (Hgo.out.trans (by (repeat (first | exact gR _ | refine gO ?_ _ | refine gA ?_ _ | refine gD ?_ | refine gN ?_ _))))
  case true =>
  have hV := trg_valid hT
  have HV := Lib.hid hV
  have Hch := Lib.hid ht
  have hOl := (chkO_iff.1 ht).2.1
  have hN3 := trg_three hT
  have hNA : N = (nA : Int) := by have := hV.al; omega
  subst hNA
  have hnn : nO = nA := by omega
  subst hnn
  have Hf : Hid (buildRes nO E A O = (buildK nO E A O (nO - 2), 0)) := Lib.hid (by unfold buildRes; rw [if_neg (by rw [hT]; simp), if_neg (by rw [ht]; simp), hnO])
  have HfO : Hid (∀ u ∈ O, 0 ≤ u ∧ u < (nO : Int)) := Lib.hid (by
    have h := (chkR_iff.1 (chk_same.trans ht)).2.2.1.2
    rw [List.take_length] at h
    exact h)
  have hE0 := Lib.hid (trg_pos hT)
  have hnO3 : 3 ≤ nO := by omega
  have hnE1 : nE ≤ 100 := by have := hR.e1; omega
  have HnA := Lib.hid hnA
  have HnE := Lib.hid hnE
  have HnO := Lib.hid hnO
  have hmk : ∀ W, (Instr.makeSlice 26 (.int .i64 (2 * (nE : Int))) (.int .i64 (2 * (nE : Int)))).run Tryd.prog W = .ok (.slice (some ⟨W.heap.size, 0, none⟩) (2 * nE) (2 * nE)) (W.alloc (.cells (Array.replicate (2 * nE) (.int .i64 0)) 3)) := fun W => by
    have := mk_ints (2 * nE) (by omega) W
    push_cast at this
    exact this
  obtain ⟨bO, oO, rfl, lO, cO'⟩ := hI.cells (by omega)
  have HcO := Lib.hid cO'
  clear hR hL hI hT ht hV hOl hN3 cO' hnA hnE hnO
  go_enter Tryd.func10, Tryd.ntmps10
  go_upto_region 6 with (first
    | (go_at_call 28; apply Calls.mono; (with_reducible exact open_yes _ _ _ _ _ _ _ _ _ _ (HR.out.grew (by (repeat (first | exact gR _ | refine gO ?_ _ | refine gA ?_ _ | refine gD ?_ | refine gN ?_ _)))) (HL.out.grew (by (repeat (first | exact gR _ | refine gO ?_ _ | refine gA ?_ _ | refine gD ?_ | refine gN ?_ _)))) HT.out HnE.out HnA.out); rintro e wo ⟨hgo, b, gf, rfl, _, hPl⟩; have HPl := Lib.hid hPl; have Hc := Lib.hid ((show Grew (w.alloc (.cells #[.int .i64 nO, .slice pE nE cE, .slice pA nO cA] 25)) _ by (repeat (first | exact gR _ | refine gO ?_ _ | refine gA ?_ _ | refine gD ?_ | refine gN ?_ _))).trans hgo); have q0 := Hc.out.cellEq (show (w.alloc (.cells #[.int .i64 nO, .slice pE nE cE, .slice pA nO cA] 25)).cell? ⟨w.heap.size, 0, none⟩ = some (.int .i64 nO) by simp [go_sem]); have q1 := Hc.out.cellEq (show (w.alloc (.cells #[.int .i64 nO, .slice pE nE cE, .slice pA nO cA] 25)).cell? ⟨w.heap.size, 1, none⟩ = some (.slice pE nE cE) by simp [go_sem]); have q2 := Hc.out.cellEq (show (w.alloc (.cells #[.int .i64 nO, .slice pE nE cE, .slice pA nO cA] 25)).cell? ⟨w.heap.size, 2, none⟩ = some (.slice pA nO cA) by simp [go_sem]); have Hgo := Lib.hid ((show Grew w _ by (repeat (first | exact gR _ | refine gO ?_ _ | refine gA ?_ _ | refine gD ?_ | refine gN ?_ _))).trans hgo); clear hPl hgo)
    | (go_at_call 29; apply Calls.mono; (with_reducible exact Hk.out _ (Hgo.out.trans (by (repeat (first | exact gR _ | refine gO ?_ _ | refine gA ?_ _ | refine gD ?_ | refine gN ?_ _))))); rintro e w2 ⟨rfl, hg2⟩; have hg3 := Grew.trans (by (repeat (first | exact gR _ | refine gO ?_ _ | refine gA ?_ _ | refine gD ?_ | refine gN ?_ _))) hg2; have HPl := Lib.hid (HPl.out.grew hg3); have Hgo := Lib.hid (Hgo.out.trans hg3); have q0 := hg3.cellEq q0; have q1 := hg3.cellEq q1; have q2 := hg3.cellEq q2; clear hg2 hg3))
  have Q0 := Lib.hid q0
  have Q1 := Lib.hid q1
  have Q2 := Lib.hid q2
  have hq2l := World.block_lt_of_cell? w2 _ q0
  dsimp only at hq2l
  clear q0 q2
  go_wp2
  have HO0 := Lib.hid (own_newI (Owns.nil w2 w2.heap.size) (Nat.le_refl _) (2 * nE) w2.heap.size (by omega) rfl)
  have Hg0 : Hid (Grew w2 (w2.alloc (.cells (Array.replicate (2 * nE) (.int .i64 0)) 3))) := Lib.hid ((Grew.refl w2).alloc _)
  obtain ⟨wA, hwA⟩ : ∃ wA, w2.alloc (.cells (Array.replicate (2 * nE) (.int .i64 0)) 3) = wA := ⟨_, rfl⟩
  rw [hwA] at HO0 Hg0 ⊢
  obtain ⟨g, hg⟩ : ∃ g, w2.heap.size = g := ⟨_, rfl⟩
  have Hgs := Lib.hid hg
  have Hgs2 : Hid (w2.heap.size ≤ g) := Lib.hid (Nat.le_of_eq hg)
  rw [hg] at HO0 ⊢
  clear hwA hg q1
  go_loopw [37] (fun dv wr => ∃ d : Nat, d ≤ 2 * nE ∧ dv = .int .i64 d ∧ Grew w2 wr ∧ ∃ X : List Int, X.length = 2 * nE ∧ Owns wr g [rI g (2 * nE) X] ∧ ∀ u, u < d → ge X u = -1) (fun dv _ => 2 * nE - (intOf dv).toNat)
  case atStart => exact ⟨0, Nat.zero_le _, rfl, Hg0.out.trans (by (repeat (first | exact gR _ | refine gO ?_ _ | refine gA ?_ _ | refine gD ?_ | refine gN ?_ _))), _, by simp, HO0.out.grew (by (repeat (first | exact gR _ | refine gO ?_ _ | refine gA ?_ _ | refine gD ?_ | refine gN ?_ _))), fun u hu => by omega⟩
  case round =>
    obtain ⟨d, hd, rfl, hgr, X, hXl, hO, hall⟩ := hrel
    have Hgr := Lib.hid hgr
    have HO := Lib.hid hO
    have Hall := Lib.hid hall
    have HXl := Lib.hid hXl
    have hszr := hgr.below.size
    clear hgr hO hall hXl
    by_cases hlt : d < 2 * nE
    · have hdi : (d : Int) < ((2 * nE : Nat) : Int) := by omega
      have hdi2 : (d : Int) < 2 * (nE : Int) := by omega
      have x1 := own_atI HO.out (j := 0) rfl hlt
      have x2 := own_fr HO.out (j := 0) rfl d
      have hgl := own_lt HO.out (j := 0) rfl
      go_wp2
      go_roundw
      case rel => exact ⟨d + 1, by omega, by go_num, (Hgr.out.setCell (show w2.heap.size ≤ g from Hgs2.out) _).trans (by (repeat (first | exact gR _ | refine gO ?_ _ | refine gA ?_ _ | refine gD ?_ | refine gN ?_ _))), X.set d (-1), by rw [List.length_set]; exact HXl.out, (own_setI HO.out (j := 0) rfl d (-1)).grew (by (repeat (first | exact gR _ | refine gO ?_ _ | refine gA ?_ _ | refine gD ?_ | refine gN ?_ _))), fun u hu => by
        by_cases e : d = u
        · rw [← e, ge_set_same _ (by rw [HXl.out]; exact hlt)]
        · rw [ge_set_other _ e]; exact Hall.out u (by omega)⟩
      case measure => (simp [intOf] <;> omega)
    · have HX : Hid (X = buildK nO E A O 0) := Lib.hid (by
        unfold buildK
        refine List.ext_getElem (by rw [HXl.out, List.length_replicate, HnE.out]) fun i h1 h2 => ?_
        rw [← ge_eq X h1, Hall.out i (by rw [HXl.out] at h1; omega), List.getElem_replicate])
      have HO1 : Hid (Owns wr g [rI g (2 * nE) (buildK nO E A O 0)]) := Lib.hid (by rw [← HX.out]; exact HO.out)
      have hdi : ¬ (d : Int) < ((2 * nE : Nat) : Int) := by omega
      have hdi2 : ¬ (d : Int) < 2 * (nE : Int) := by omega
      clear HX HO Hall HXl hlt
      go_wp2
      go_loopw [9] (fun kv wx => ∃ k : Nat, k + 2 ≤ nO ∧ kv = .int .i64 ((k + 2 : Nat) : Int) ∧ Grew w2 wx ∧ Owns wx g [rI g (2 * nE) (buildK nO E A O k)]) (fun kv _ => nO - (intOf kv).toNat)
      case atStart => exact ⟨0, by omega, rfl, Hgr.out.trans (by (repeat (first | exact gR _ | refine gO ?_ _ | refine gA ?_ _ | refine gD ?_ | refine gN ?_ _))), HO1.out.grew (by (repeat (first | exact gR _ | refine gO ?_ _ | refine gA ?_ _ | refine gD ?_ | refine gN ?_ _)))⟩
      case round =>
        clear HO1 Hgr hszr
        obtain ⟨k, hk, rfl, hgr, hO⟩ := hrel
        have Hgr := Lib.hid hgr
        have HO := Lib.hid hO
        have hszr := hgr.below.size
        have q0 := hgr.cellEq Q0.out
        have q1 := hgr.cellEq Q1.out
        have q2 := hgr.cellEq Q2.out
        clear hgr hO
        by_cases hlt : k + 2 < nO
        · have hki : ((k + 2 : Nat) : Int) < (nO : Int) := by omega
          have o1 := HcO.out wr (Hgo.out.trans Hgr.out) (k + 2) (by rw [HnO.out]; exact hlt)
          have hvr := HfO.out _ (ge_mem (i := k + 2) (by rw [HnO.out]; exact hlt))
          obtain ⟨v, hv⟩ : ∃ v : Nat, ge O (k + 2) = (v : Int) := ⟨(ge O (k + 2)).toNat, by omega⟩
          rw [hv] at o1
          have hvl : v < nO := by omega
          have Hv := Lib.hid hv
          obtain ⟨C, hC, hG⟩ := cont_goes Hch.out (j := k) (by omega)
          have HC := Lib.hid hC
          have HCn : Hid (∀ u ∈ C, True) := Lib.hid (fun _ _ => trivial)
          obtain ⟨m, hm⟩ : ∃ m, C.length = m := ⟨_, rfl⟩
          have Hm := Lib.hid hm
          have hm3 : m ≤ 30 := by rw [← hm]; have := hG.len; omega
          have Hcb : Hid (buildK nO E A O (k + 1) = putK A (nearB E (rowOf A v) C) (buildK nO E A O k) (nearB E (rowOf A v) C).length) := Lib.hid (by
            have e : contG nO E A O k = C := by unfold contG; rw [hC]; rfl
            show putK A (nearB E (rowOf A (ge O (k + 2)).toNat) (contG nO E A O k)) (buildK nO E A O k) _ = _
            rw [hv, e, Int.toNat_natCast])
          have Hct : Hid (∀ W1, Grew wr W1 → Calls Tryd.prog 30 #[.agg #[.int .i64 nO, .slice pE nE cE, .slice pA nO cA], .slice (some ⟨bO, oO, none⟩) nO cO, .int .i64 ((k : Int) + 2)] W1 fun e w' => Grew W1 w' ∧ ∃ q cap, e = .returned (.tuple #[.slice q m cap, .int .i64 0]) ∧ Ints w' q C ∧ m ≤ cap ∧ cap ≤ maxLen) := Lib.hid (fun W1 h => by
            have := cont_yes (cA := cA) Hch.out HC.out rfl (by omega) Hm.out (HR.out.grew (Hgo.out.trans (Hgr.out.trans h))) (HL.out.grew (Hgo.out.trans (Hgr.out.trans h))) (HI.out.grew (Hgo.out.trans (Hgr.out.trans h))) hO1 hO2 hO3 HnE.out HnA.out HnO.out
            push_cast at this
            exact this)
          clear hG hC hm hv hvr
          go_upto_region 17 with (go_at_call 30; apply Calls.mono; (with_reducible exact Hct.out _ (by (repeat (first | exact gR _ | refine gO ?_ _ | refine gA ?_ _ | refine gD ?_ | refine gN ?_ _)))); rintro e w4 ⟨hg4, q4, cap4, rfl, hI4, hd1, hd2⟩; have HI4 := Lib.hid hI4; have hg5 := Grew.trans (show Grew wr _ by (repeat (first | exact gR _ | refine gO ?_ _ | refine gA ?_ _ | refine gD ?_ | refine gN ?_ _))) hg4; have Hg4 := Lib.hid (Hgr.out.trans hg5); have HO4 := Lib.hid (HO.out.grew hg5); clear hI4 hg4 hg5)
          have hs4 := Hg4.out.below.size
          have Hx1 : Hid (w4.cell? ⟨w.heap.size, 1, none⟩ = some (.slice pE nE cE)) := Lib.hid (Hg4.out.cellEq Q1.out)
          have Hx2 : Hid (w4.cell? ⟨w.heap.size, 2, none⟩ = some (.slice pA nO cA)) := Lib.hid (Hg4.out.cellEq Q2.out)
          obtain ⟨bA, oA, rp, rc, rfl, lA, cA'⟩ := (HR.out.hA).rows (by rw [HnA.out]; omega)
          obtain ⟨a1, _⟩ := cA' w4 (Hgo.out.trans Hg4.out) v (by rw [HnA.out]; exact hvl)
          obtain ⟨_, a2⟩ := cA' w (Grew.refl _) v (by rw [HnA.out]; exact hvl)
          obtain ⟨rv, hrv⟩ : ∃ rv, rp v = rv := ⟨_, rfl⟩
          rw [hrv] at a1 a2
          obtain ⟨cv, hcv⟩ : ∃ cv, rc v = cv := ⟨_, rfl⟩
          rw [hcv] at a1
          obtain ⟨row, hrow⟩ : ∃ row, rowOf A v = row := ⟨_, rfl⟩
          have Hmr : Hid (∀ d ∈ row, 0 ≤ d ∧ d < ((2 * nE : Nat) : Int)) := Lib.hid (fun d hd => by
            have := mem_row HV.out (v := v) (by rw [HnA.out]; exact hvl) (by rw [hrow]; exact hd)
            have := HnE.out
            omega)
          have hrl : row.length ≤ 200 := by
            have h2 := int_nodup_len (M := 2 * nE) (S := row) (by rw [← hrow]; exact row_nodup HV.out (by rw [HnA.out]; exact hvl)) Hmr.out
            omega
          rw [hrow] at a1 a2 Hcb
          have Ha1 := Lib.hid a1
          have Ha2 := Lib.hid a2
          have hvi : (v : Int) < (nO : Int) := by omega
          obtain ⟨X, hX⟩ : ∃ X, buildK nO E A O k = X := ⟨_, rfl⟩
          have HXe := Lib.hid hX
          rw [hX] at HO4 Hcb
          have HXl : Hid (X.length = 2 * nE) := Lib.hid (by rw [← hX, buildK_len, HnE.out])
          have HON := Lib.hid ((Owns.nil w4 w4.heap.size).none 3 1)
          have HOX := HO4
          have hwl4 : w.heap.size < w4.heap.size := by omega
          clear q0 q1 q2 o1 cA' a1 a2 hrv hcv hrow hX HO4
          go_wp2
          go_loopw [13, 63] (fun vN iv wk => ∃ i : Nat, i ≤ m ∧ iv = .int .i64 i ∧ Grew w4 wk ∧ Owns wk w4.heap.size [⟨vN, 3, 1, (nearB E row (C.take i)).length, intVs (nearB E row (C.take i))⟩]) (fun _ iv _ => m - (intOf iv).toNat)
          case atStart => exact ⟨0, Nat.zero_le _, rfl, by (repeat (first | exact gR _ | refine gO ?_ _ | refine gA ?_ _ | refine gD ?_ | refine gN ?_ _)), by simpa [nearB, intVs] using HON.out.grew (by (repeat (first | exact gR _ | refine gO ?_ _ | refine gA ?_ _ | refine gD ?_ | refine gN ?_ _)))⟩
          case round =>
            obtain ⟨i, hi, rfl, hgi, hOi⟩ := hrel
            have Hgi := Lib.hid hgi
            have HOi := Lib.hid hOi
            have hszi := hgi.below.size
            clear hgi hOi
            by_cases hil : i < m
            · have hii : (i : Int) < (m : Int) := by omega
              obtain ⟨b4, o4, rfl, l4, c4⟩ := HI4.out.cells (by rw [Hm.out]; omega)
              have e1 := c4 wr Hgi.out i (by rw [Hm.out]; exact hil)
              obtain ⟨u, hu⟩ : ∃ u, ge C i = u := ⟨_, rfl⟩
              rw [hu] at e1
              have Hnb : Hid (nearB E row (C.take (i + 1)) = nearB E row (C.take i) ++ nearF E row u) := Lib.hid (by rw [nearB_succ (by rw [Hm.out]; exact hil), hu])
              have r1 := Hgi.out.cellEq Hx2.out
              have r2 := Hgi.out.cellEq Ha1.out
              obtain ⟨n0, hn0⟩ : ∃ n0, (nearB E row (C.take i)).length = n0 := ⟨_, rfl⟩
              have hn0b : n0 ≤ 6000 := by
                have h1 := nearB_len E row (C.take i)
                have h2 : (C.take i).length ≤ 30 := by rw [List.length_take]; omega
                have h3 : (C.take i).length * row.length ≤ 30 * 200 := Nat.mul_le_mul h2 hrl
                omega
              have Hn0 := Lib.hid hn0
              obtain ⟨nb, hnb⟩ : ∃ nb, nearB E row (C.take i) = nb := ⟨_, rfl⟩
              rw [hnb] at HOi Hnb
              have Hnb0 : Hid (nb.length = n0) := Lib.hid (by rw [← hnb]; exact hn0)
              clear c4 hu hn0 hnb
              go_wp2
              go_loopw [13, 73] (fun vN jv wk => ∃ j : Nat, j ≤ row.length ∧ jv = .int .i64 j ∧ Grew w4 wk ∧ Owns wk w4.heap.size [⟨vN, 3, 1, (nb ++ nearF E (row.take j) u).length, intVs (nb ++ nearF E (row.take j) u)⟩]) (fun _ jv _ => row.length - (intOf jv).toNat)
              case atStart => exact ⟨0, Nat.zero_le _, rfl, Hgi.out.trans (by (repeat (first | exact gR _ | refine gO ?_ _ | refine gA ?_ _ | refine gD ?_ | refine gN ?_ _))), by simpa [nearF] using HOi.out.grew (by (repeat (first | exact gR _ | refine gO ?_ _ | refine gA ?_ _ | refine gD ?_ | refine gN ?_ _)))⟩
              case round =>
                obtain ⟨j, hj, rfl, hgj, hOj⟩ := hrel
                have Hgj := Lib.hid hgj
                have HOj := Lib.hid hOj
                have hszj := hgj.below.size
                clear hgj hOj e1 r1 r2
                by_cases hjl : j < row.length
                · obtain ⟨bR, oR, rfl, lR, cR⟩ := Ha2.out.cells (by omega)
                  have e1 := cR wr (Hgo.out.trans (Hg4.out.trans Hgj.out)) j hjl
                  have hdr := Hmr.out _ (ge_mem hjl)
                  obtain ⟨d, hd⟩ : ∃ d : Nat, ge row j = (d : Int) := ⟨(ge row j).toNat, by omega⟩
                  rw [hd] at e1
                  have hd2 : d < 2 * nE := by omega
                  obtain ⟨o, ho⟩ : ∃ o : Nat, oth (d : Int) = (o : Int) := ⟨(oth d).toNat, by have := oth_in (d := d) (M := nE) (by omega) (by omega); omega⟩
                  have ho2 : o < 2 * nE := by have := oth_in (d := d) (M := nE) (by omega) (by omega); omega
                  have hx2 : bits BinOp.xor IntKind.i64 (d : Int) 1 = (o : Int) := by rw [← ho]; exact xor_small d (by omega)
                  obtain ⟨tb, htb⟩ : ∃ tb, (tailE E o == u) = tb := ⟨_, rfl⟩
                  have Htb := Lib.hid htb
                  have Htl : Hid (∀ W1, Grew wr W1 → Calls Tryd.prog 31 #[.pointer (some ⟨b, 0, none⟩), .int .i64 o] W1 fun e w' => e = .returned (.int .i64 (tailE E o)) ∧ W1 = w') := Lib.hid (fun W1 h => tail38_c b pE nE cE E W1 (HPl.out.grew (Hg4.out.trans (Hgj.out.trans h))).c1 (HR.out.hE.grew (Hgo.out.trans (Hg4.out.trans (Hgj.out.trans h)))) HnE.out HR.out.e1 o (by rw [HnE.out]; exact ho2))
                  have Hns : Hid (nearF E (row.take (j + 1)) u = nearF E (row.take j) u ++ if tb = true then [(d : Int)] else []) := Lib.hid (by rw [nearF_succ hjl, hd, ho, htb])
                  have hji : (j : Int) < (row.length : Int) := by omega
                  have hnl : (nb ++ nearF E (row.take j) u).length ≤ 6200 := by
                    rw [List.length_append, Hnb0.out]
                    have := nearF_len E (row.take j) u
                    rw [List.length_take] at this
                    omega
                  obtain ⟨ns, hns⟩ : ∃ ns, nb ++ nearF E (row.take j) u = ns := ⟨_, rfl⟩
                  rw [hns] at HOj hnl
                  have Hns2 : Hid (nb ++ nearF E (row.take (j + 1)) u = ns ++ if tb = true then [(d : Int)] else []) := Lib.hid (by rw [Hns.out, ← List.append_assoc, hns])
                  clear cR hdr hd ho htb hns
                  cases tb
                  · replace Hns2 : Hid (nb ++ nearF E (row.take (j + 1)) u = ns) := Lib.hid (by rw [Hns2.out]; simp)
                    have htf := Htb.out
                    go_wp2_with ((go_at_call 31; apply Calls.mono; (with_reducible exact Htl.out _ (by (repeat (first | exact gR _ | refine gO ?_ _ | refine gA ?_ _ | refine gD ?_ | refine gN ?_ _)))); rintro e w' ⟨rfl, rfl⟩))
                    go_roundw
                    case rel => exact ⟨j + 1, by omega, by go_num, Hgj.out.trans (by (repeat (first | exact gR _ | refine gO ?_ _ | refine gA ?_ _ | refine gD ?_ | refine gN ?_ _))), by rw [Hns2.out]; exact HOj.out.grew (by (repeat (first | exact gR _ | refine gO ?_ _ | refine gA ?_ _ | refine gD ?_ | refine gN ?_ _)))⟩
                    case measure => (simp [intOf] <;> omega)
                  · replace Hns2 : Hid (nb ++ nearF E (row.take (j + 1)) u = ns ++ [(d : Int)]) := Lib.hid (by rw [Hns2.out]; simp)
                    have htf := Htb.out
                    go_wp2_with (first
                      | ((go_at_call 31; apply Calls.mono; (with_reducible exact Htl.out _ (by (repeat (first | exact gR _ | refine gO ?_ _ | refine gA ?_ _ | refine gD ?_ | refine gN ?_ _)))); rintro e w' ⟨rfl, rfl⟩))
                      | (at_builtin; refine wp_append_owns rfl _ _ 26 rfl 3 1 8 (.int .i64 0) Tryd.underlying26 Tryd.infoInt rfl (by decide) (w4.heap.size) _ 0 _ _ _ (HOj.out.grew (by (repeat (first | exact gR _ | refine gO ?_ _ | refine gA ?_ _ | refine gD ?_ | refine gN ?_ _)))) rfl rfl _ 1 1 rfl [.int .i64 ((d : Int))] rfl (fun h => by cases h) (one_news _ (by first | (go_simp; done) | (simp [go_sem, ↓IntWalk.iteOmega, *]; done))) (by simp [Value.oneCell']) (by simp only [maxLen]; omega) (by omega) (by first | rfl | omega | (simp <;> omega)) ?_; intro v1 w1 hO1 hg1 hb1 hv1; have HO9 := Lib.hid hO1; have Hg9 := Lib.hid (Grew.grownBy (w0 := w4) (Hgj.out.trans (by (repeat (first | exact gR _ | refine gO ?_ _ | refine gA ?_ _ | refine gD ?_ | refine gN ?_ _)))) hg1 (fun q h => by have := hb1 q h; omega)); clear hO1 hg1 hb1 hv1))
                    go_roundw
                    case rel => exact ⟨j + 1, by omega, by go_num, Hg9.out.trans (by (repeat (first | exact gR _ | refine gO ?_ _ | refine gA ?_ _ | refine gD ?_ | refine gN ?_ _))), (by rw [Hns2.out, intVs_app', List.length_append]; exact HO9.out.grew (by (repeat (first | exact gR _ | refine gO ?_ _ | refine gA ?_ _ | refine gD ?_ | refine gN ?_ _))))⟩
                    case measure => (simp [intOf] <;> omega)
                · obtain rfl : j = row.length := by omega
                  rw [List.take_length, ← Hnb.out] at HOj
                  go_wp2
                  go_roundw
                  case rel => exact ⟨i + 1, by omega, by go_num, Hgj.out.trans (by (repeat (first | exact gR _ | refine gO ?_ _ | refine gA ?_ _ | refine gD ?_ | refine gN ?_ _))), HOj.out.grew (by (repeat (first | exact gR _ | refine gO ?_ _ | refine gA ?_ _ | refine gD ?_ | refine gN ?_ _)))⟩
                  case measure => (simp [intOf] <;> omega)
            · have hmi : ¬ (i : Int) < (m : Int) := by omega
              have hime : i = m := by omega
              have Hta : Hid (C.take i = C) := Lib.hid (List.take_of_length_le (by rw [Hm.out]; omega))
              rw [Hta.out] at HOi
              obtain ⟨nl, hnl⟩ : ∃ nl, nearB E row C = nl := ⟨_, rfl⟩
              rw [hnl] at HOi Hcb
              have Hnm : Hid (∀ d ∈ nl, 0 ≤ d ∧ d < ((2 * nE : Nat) : Int)) := Lib.hid (fun d hd => by
                rw [← hnl] at hd
                unfold nearB nearF at hd
                obtain ⟨u, _, hu⟩ := List.mem_flatMap.1 hd
                exact Hmr.out d (List.mem_filter.1 hu).1)
              have hnb : nl.length ≤ 6000 := by
                rw [← hnl]
                have h1 := nearB_len E row C
                have h3 : C.length * row.length ≤ 30 * 200 := Nat.mul_le_mul (by rw [Hm.out]; exact hm3) hrl
                omega
              obtain ⟨pN, cN, rfl⟩ := own_form HOi.out (k := 0) rfl
              have HmN : Hid (0 < nl.length → ∃ gN, pN = some ⟨gN, 0, none⟩ ∧ w4.heap.size ≤ gN ∧ gN < wr.heap.size ∧ ∀ t, t < nl.length → wr.cell? ⟨gN, t, none⟩ = some (.int .i64 (ge nl t))) := Lib.hid (fun h0 => by
                obtain ⟨gN, c9, e9, _, hBl, _, _, _, m9⟩ := HOi.out.some (k := 0) rfl h0
                obtain ⟨h1, h2⟩ := HOi.out.get (k := 0) rfl
                rcases h2 with ⟨h2, _⟩ | ⟨g', cap', h2, h3, h4, h5, h6, _, h8⟩
                · rw [h2] at e9; cases e9
                · simp only [Value.slice.injEq] at h2
                  exact ⟨g', h2.1, h3, h4, fun t ht => h8 t _ (intVs_get nl ht)⟩)
              have HOX2 := Lib.hid (HOX.out.grew Hgi.out)
              have Hgg : Hid (g < w4.heap.size) := Lib.hid (own_lt HOX.out (j := 0) rfl)
              have Hg25 : Hid (Grew w2 wr) := Lib.hid (Hg4.out.trans Hgi.out)
              have hgb : ¬ b = g := by have := HPl.out.lt; have := Hgs2.out; omega
              clear hnl HOi hil hi
              obtain ⟨wr5, hwr5⟩ : ∃ wr5, wr5 = wr := ⟨_, rfl⟩
              subst hwr5
              go_wp2
              go_loopw [91] (fun iv wk => ∃ i : Nat, i ≤ nl.length ∧ iv = .int .i64 i ∧ Gr (fun q => q = g) wr5 wk ∧ Owns wk g [rI g (2 * nE) (putK A nl X i)]) (fun iv _ => nl.length - (intOf iv).toNat)
              case atStart => exact ⟨0, Nat.zero_le _, rfl, Gr.of_grew _ (by (repeat (first | exact gR _ | refine gO ?_ _ | refine gA ?_ _ | refine gD ?_ | refine gN ?_ _))), HOX2.out.grew (by (repeat (first | exact gR _ | refine gO ?_ _ | refine gA ?_ _ | refine gD ?_ | refine gN ?_ _)))⟩
              case round =>
                obtain ⟨i2, hi2, rfl, hgk, hOk⟩ := hrel
                have Hgk := Lib.hid hgk
                have HOk := Lib.hid hOk
                have Hgw5 : Hid (Grew w2 wr) := Lib.hid (Hg25.out.gr hgk (fun q hq => by rw [hq]; exact Hgs2.out))
                have hszk := hgk.size
                clear hgk hOk
                by_cases hlk : i2 < nl.length
                · have hli : (i2 : Int) < (nl.length : Int) := by omega
                  obtain ⟨gN, rfl, hN1, hN2, hN3⟩ := HmN.out (by omega)
                  have hgN : ¬ gN = g := by have := Hgg.out; omega
                  have e1 := Hgk.out.cellEq hgN (hN3 i2 hlk)
                  have hdr := Hnm.out _ (ge_mem hlk)
                  obtain ⟨d, hd⟩ : ∃ d : Nat, ge nl i2 = (d : Int) := ⟨(ge nl i2).toNat, by omega⟩
                  rw [hd] at e1
                  have hd2 : d < 2 * nE := by omega
                  obtain ⟨o, ho⟩ : ∃ o : Nat, oth (d : Int) = (o : Int) := ⟨(oth d).toNat, by have := oth_in (d := d) (M := nE) (by omega) (by omega); omega⟩
                  have ho2 : o < 2 * nE := by have := oth_in (d := d) (M := nE) (by omega) (by omega); omega
                  have hx2 : bits BinOp.xor IntKind.i64 (d : Int) 1 = (o : Int) := by rw [← ho]; exact xor_small d (by omega)
                  obtain ⟨ob, hob⟩ : ∃ ob, outB A d = ob := ⟨_, rfl⟩
                  have Hou : Hid (∀ W1, Grew wr W1 → Calls Tryd.prog 32 #[.pointer (some ⟨b, 0, none⟩), .int .i64 d] W1 fun e w' => e = .returned (.bool ob) ∧ Grew W1 w') := Lib.hid (fun W1 h => outer_p HV.out hE0.out HR.out.e1 (HPl.out.grew (Hgw5.out.trans h)) d (by omega) _ hob)
                  have Hput : Hid (putK A nl X (i2 + 1) = if ob = true then putK A nl X i2 else if i2 = 0 then (putK A nl X i2).set d 0 else if i2 + 1 = nl.length then (putK A nl X i2).set d 1 else (putK A nl X i2).set o 2) := Lib.hid (by
                    show (if outB A (ge nl i2) = true then _ else _) = _
                    rw [hd, hob, ho, Int.toNat_natCast, Int.toNat_natCast])
                  have hdi : (d : Int) < ((2 * nE : Nat) : Int) := by omega
                  have hdi2 : (d : Int) < 2 * (nE : Int) := by omega
                  have hoi : (o : Int) < ((2 * nE : Nat) : Int) := by omega
                  have hoi2 : (o : Int) < 2 * (nE : Int) := by omega
                  have x1 := own_atI HOk.out (j := 0) rfl hd2
                  have x2 := own_fr HOk.out (j := 0) rfl d
                  have y1 := own_atI HOk.out (j := 0) rfl ho2
                  have y2 := own_fr HOk.out (j := 0) rfl o
                  have hgl := own_lt HOk.out (j := 0) rfl
                  clear hdr hd ho hob hN3
                  cases ob
                  · have Hput2 : Hid (putK A nl X (i2 + 1) = if i2 = 0 then (putK A nl X i2).set d 0 else if i2 + 1 = nl.length then (putK A nl X i2).set d 1 else (putK A nl X i2).set o 2) := Lib.hid (by rw [Hput.out]; simp)
                    by_cases hz : i2 = 0
                    · have hzb : ((i2 : Int) == 0) = true := beq_iff_eq.2 (by omega)
                      have Hput3 : Hid (putK A nl X (i2 + 1) = (putK A nl X i2).set d 0) := Lib.hid (by rw [Hput2.out, if_pos hz])
                      clear hz
                      go_wp2_with ((go_at_call 32; apply Calls.mono; (with_reducible exact Hou.out _ (by (repeat (first | exact gR _ | refine gO ?_ _ | refine gA ?_ _ | refine gD ?_ | refine gN ?_ _)))); rintro e w' ⟨rfl, x, rfl⟩))
                      go_roundw
                      case rel => exact ⟨i2 + 1, by omega, by go_num, (Hgk.out.setCell rfl _).over (by (repeat (first | exact gR _ | refine gO ?_ _ | refine gA ?_ _ | refine gD ?_ | refine gN ?_ _))), by rw [Hput3.out]; exact (own_setI HOk.out (j := 0) rfl d 0).grew (by (repeat (first | exact gR _ | refine gO ?_ _ | refine gA ?_ _ | refine gD ?_ | refine gN ?_ _)))⟩
                      case measure => (simp [intOf] <;> omega)
                    · have hzb : ((i2 : Int) == 0) = false := beq_eq_false_iff_ne.2 (by omega)
                      by_cases hl : i2 + 1 = nl.length
                      · have hlb : ((i2 : Int) == (nl.length : Int) - 1) = true := beq_iff_eq.2 (by omega)
                        have Hput3 : Hid (putK A nl X (i2 + 1) = (putK A nl X i2).set d 1) := Lib.hid (by rw [Hput2.out, if_neg hz, if_pos hl])
                        clear hz hl
                        go_wp2_with ((go_at_call 32; apply Calls.mono; (with_reducible exact Hou.out _ (by (repeat (first | exact gR _ | refine gO ?_ _ | refine gA ?_ _ | refine gD ?_ | refine gN ?_ _)))); rintro e w' ⟨rfl, x, rfl⟩))
                        go_roundw
                        case rel => exact ⟨i2 + 1, by omega, by go_num, (Hgk.out.setCell rfl _).over (by (repeat (first | exact gR _ | refine gO ?_ _ | refine gA ?_ _ | refine gD ?_ | refine gN ?_ _))), by rw [Hput3.out]; exact (own_setI HOk.out (j := 0) rfl d 1).grew (by (repeat (first | exact gR _ | refine gO ?_ _ | refine gA ?_ _ | refine gD ?_ | refine gN ?_ _)))⟩
                        case measure => (simp [intOf] <;> omega)
                      · have hlb : ((i2 : Int) == (nl.length : Int) - 1) = false := beq_eq_false_iff_ne.2 (by omega)
                        have Hput3 : Hid (putK A nl X (i2 + 1) = (putK A nl X i2).set o 2) := Lib.hid (by rw [Hput2.out, if_neg hz, if_neg hl])
                        clear hz hl
                        go_wp2_with ((go_at_call 32; apply Calls.mono; (with_reducible exact Hou.out _ (by (repeat (first | exact gR _ | refine gO ?_ _ | refine gA ?_ _ | refine gD ?_ | refine gN ?_ _)))); rintro e w' ⟨rfl, x, rfl⟩))
                        go_roundw
                        case rel => exact ⟨i2 + 1, by omega, by go_num, (Hgk.out.setCell rfl _).over (by (repeat (first | exact gR _ | refine gO ?_ _ | refine gA ?_ _ | refine gD ?_ | refine gN ?_ _))), by rw [Hput3.out]; exact (own_setI HOk.out (j := 0) rfl o 2).grew (by (repeat (first | exact gR _ | refine gO ?_ _ | refine gA ?_ _ | refine gD ?_ | refine gN ?_ _)))⟩
                        case measure => (simp [intOf] <;> omega)
                  · have Hput3 : Hid (putK A nl X (i2 + 1) = putK A nl X i2) := Lib.hid (by rw [Hput.out]; simp)
                    go_wp2_with ((go_at_call 32; apply Calls.mono; (with_reducible exact Hou.out _ (by (repeat (first | exact gR _ | refine gO ?_ _ | refine gA ?_ _ | refine gD ?_ | refine gN ?_ _)))); rintro e w' ⟨rfl, x, rfl⟩))
                    go_roundw
                    case rel => exact ⟨i2 + 1, by omega, by go_num, Hgk.out.over (by (repeat (first | exact gR _ | refine gO ?_ _ | refine gA ?_ _ | refine gD ?_ | refine gN ?_ _))), by rw [Hput3.out]; exact HOk.out.grew (by (repeat (first | exact gR _ | refine gO ?_ _ | refine gA ?_ _ | refine gD ?_ | refine gN ?_ _)))⟩
                    case measure => (simp [intOf] <;> omega)
                · obtain rfl : i2 = nl.length := by omega
                  rw [← Hcb.out] at HOk
                  go_wp2
                  go_roundw
                  case rel => exact ⟨k + 1, by omega, by go_num, Hgw5.out.trans (by (repeat (first | exact gR _ | refine gO ?_ _ | refine gA ?_ _ | refine gD ?_ | refine gN ?_ _))), HOk.out.grew (by (repeat (first | exact gR _ | refine gO ?_ _ | refine gA ?_ _ | refine gD ?_ | refine gN ?_ _)))⟩
                  case measure => (simp [intOf] <;> omega)
        · have hkn : ¬ ((k + 2 : Nat) : Int) < (nO : Int) := by omega
          have Hkk : Hid (k = nO - 2) := Lib.hid (by omega)
          have hXl : (buildK nO E A O k).length = 2 * nE := by rw [buildK_len, HnE.out]
          have HXl := Lib.hid hXl
          clear hXl
          go_wp2
          go_ret2
          rw [Hf.out, ← Hkk.out]
          have hOf := HO.out.grew (show Grew wr _ by (repeat (first | exact gR _ | refine gO ?_ _ | refine gA ?_ _ | refine gD ?_ | refine gN ?_ _)))
          obtain ⟨q, cap, e, h1, h2, _⟩ := hOf.ints (k := 0) rfl HXl.out (fun x hx => by have := buildK_rng nO E A O k x hx; omega)
          cases e
          exact ⟨Hgo.out.trans (Hgr.out.trans (by (repeat (first | exact gR _ | refine gO ?_ _ | refine gA ?_ _ | refine gD ?_ | refine gN ?_ _)))), _, _, by rw [HXl.out]; rfl, h1, by rw [HXl.out]; exact Nat.le_refl _, by simp only [maxLen]; omega⟩
end Go.Proofs.YtlealdicoceekaaDoor

/- Build, plain: the reference's labels are those of the program. -/
namespace Go.Proofs.YtlealdicoceekaaDoor
open Go.RowKit

/-- The labels 2 of the reference. -/
def midR (E : List (Int × Int)) (C : List Int) (w : Int) (p : Nat) (X : List Int) : Nat → List Int
  | 0 => X
  | m + 1 => (midR E C w p X m).set (dartF E (ge C (p + 1 + m)) w).toNat 2
/-- The labels that a vertex brings, between the places p and q of the contour. -/
def putR (fin : Bool) (E : List (Int × Int)) (C : List Int) (w : Int) (p q : Nat) (X : List Int) : List Int :=
  midR E C w p (if fin = true then X else (X.set (dartF E w (ge C p)).toNat 0).set (dartF E w (ge C q)).toNat 1) (q - p - 1)
noncomputable def refK (N : Int) (E : List (Int × Int)) (A : List (List Int)) (O : List Int) : Nat → List Int
  | 0 => List.replicate (2 * E.length) (-1)
  | k + 1 => putR (decide (k + 3 = O.length)) E (contG N E A O k) (ge O (k + 2)) (lo (stepI E (contG N E A O k) (ge O (k + 2)))).toNat (hi (stepI E (contG N E A O k) (ge O (k + 2)))).toNat (refK N E A O k)

theorem midR_len (E : List (Int × Int)) (C : List Int) (w : Int) (p : Nat) (X : List Int) : ∀ m, (midR E C w p X m).length = X.length
  | 0 => rfl
  | m + 1 => by unfold midR; rw [List.length_set]; exact midR_len E C w p X m
theorem midR_set (E : List (Int × Int)) (C : List Int) (w : Int) (p : Nat) (X : List Int) (b : Nat) (x : Int) : ∀ m, (∀ j, j < m → (dartF E (ge C (p + 1 + j)) w).toNat ≠ b) → midR E C w p (X.set b x) m = (midR E C w p X m).set b x
  | 0, _ => rfl
  | m + 1, h => by
    unfold midR
    rw [midR_set E C w p X b x m (fun j hj => h j (by omega)), List.set_comm _ _ (h m (by omega)).symm]
theorem list_one {L : List Int} {d : Int} (hn : L.Nodup) (hd : d ∈ L) (h : ∀ x ∈ L, x = d) : L = [d] := by
  match L, hn, hd, h with
  | [x], _, _, h => rw [h x (by simp)]
  | x :: y :: L, hn, _, h =>
    have e1 := h x (by simp)
    have e2 := h y (by simp)
    rw [e1, e2] at hn
    simp at hn
theorem incr_lb {L : List Nat} (h : L.Pairwise (· < ·)) {p : Nat} (hp : ∀ x ∈ L, p ≤ x) : ∀ i (hi : i < L.length), p + i ≤ L[i]
  | 0, hi => hp _ (List.getElem_mem hi)
  | i + 1, hi => by
    have h1 := incr_lb h hp i (by omega)
    have := (List.pairwise_iff_getElem.1 h) i (i + 1) (by omega) hi (by omega)
    omega
theorem incr_ub {L : List Nat} (h : L.Pairwise (· < ·)) {q : Nat} (hq : ∀ x ∈ L, x ≤ q) : ∀ m i (hi : i < L.length), L.length = i + 1 + m → L[i] + m ≤ q
  | 0, i, hi, _ => hq _ (List.getElem_mem hi)
  | m + 1, i, hi, e => by
    have h1 := incr_ub h hq m (i + 1) (by omega) (by omega)
    have := (List.pairwise_iff_getElem.1 h) i (i + 1) (by omega) (by omega) (by omega)
    omega
section
variable {N : Int} {E : List (Int × Int)} {A : List (List Int)} {O : List Int}
theorem nearF_dart (hT : trgB N E A = true) {v : Nat} (hv : v < A.length) (u : Int) : nearF E (rowOf A v) u = if joinB E u v = true then [dartF E v u] else [] := by
  have hV := trg_valid hT
  by_cases h : joinB E u v = true
  · rw [if_pos h]
    obtain ⟨d, h0, h1, h2, h3⟩ := dart_nbr (join_nbr.1 h)
    have hd : isD E d := ⟨h0, h1⟩
    have e := dartF_eq hT hd h2 h3
    rw [e]
    obtain ⟨v', hv', hm, ht⟩ := row_of hV h0 h1
    have : v' = v := by omega
    subst this
    refine list_one ((row_nodup hV hv).sublist List.filter_sublist) (List.mem_filter.2 ⟨hm, by simpa using h3⟩) fun x hx => ?_
    obtain ⟨x1, x2⟩ := List.mem_filter.1 hx
    obtain ⟨m0, m1, m2⟩ := mem_row hV hv x1
    rw [← e]
    exact (dartF_eq hT ⟨m0, m1⟩ m2 (by simpa using x2)).symm
  · rw [if_neg h]
    unfold nearF
    rw [List.filter_eq_nil_iff]
    intro x hx k
    obtain ⟨m0, m1, m2⟩ := mem_row hV hv hx
    apply h
    rw [join_nbr]
    have := nbr_dart (E := E) m0 m1
    rw [m2, (by simpa using k : tailE E (oth x) = u)] at this
    exact this
theorem nearB_dart (hT : trgB N E A = true) {v : Nat} (hv : v < A.length) (C : List Int) : nearB E (rowOf A v) C = (stepI E C v).map (fun i => dartF E v (ge C i.toNat)) := by
  have key : ∀ j, j ≤ C.length → nearB E (rowOf A v) (C.take j) = (stepIk E C v j).map (fun i => dartF E v (ge C i.toNat)) := by
    intro j
    induction j with
    | zero => intro _; rfl
    | succ j ih =>
      intro hj
      rw [nearB_succ (by omega), ih (by omega), stepIk_succ, List.map_append, nearF_dart hT hv]
      congr 1
      split <;> simp
  have := key C.length (Nat.le_refl _)
  rw [List.take_length] at this
  exact this
theorem stepI_all {C : List Int} {w : Int} {p q : Nat} (hpq : p < q) (hin : ∀ i ∈ stepI E C w, (p : Int) ≤ i ∧ i ≤ q) (hl : (stepI E C w).length = q - p + 1) {i : Nat} (hi : i < (stepI E C w).length) : (stepI E C w)[i] = ((p + i : Nat) : Int) := by
  unfold stepI at hin hl hi ⊢
  rw [List.length_map] at hl
  rw [List.getElem_map]
  have hs : ((List.range C.length).filter fun i => joinB E (ge C i) w).Pairwise (· < ·) := List.Pairwise.sublist List.filter_sublist List.pairwise_lt_range
  have hi' : i < ((List.range C.length).filter fun i => joinB E (ge C i) w).length := by rw [List.length_map] at hi; exact hi
  have h1 := incr_lb hs (p := p) (fun x hx => by have := hin x (List.mem_map.2 ⟨x, hx, rfl⟩); omega) i hi'
  have h2 := incr_ub hs (q := q) (fun x hx => by have := hin x (List.mem_map.2 ⟨x, hx, rfl⟩); omega) (q - p - i) i hi' (by omega)
  omega

/-- A step of the peeling: what the contour is, and the darts of the new vertex. -/
structure NewV (N : Int) (E : List (Int × Int)) (A : List (List Int)) (O : List Int) (k : Nat) (C : List Int) (v p q : Nat) : Prop where
  hv : ge O (k + 2) = (v : Int)
  vl : v < A.length
  con : contP N E A O k = some C
  gos : Goes N E O k C
  new : (v : Int) ∉ C
  pq : p < q
  ql : q < C.length
  lo : lo (stepI E C v) = p
  hi : hi (stepI E C v) = q
  nxt : contP N E A O (k + 1) = some (C.take (p + 1) ++ (v : Int) :: C.drop q)
  len : (nearB E (rowOf A v) C).length = q - p + 1
  at_ : ∀ i, i < q - p + 1 → ge (nearB E (rowOf A v) C) i = dartF E v (ge C (p + i))
  drt : ∀ i, i < q - p + 1 → isD E (dartF E v (ge C (p + i))) ∧ tailE E (dartF E v (ge C (p + i))) = v ∧ tailE E (oth (dartF E v (ge C (p + i)))) = ge C (p + i) ∧ dartF E (ge C (p + i)) v = oth (dartF E v (ge C (p + i)))
theorem new_v (h : chkO N E A O = true) {k : Nat} (hk : k + 2 < O.length) : ∃ C v p q, NewV N E A O k C v p q := by
  obtain ⟨hT, hl, ⟨h0, h1, h2⟩, hc⟩ := chkO_iff.1 h
  have hV := trg_valid hT
  have hal := hV.al
  have hF := (chkR_iff.1 (chk_same.trans h)).2.2.1
  obtain ⟨C, hC, hG⟩ := cont_goes h (j := k) (by omega)
  obtain ⟨D, hD, _⟩ := cont_goes h (j := k + 1) (by omega)
  have g1 := cont_same h (j := k) (by omega)
  have g2 := cont_same h (j := k + 1) (by omega)
  obtain ⟨_, _, hin, _⟩ := cont_fwd hT (head_fine hT (by omega) h0 h1) (by omega) hC
  have hfk := hF.mono (show k + 2 + 1 ≤ O.length by omega)
  obtain ⟨_, f0, f1, f2⟩ := hfk.pred (by omega)
  obtain ⟨v, hv⟩ : ∃ v : Nat, ge O (k + 2) = (v : Int) := ⟨(ge O (k + 2)).toNat, by omega⟩
  rw [hD] at g2
  unfold contR at g2
  rw [g1, hC] at g2
  have hs : spanF C v (stepI E C v) = some D := by rw [← hv]; exact step_span g2
  obtain ⟨p, q, hpq, hq, hlo, hhi, rfl, hp, hq', hil⟩ := span_inv (fun i hi => stepI_pos hi) hs
  have hvl : v < A.length := by omega
  have hne : stepI E C v ≠ [] := fun e => by rw [e] at hp; cases hp
  have hin2 : ∀ i ∈ stepI E C v, (p : Int) ≤ i ∧ i ≤ q := fun i hi => by
    have a := (lo_mem (fun i hi => (stepI_pos hi).1) hne).2 i hi
    have b := (hi_mem (fun i hi => (stepI_pos hi).1) hne).2 i hi
    omega
  have hal2 := fun i hi => stepI_all hpq hin2 hil (i := i) hi
  refine ⟨C, v, p, q, hv, hvl, hC, hG, fun hm => f2 (hv ▸ hin _ hm), hpq, hq, hlo, hhi, hD, ?_, fun i hi => ?_, fun i hi => ?_⟩
  · rw [nearB_dart hT hvl, List.length_map]; exact hil
  · rw [nearB_dart hT hvl, ge_eq _ (by rw [List.length_map]; omega), List.getElem_map, hal2 i (by omega)]
    rfl
  · have hm : ((p + i : Nat) : Int) ∈ stepI E C v := by rw [← hal2 i (by omega)]; exact List.getElem_mem _
    have hj := stepI_join hm
    obtain ⟨d, d0, d1, d2, d3⟩ := dart_nbr (join_nbr.1 hj)
    have hd : isD E d := ⟨d0, d1⟩
    rw [dartF_eq hT hd d2 d3]
    exact ⟨hd, d2, d3, dartF_eq hT hd.oth d3 (by rw [oth_oth]; exact d2)⟩

theorem tailF_eq (hV : vRot N E A) {d : Int} (hd : isD E d) : tailF N E A d = tailE E d := by
  unfold tailF; rw [if_pos ⟨vRotB_iff.2 hV, hd.1, hd.2⟩]
theorem rts_ord (hT : trgB N E A = true) (h : chkO N E A O = true) : rts E A = [ge O 0, ge O 1, ge O (O.length - 1)] := by
  obtain ⟨_, hl, ⟨h0, h1, h2⟩, _⟩ := chkO_iff.1 h
  have hV := trg_valid hT
  have hE := trg_pos hT
  have e0 : isD E 0 := ⟨by omega, by omega⟩
  have e1 : isD E 1 := ⟨by omega, by omega⟩
  have f0 := nxF_in hV e0.1 e0.2
  have f1 := nxF_in hV f0.1 f0.2
  have n0 : nextF N E A 0 = nxF A 0 := by unfold nextF; rw [if_pos ⟨vRotB_iff.2 hV, e0.1, e0.2⟩]; rfl
  have n1 : nextF N E A (nxF A 0) = nxF A (nxF A 0) := by unfold nextF; rw [if_pos ⟨vRotB_iff.2 hV, f0.1, f0.2⟩]; rfl
  rw [rts_eq, h0, h1, show O.length - 1 = (N - 1).toNat by omega, h2, tailF_eq hV e0, tailF_eq hV e1]
  unfold thirdF
  rw [n0, n1, tailF_eq hV ⟨f1.1, f1.2⟩]
theorem fine_inj {i j : Nat} (h : Fine N O O.length) (hi : i < O.length) (hj : j < O.length) (e : ge O i = ge O j) : i = j := by
  have hn := h.1
  rw [List.take_length] at hn
  rw [ge_eq O hi, ge_eq O hj] at e
  exact (List.getElem_inj hn).1 e
theorem put_eq (h : chkO N E A O = true) {k : Nat} {C : List Int} {v p q : Nat} (hk : k + 2 < O.length) (hN : NewV N E A O k C v p q) (X : List Int) :
    putK A (nearB E (rowOf A v) C) X (nearB E (rowOf A v) C).length = putR (decide (k + 3 = O.length)) E C v p q X := by
  have hT := (chkO_iff.1 h).1
  have hro := rts_ord hT h
  have hF := (chkR_iff.1 (chk_same.trans h)).2.2.1
  have hpq := hN.pq
  have hv := hN.hv
  have hdd : ∀ i, i < q - p + 1 → outB A (ge (nearB E (rowOf A v) C) i) = decide ((v : Int) ∈ rts E A ∧ ge C (p + i) ∈ rts E A) := fun i hi => by
    obtain ⟨d1, d2, d3, d4⟩ := hN.drt i hi
    rw [hN.at_ i hi, Bool.eq_iff_iff, outB_iff hT d1, d2, d3, decide_eq_true_iff]
  have hmid : ∀ i, i < q - p → 0 < i → (dartF E (ge C (p + i)) v).toNat = (oth (ge (nearB E (rowOf A v) C) i)).toNat := fun i hi _ => by
    rw [hN.at_ i (by omega), (hN.drt i (by omega)).2.2.2]
  by_cases hfin : k + 3 = O.length
  · unfold putR
    rw [if_pos (decide_eq_true hfin)]
    have hvr : (v : Int) ∈ rts E A := by rw [hro, ← hv, show k + 2 = O.length - 1 by omega]; simp
    obtain ⟨hT', hl, ⟨h0, h1, h2⟩, hc⟩ := chkO_iff.1 h
    have tj := third_join hT
    rw [← h0, ← h1, ← h2, show (N - 1).toNat = k + 2 by omega, hv] at tj
    have hm0 : ((0 : Nat) : Int) ∈ stepI E C v := stepI_of (by have := hN.gos.two; omega) (by rw [hN.gos.fst]; exact tj.1)
    have hm1 : ((C.length - 1 : Nat) : Int) ∈ stepI E C v := stepI_of (by have := hN.gos.two; omega) (by rw [hN.gos.lst]; exact tj.2.1)
    have a := (lo_mem (fun i hi => (stepI_pos hi).1) (List.ne_nil_of_mem hm0)).2 _ hm0
    have b := (hi_mem (fun i hi => (stepI_pos hi).1) (List.ne_nil_of_mem hm0)).2 _ hm1
    rw [hN.lo] at a
    rw [hN.hi] at b
    have hql := hN.ql
    obtain rfl : p = 0 := by omega
    have hqe : q = C.length - 1 := by omega
    have o0 : outB A (ge (nearB E (rowOf A v) C) 0) = true := by
      rw [hdd 0 (by omega), decide_eq_true_iff]
      refine ⟨hvr, ?_⟩
      rw [Nat.add_zero, hN.gos.fst, hro]; simp
    have o1 : outB A (ge (nearB E (rowOf A v) C) q) = true := by
      rw [hdd q (by omega), decide_eq_true_iff]
      refine ⟨hvr, ?_⟩
      rw [Nat.zero_add, hqe, hN.gos.lst, hro]; simp
    have om : ∀ i, 0 < i → i < q → outB A (ge (nearB E (rowOf A v) C) i) = false := fun i h0 h1 => by
      rw [hdd i (by omega), decide_eq_false_iff_not]
      rintro ⟨_, hm⟩
      rw [Nat.zero_add, hro] at hm
      simp only [List.mem_cons, List.not_mem_nil, or_false] at hm
      have hnd := hN.gos.nd
      rcases hm with e | e | e
      · rw [← hN.gos.fst, ge_eq C (by omega), ge_eq C (by omega)] at e
        have := (List.getElem_inj hnd).1 e
        omega
      · rw [← hN.gos.lst, ge_eq C (by omega), ge_eq C (by omega)] at e
        have := (List.getElem_inj hnd).1 e
        omega
      · rw [show O.length - 1 = k + 2 by omega, hv] at e
        exact hN.new (by rw [← e]; exact ge_mem (by omega))
    have key : ∀ i, i < q → putK A (nearB E (rowOf A v) C) X (i + 1) = midR E C v 0 X i := by
      intro i
      induction i with
      | zero => intro _; unfold putK; rw [if_pos o0]; rfl
      | succ i ih =>
        intro hi
        unfold putK
        rw [om (i + 1) (by omega) (by omega), if_neg (by simp), if_neg (by omega), if_neg (by rw [hN.len]; omega), ih (by omega)]
        show _ = (midR E C v 0 X i).set _ 2
        rw [show 0 + 1 + i = 0 + (i + 1) by omega, hmid (i + 1) (by omega) (by omega)]
    rw [hN.len, Nat.sub_zero]
    show (if outB A (ge _ q) = true then putK A _ X q else _) = _
    rw [if_pos o1]
    have := key (q - 1) (by omega)
    rw [show q - 1 + 1 = q by omega] at this
    exact this
  · unfold putR
    rw [if_neg (by simpa using hfin)]
    have hvr : (v : Int) ∉ rts E A := by
      rw [hro, ← hv]
      simp only [List.mem_cons, List.not_mem_nil, or_false]
      rintro (e | e | e)
      · have := fine_inj hF (by omega) (by omega) e; omega
      · have := fine_inj hF (by omega) (by omega) e; omega
      · have := fine_inj hF (by omega) (by omega) e; omega
    have om : ∀ i, i < q - p + 1 → outB A (ge (nearB E (rowOf A v) C) i) = false := fun i hi => by
      rw [hdd i hi, decide_eq_false_iff_not]
      exact fun k => hvr k.1
    have key : ∀ i, i < q - p → putK A (nearB E (rowOf A v) C) X (i + 1) = midR E C v p (X.set (dartF E v (ge C p)).toNat 0) i := by
      intro i
      induction i with
      | zero =>
        intro _
        unfold putK
        rw [om 0 (by omega), if_neg (by simp), if_pos rfl, hN.at_ 0 (by omega)]
        rfl
      | succ i ih =>
        intro hi
        unfold putK
        rw [om (i + 1) (by omega), if_neg (by simp), if_neg (by omega), if_neg (by rw [hN.len]; omega), ih (by omega)]
        show _ = (midR E C v p _ i).set _ 2
        rw [show p + 1 + i = p + (i + 1) by omega, hmid (i + 1) (by omega) (by omega)]
    rw [hN.len]
    show (if outB A (ge _ (q - p)) = true then putK A _ X (q - p) else if q - p = 0 then _ else if q - p + 1 = _ then _ else _) = _
    have h2 := key (q - p - 1) (by omega)
    rw [show q - p - 1 + 1 = q - p by omega] at h2
    rw [om (q - p) (by omega), if_neg (by simp), if_neg (by omega), if_pos (by rw [hN.len]), h2, hN.at_ (q - p) (by omega), show p + (q - p) = q by omega]
    refine (midR_set E C v p _ _ 1 _ fun j hj e => ?_).symm
    obtain ⟨a1, a2, a3, a4⟩ := hN.drt (j + 1) (by omega)
    obtain ⟨b1, b2, b3, b4⟩ := hN.drt (q - p) (by omega)
    rw [show p + (q - p) = q by omega] at b1 b2 b3 b4
    rw [show p + 1 + j = p + (j + 1) by omega, a4] at e
    have e2 : oth (dartF E v (ge C (p + (j + 1)))) = dartF E v (ge C q) := by
      have := a1.oth.1
      have := b1.1
      omega
    rw [e2, b2] at a3
    exact hN.new (by rw [a3]; exact ge_mem (by have := hN.ql; omega))
theorem refK_eq (h : chkO N E A O = true) : ∀ k, k + 2 ≤ O.length → refK N E A O k = buildK N E A O k
  | 0, _ => rfl
  | k + 1, hk => by
    obtain ⟨C, v, p, q, hN⟩ := new_v h (k := k) (by omega)
    have ih := refK_eq h k (by omega)
    have hc : contG N E A O k = C := by unfold contG; rw [hN.con]; rfl
    unfold refK buildK
    rw [hc, hN.hv, Int.toNat_natCast, ih, put_eq h (by omega) hN, hN.lo, hN.hi]
    rfl
end
end Go.Proofs.YtlealdicoceekaaDoor

/- The labels of a canonical order, plain: which darts get them. -/
namespace Go.Proofs.YtlealdicoceekaaDoor
open Go.RowKit

theorem lab_set_eq {X : List Int} {d : Int} {i : Nat} (hi : i < X.length) (h : d.toNat = i) (x : Int) : lab (X.set i x) d = x := by
  unfold lab; rw [h, ge_set_same _ hi]
theorem lab_set_ne {X : List Int} {d : Int} {i : Nat} (h : d.toNat ≠ i) (x : Int) : lab (X.set i x) d = lab X d := by
  unfold lab; rw [ge_set_other _ (fun e => h e.symm)]
section
variable {N : Int} {E : List (Int × Int)} {A : List (List Int)} {O : List Int}
theorem midR_hit {C : List Int} {v p : Nat} {X : List Int} {d : Int} (hd : isD E d) (hX : X.length = 2 * E.length) : ∀ m, (∃ j, j < m ∧ d = dartF E (ge C (p + 1 + j)) v) → lab (midR E C v p X m) d = 2
  | 0, ⟨j, hj, _⟩ => by omega
  | m + 1, ⟨j, hj, e⟩ => by
    show lab ((midR E C v p X m).set (dartF E (ge C (p + 1 + m)) v).toNat 2) d = 2
    by_cases h : d.toNat = (dartF E (ge C (p + 1 + m)) v).toNat
    · exact lab_set_eq (by rw [midR_len, hX, ← h]; have := hd.1; have := hd.2; omega) h 2
    · rw [lab_set_ne h]
      exact midR_hit hd hX m ⟨j, by
        rcases Nat.lt_or_ge j m with k | k
        · exact k
        · obtain rfl : j = m := by omega
          exact absurd (by rw [e]) h, e⟩
theorem midR_mis {C : List Int} {v p : Nat} {X : List Int} {d : Int} : ∀ m, (∀ j, j < m → d.toNat ≠ (dartF E (ge C (p + 1 + j)) v).toNat) → lab (midR E C v p X m) d = lab X d
  | 0, _ => rfl
  | m + 1, h => by
    show lab ((midR E C v p X m).set (dartF E (ge C (p + 1 + m)) v).toNat 2) d = _
    rw [lab_set_ne (h m (by omega))]
    exact midR_mis m fun j hj => h j (by omega)

/-- The darts of an earlier neighbour of a new vertex. -/
theorem nbr_at (h : chkO N E A O = true) {k : Nat} {C : List Int} {v p z : Nat} (hk : k + 2 < O.length) (hN : NewV N E A O k C v p z) {u : Int} (hu : u ∈ O.take (k + 2)) (hj : joinB E u v = true) : ∃ i, i < z - p + 1 ∧ u = ge C (p + i) := by
  obtain ⟨hT, hl, ⟨h0, h1, h2⟩, hc⟩ := chkO_iff.1 h
  have hF := (chkR_iff.1 (chk_same.trans h)).2.2.1
  obtain ⟨hCR, hnd, hin, _⟩ := cont_fwd hT (head_fine hT (by omega) h0 h1) (by omega) hN.con
  have g2 := cont_same h (j := k + 1) (by omega)
  rw [hN.nxt] at g2
  unfold contR at g2
  rw [hCR, Option.bind_some, hN.hv] at g2
  have hsp := step_span g2
  have hcnt : (O.take (k + 2)).countP (fun u => joinB E u v) = (stepI E C v).length := by
    unfold stepF at g2
    split at g2
    · cases g2
    · rename_i hn; exact Classical.byContradiction fun hh => hn hh
  have hSn : (O.take (k + 2)).Nodup := (hF.mono (by omega)).1
  -- all earlier neighbours lie on the contour
  have hall : ∀ u ∈ (O.take (k + 2)).filter (fun u => joinB E u v), u ∈ C.filter (fun u => joinB E u v) := by
    have hsub : ∀ u ∈ C.filter (fun u => joinB E u v), u ∈ (O.take (k + 2)).filter (fun u => joinB E u v) := fun u hu => by
      rw [List.mem_filter] at hu ⊢
      exact ⟨hin u hu.1, hu.2⟩
    have hlen : ((O.take (k + 2)).filter (fun u => joinB E u v)).length ≤ (C.filter (fun u => joinB E u v)).length := by
      rw [← List.countP_eq_length_filter, hcnt]
      have e : (C.filter (fun u => joinB E u v)).length = (stepI E C v).length := by
        have key : ∀ j, j ≤ C.length → ((C.take j).filter (fun u => joinB E u v)).length = (stepIk E C v j).length := by
          intro j
          induction j with
          | zero => intro _; rfl
          | succ j ih =>
            intro hj
            rw [List.take_succ_eq_append_getElem (by omega), List.filter_append, List.length_append, ih (by omega), stepIk_succ, List.length_append, ← ge_eq C (by omega)]
            congr 1
            by_cases hb : joinB E (ge C j) v = true
            · simp [hb]
            · simp [hb]
        have := key C.length (Nat.le_refl _)
        rw [List.take_length] at this
        exact this
      omega
    intro u hu
    have hCn : (C.filter (fun u => joinB E u v)).Nodup := hnd.sublist List.filter_sublist
    apply Classical.byContradiction
    intro hno
    have h3 := List.Nodup.length_le_of_subset (List.nodup_cons.2 ⟨hno, hCn⟩) (l₂ := (O.take (k + 2)).filter (fun u => joinB E u v)) (fun x hx => by
      rcases List.mem_cons.1 hx with rfl | hx
      · exact hu
      · exact hsub x hx)
    simp only [List.length_cons] at h3
    omega
  obtain ⟨huC, _⟩ := List.mem_filter.1 (hall u (List.mem_filter.2 ⟨hu, hj⟩))
  obtain ⟨i, hi, rfl⟩ := mem_ge.1 huC
  have hmI := stepI_of hi hj
  have hne := List.ne_nil_of_mem hmI
  have a := (lo_mem (fun i hi => (stepI_pos hi).1) hne).2 _ hmI
  have b := (hi_mem (fun i hi => (stepI_pos hi).1) hne).2 _ hmI
  rw [hN.lo] at a
  rw [hN.hi] at b
  exact ⟨i - p, by omega, by congr 1; omega⟩

/-- What a step does to the label of a dart at the new vertex that had none, and to the others. -/
theorem put_lab (hT : trgB N E A = true) {k : Nat} {C : List Int} {v p z : Nat} (hN : NewV N E A O k C v p z) {fin : Bool} {X : List Int} (hX : X.length = 2 * E.length) {d : Int} (hd : isD E d) :
    (∃ i, p < i ∧ i < z ∧ d = dartF E (ge C i) v ∧ lab (putR fin E C v p z X) d = 2) ∨
    ((∀ i, p < i → i < z → d ≠ dartF E (ge C i) v) ∧ ((fin = false ∧ d = dartF E v (ge C p) ∧ lab (putR fin E C v p z X) d = 0) ∨ (fin = false ∧ d = dartF E v (ge C z) ∧ lab (putR fin E C v p z X) d = 1) ∨
      ((fin = false → d ≠ dartF E v (ge C p) ∧ d ≠ dartF E v (ge C z)) ∧ lab (putR fin E C v p z X) d = lab X d))) := by
  have hpz := hN.pq
  have hA : ∀ i, p ≤ i → i ≤ z → isD E (dartF E v (ge C i)) ∧ tailE E (dartF E v (ge C i)) = v ∧ tailE E (oth (dartF E v (ge C i))) = ge C i ∧ dartF E (ge C i) v = oth (dartF E v (ge C i)) := fun i h1 h2 => by
    have := hN.drt (i - p) (by omega)
    rwa [show p + (i - p) = i by omega] at this
  by_cases h1 : ∃ i, p < i ∧ i < z ∧ d = dartF E (ge C i) v
  · obtain ⟨i, hi1, hi2, e⟩ := h1
    refine Or.inl ⟨i, hi1, hi2, e, ?_⟩
    unfold putR
    refine midR_hit hd ?_ _ ⟨i - p - 1, by omega, by rw [show p + 1 + (i - p - 1) = i by omega]; exact e⟩
    split
    · exact hX
    · rw [List.length_set, List.length_set]; exact hX
  · have hno : ∀ i, p < i → i < z → d ≠ dartF E (ge C i) v := fun i a b e => h1 ⟨i, a, b, e⟩
    refine Or.inr ⟨hno, ?_⟩
    have hm : lab (putR fin E C v p z X) d = lab (if fin = true then X else (X.set (dartF E v (ge C p)).toNat 0).set (dartF E v (ge C z)).toNat 1) d := by
      unfold putR
      refine midR_mis _ fun j hj e => hno (p + 1 + j) (by omega) (by omega) ?_
      have a := (hA (p + 1 + j) (by omega) (by omega))
      have := a.1.oth.1
      rw [← a.2.2.2] at this
      have := hd.1
      omega
    have hpp := hA p (Nat.le_refl _) (by omega)
    have hzz := hA z (by omega) (Nat.le_refl _)
    have hne : dartF E v (ge C p) ≠ dartF E v (ge C z) := fun e => by
      have e2 : ge C p = ge C z := by rw [← hpp.2.2.1, e, hzz.2.2.1]
      rw [ge_eq C (by have := hN.ql; omega), ge_eq C hN.ql] at e2
      have := (List.getElem_inj hN.gos.nd).1 e2
      omega
    rw [hm]
    cases fin
    · rw [if_neg (by simp)]
      by_cases hz : d = dartF E v (ge C z)
      · refine Or.inr (Or.inl ⟨rfl, hz, lab_set_eq ?_ (by rw [hz]) 1⟩)
        rw [List.length_set, hX]
        have := hzz.1.1; have := hzz.1.2
        omega
      · have hz2 : d.toNat ≠ (dartF E v (ge C z)).toNat := fun e => hz (by have := hd.1; have := hzz.1.1; omega)
        rw [lab_set_ne hz2]
        by_cases hp : d = dartF E v (ge C p)
        · refine Or.inl ⟨rfl, hp, lab_set_eq ?_ (by rw [hp]) 0⟩
          rw [hX]
          have := hpp.1.1; have := hpp.1.2
          omega
        · have hp2 : d.toNat ≠ (dartF E v (ge C p)).toNat := fun e => hp (by have := hd.1; have := hpp.1.1; omega)
          exact Or.inr (Or.inr ⟨fun _ => ⟨hp, hz⟩, lab_set_ne hp2 0⟩)
    · rw [if_pos rfl]
      exact Or.inr (Or.inr ⟨(fun h => by cases h), rfl⟩)
/-- A step leaves the labels of the darts away from the new vertex. -/
theorem put_keep (hT : trgB N E A = true) {k : Nat} {C : List Int} {v p z : Nat} (hN : NewV N E A O k C v p z) {fin : Bool} {X : List Int} (hX : X.length = 2 * E.length) {d : Int} (hd : isD E d) (h1 : tailE E d ≠ v ∨ tailE E (oth d) ∉ C) (h2 : tailE E (oth d) ≠ v ∨ tailE E d ∉ C) :
    lab (putR fin E C v p z X) d = lab X d := by
  have hpz := hN.pq
  have hql := hN.ql
  have hA : ∀ i, p ≤ i → i ≤ z → isD E (dartF E v (ge C i)) ∧ tailE E (dartF E v (ge C i)) = v ∧ tailE E (oth (dartF E v (ge C i))) = ge C i ∧ dartF E (ge C i) v = oth (dartF E v (ge C i)) := fun i h1 h2 => by
    have := hN.drt (i - p) (by omega)
    rwa [show p + (i - p) = i by omega] at this
  have hv1 : ∀ i, p ≤ i → i ≤ z → d ≠ dartF E v (ge C i) := fun i a b e => by
    have hh := hA i a b
    rw [← e] at hh
    rcases h1 with k | k
    · exact k hh.2.1
    · exact k (by rw [hh.2.2.1]; exact ge_mem (by omega))
  rcases put_lab hT hN (fin := fin) hX hd with ⟨i, a, b, e, _⟩ | ⟨_, ⟨_, e, _⟩ | ⟨_, e, _⟩ | ⟨_, e⟩⟩
  · exfalso
    have hh := hA i (by omega) (by omega)
    rw [hh.2.2.2] at e
    have e2 : oth d = dartF E v (ge C i) := by rw [e, oth_oth]
    rw [← e2, oth_oth] at hh
    rcases h2 with k | k
    · exact k hh.2.1
    · exact k (by rw [hh.2.2.1]; exact ge_mem (by omega))
  · exact absurd e (hv1 p (Nat.le_refl _) (by omega))
  · exact absurd e (hv1 z (by omega) (Nat.le_refl _))
  · exact e
theorem refK_succ (h : chkO N E A O = true) {k : Nat} {C : List Int} {v p z : Nat} (hN : NewV N E A O k C v p z) : refK N E A O (k + 1) = putR (decide (k + 3 = O.length)) E C v p z (refK N E A O k) := by
  have hc : contG N E A O k = C := by unfold contG; rw [hN.con]; rfl
  show putR _ E (contG N E A O k) (ge O (k + 2)) _ _ _ = _
  rw [hc, hN.hv, hN.lo, hN.hi]
  rfl
theorem refK_len2 (N : Int) (E : List (Int × Int)) (A : List (List Int)) (O : List Int) : ∀ k, (refK N E A O k).length = 2 * E.length
  | 0 => by unfold refK; simp
  | k + 1 => by
    unfold refK putR
    rw [midR_len]
    split
    · exact refK_len2 N E A O k
    · rw [List.length_set, List.length_set]; exact refK_len2 N E A O k
theorem con_sub (h : chkO N E A O = true) {k : Nat} {C : List Int} (hk : k + 2 ≤ O.length) (hC : contP N E A O k = some C) : ∀ u ∈ C, u ∈ O.take (k + 2) := by
  obtain ⟨hT, hl, ⟨h0, h1, h2⟩, hc⟩ := chkO_iff.1 h
  exact (cont_fwd hT (head_fine hT (by omega) h0 h1) (by omega) hC).2.2.1
theorem new_out (h : chkO N E A O = true) {k : Nat} (hk : k + 2 < O.length) : ge O (k + 2) ∉ O.take (k + 2) := by
  have hF := (chkR_iff.1 (chk_same.trans h)).2.2.1
  exact ((hF.mono (show k + 2 + 1 ≤ O.length by omega)).pred hk).2.2.2
/-- Darts with an end that is not there yet have no label. -/
theorem lab_none (h : chkO N E A O = true) : ∀ k, k + 2 ≤ O.length → ∀ d, isD E d → (tailE E d ∉ O.take (k + 2) ∨ tailE E (oth d) ∉ O.take (k + 2)) → lab (refK N E A O k) d = -1
  | 0, _, d, hd, _ => by
    unfold refK lab
    rw [ge_eq _ (by rw [List.length_replicate]; have := hd.1; have := hd.2; omega)]
    simp
  | k + 1, hk, d, hd, hn => by
    have hT := (chkO_iff.1 h).1
    obtain ⟨C, v, p, z, hN⟩ := new_v h (k := k) (by omega)
    have hsub := con_sub h (by omega) hN.con
    have hm : ∀ u, u ∈ O.take (k + 1 + 2) ↔ u ∈ O.take (k + 2) ∨ u = v := fun u => by
      rw [show k + 1 + 2 = (k + 2) + 1 by omega, List.take_succ_eq_append_getElem (by omega), List.mem_append, List.mem_singleton, ← ge_eq O (by omega), hN.hv]
    have hn' : (tailE E d ∉ O.take (k + 2) ∨ tailE E (oth d) ∉ O.take (k + 2)) := by
      rcases hn with k1 | k1
      · exact Or.inl fun e => k1 ((hm _).2 (Or.inl e))
      · exact Or.inr fun e => k1 ((hm _).2 (Or.inl e))
    rw [refK_succ h hN, put_keep hT hN (refK_len2 _ _ _ _ _) hd ?_ ?_]
    · exact lab_none h k (by omega) d hd hn'
    · rcases hn with k1 | k1
      · exact Or.inl fun e => k1 ((hm _).2 (Or.inr e))
      · exact Or.inr fun e => k1 ((hm _).2 (Or.inl (hsub _ e)))
    · rcases hn with k1 | k1
      · exact Or.inr fun e => k1 ((hm _).2 (Or.inl (hsub _ e)))
      · exact Or.inl fun e => k1 ((hm _).2 (Or.inr e))
/-- Labels stay. -/
theorem lab_stay (h : chkO N E A O = true) {k : Nat} {d : Int} (hd : isD E d) (h1 : tailE E d ∈ O.take (k + 2)) (h2 : tailE E (oth d) ∈ O.take (k + 2)) : ∀ j, k + j + 2 ≤ O.length → lab (refK N E A O (k + j)) d = lab (refK N E A O k) d
  | 0, _ => rfl
  | j + 1, hj => by
    have hT := (chkO_iff.1 h).1
    obtain ⟨C, v, p, z, hN⟩ := new_v h (k := k + j) (by omega)
    have hv : ∀ u, u ∈ O.take (k + 2) → u ≠ v := fun u hu e => by
      have := new_out h (k := k + j) (by omega)
      rw [hN.hv] at this
      exact this (by rw [← e]; exact List.take_subset_take_left O (by omega) hu)
    rw [show k + (j + 1) = (k + j) + 1 by omega, refK_succ h hN, put_keep hT hN (refK_len2 _ _ _ _ _) hd (Or.inl (hv _ h1)) (Or.inl (hv _ h2))]
    exact lab_stay h hd h1 h2 j (by omega)
/-- The labels of the darts between a new vertex and earlier ones. -/
theorem lab_at (h : chkO N E A O = true) {k : Nat} {C : List Int} {v p z : Nat} (hk : k + 2 < O.length) (hN : NewV N E A O k C v p z) :
    (k + 3 < O.length → lab (refK N E A O (O.length - 2)) (dartF E v (ge C p)) = 0 ∧ lab (refK N E A O (O.length - 2)) (dartF E v (ge C z)) = 1) ∧
    (∀ i, p < i → i < z → lab (refK N E A O (O.length - 2)) (dartF E (ge C i) v) = 2) ∧
    ∀ d, isD E d → (tailE E d = v ∧ tailE E (oth d) ∈ O.take (k + 2) ∨ tailE E (oth d) = v ∧ tailE E d ∈ O.take (k + 2)) →
      lab (refK N E A O (O.length - 2)) d = -1 ∨ (k + 3 < O.length ∧ d = dartF E v (ge C p) ∧ lab (refK N E A O (O.length - 2)) d = 0) ∨ (k + 3 < O.length ∧ d = dartF E v (ge C z) ∧ lab (refK N E A O (O.length - 2)) d = 1) ∨ ∃ i, p < i ∧ i < z ∧ d = dartF E (ge C i) v ∧ lab (refK N E A O (O.length - 2)) d = 2 := by
  have hT := (chkO_iff.1 h).1
  have hpz := hN.pq
  have hql := hN.ql
  have hsub := con_sub h (by omega) hN.con
  have hvo := new_out h hk
  rw [hN.hv] at hvo
  have hA : ∀ i, p ≤ i → i ≤ z → isD E (dartF E v (ge C i)) ∧ tailE E (dartF E v (ge C i)) = v ∧ tailE E (oth (dartF E v (ge C i))) = ge C i ∧ dartF E (ge C i) v = oth (dartF E v (ge C i)) := fun i h1 h2 => by
    have := hN.drt (i - p) (by omega)
    rwa [show p + (i - p) = i by omega] at this
  have hm : ∀ u, u ∈ O.take (k + 1 + 2) ↔ u ∈ O.take (k + 2) ∨ u = v := fun u => by
    rw [show k + 1 + 2 = (k + 2) + 1 by omega, List.take_succ_eq_append_getElem (by omega), List.mem_append, List.mem_singleton, ← ge_eq O (by omega), hN.hv]
  have hmC : ∀ i, p ≤ i → i ≤ z → ge C i ∈ O.take (k + 2) := fun i a b => hsub _ (ge_mem (by omega))
  -- the label at the end is that after the step
  have hst : ∀ d, isD E d → (tailE E d = v ∧ tailE E (oth d) ∈ O.take (k + 2) ∨ tailE E (oth d) = v ∧ tailE E d ∈ O.take (k + 2)) → lab (refK N E A O (O.length - 2)) d = lab (putR (decide (k + 3 = O.length)) E C v p z (refK N E A O k)) d ∧ lab (refK N E A O k) d = -1 := fun d hd hor => by
    have hb : tailE E d ∈ O.take (k + 1 + 2) ∧ tailE E (oth d) ∈ O.take (k + 1 + 2) := by
      rcases hor with ⟨a, b⟩ | ⟨a, b⟩
      · exact ⟨(hm _).2 (Or.inr a), (hm _).2 (Or.inl b)⟩
      · exact ⟨(hm _).2 (Or.inl b), (hm _).2 (Or.inr a)⟩
    constructor
    · have := lab_stay h hd hb.1 hb.2 (O.length - 2 - (k + 1)) (by omega)
      rw [show k + 1 + (O.length - 2 - (k + 1)) = O.length - 2 by omega] at this
      rw [this, refK_succ h hN]
    · refine lab_none h k (by omega) d hd ?_
      rcases hor with ⟨a, b⟩ | ⟨a, b⟩
      · exact Or.inl (by rw [a]; exact hvo)
      · exact Or.inr (by rw [a]; exact hvo)
  have hnepz : dartF E v (ge C p) ≠ dartF E v (ge C z) := fun e => by
    have e2 : ge C p = ge C z := by rw [← (hA p (Nat.le_refl _) (by omega)).2.2.1, e, (hA z (by omega) (Nat.le_refl _)).2.2.1]
    rw [ge_eq C (by omega), ge_eq C hql] at e2
    have := (List.getElem_inj hN.gos.nd).1 e2
    omega
  have hnev : ∀ i j, p ≤ i → i ≤ z → p < j → j < z → dartF E v (ge C i) ≠ dartF E (ge C j) v := fun i j a b c d e => by
    have h1 := hA i a b
    have h2 := hA j (by omega) (by omega)
    rw [h2.2.2.2] at e
    have : (v : Int) = ge C j := by rw [← h1.2.1, e, h2.2.2.1]
    exact hN.new (by rw [this]; exact ge_mem (by omega))
  refine ⟨fun hk3 => ?_, fun i a b => ?_, fun d hd hor => ?_⟩
  · have hfin : decide (k + 3 = O.length) = false := decide_eq_false (by omega)
    have hpp := hA p (Nat.le_refl _) (by omega)
    have hzz := hA z (by omega) (Nat.le_refl _)
    obtain ⟨s1, _⟩ := hst _ hpp.1 (Or.inl ⟨hpp.2.1, by rw [hpp.2.2.1]; exact hmC p (Nat.le_refl _) (by omega)⟩)
    obtain ⟨s2, _⟩ := hst _ hzz.1 (Or.inl ⟨hzz.2.1, by rw [hzz.2.2.1]; exact hmC z (by omega) (Nat.le_refl _)⟩)
    rw [s1, s2, hfin]
    constructor
    · rcases put_lab hT hN (fin := false) (refK_len2 N E A O k) hpp.1 with ⟨i, a, b, e, _⟩ | ⟨_, ⟨_, e, e2⟩ | ⟨_, e, _⟩ | ⟨e, _⟩⟩
      · exact absurd e (hnev p i (Nat.le_refl _) (by omega) a b)
      · exact e2
      · exact absurd e hnepz
      · exact absurd rfl (e rfl).1
    · rcases put_lab hT hN (fin := false) (refK_len2 N E A O k) hzz.1 with ⟨i, a, b, e, _⟩ | ⟨_, ⟨_, e, _⟩ | ⟨_, e, e2⟩ | ⟨e, _⟩⟩
      · exact absurd e (hnev z i (by omega) (Nat.le_refl _) a b)
      · exact absurd e.symm hnepz
      · exact e2
      · exact absurd rfl (e rfl).2
  · have hi := hA i (by omega) (by omega)
    have hdi : isD E (dartF E (ge C i) v) := by rw [hi.2.2.2]; exact hi.1.oth
    have ht : tailE E (dartF E (ge C i) v) = ge C i ∧ tailE E (oth (dartF E (ge C i) v)) = v := by rw [hi.2.2.2, oth_oth]; exact ⟨hi.2.2.1, hi.2.1⟩
    obtain ⟨s1, _⟩ := hst _ hdi (Or.inr ⟨ht.2, by rw [ht.1]; exact hmC i (by omega) (by omega)⟩)
    rw [s1]
    rcases put_lab hT hN (fin := decide (k + 3 = O.length)) (refK_len2 N E A O k) hdi with ⟨_, _, _, _, e⟩ | ⟨e, _⟩
    · exact e
    · exact absurd rfl (e i a b)
  · obtain ⟨s1, s2⟩ := hst d hd hor
    rw [s1]
    rcases put_lab hT hN (fin := decide (k + 3 = O.length)) (refK_len2 N E A O k) hd with ⟨i, a, b, e, e2⟩ | ⟨_, ⟨f, e, e2⟩ | ⟨f, e, e2⟩ | ⟨_, e⟩⟩
    · exact Or.inr (Or.inr (Or.inr ⟨i, a, b, e, e2⟩))
    · have := of_decide_eq_false f
      exact Or.inr (Or.inl ⟨by omega, e, e2⟩)
    · have := of_decide_eq_false f
      exact Or.inr (Or.inr (Or.inl ⟨by omega, e, e2⟩))
    · rw [e]; exact Or.inl s2
end
end Go.Proofs.YtlealdicoceekaaDoor

/- Schnyder labelings of canonical orders, plain: the labels around the vertices of a peeling. -/
namespace Go.Proofs.YtlealdicoceekaaDoor
open Go.RowKit

/-- A row can be read from any place of a reading. -/
theorem rot_any {r p q S T : List Int} (hr : r = p ++ q) (hl : q ++ p = S ++ T) : ∃ p' q', r = p' ++ q' ∧ q' ++ p' = T ++ S := by
  rcases List.append_eq_append_iff.1 hl with ⟨a, h1, h2⟩ | ⟨a, h1, h2⟩
  · exact ⟨a, T ++ q, by rw [hr, h2, List.append_assoc], by rw [h1, List.append_assoc]⟩
  · exact ⟨p ++ S, a, by rw [hr, h1, List.append_assoc], by rw [h2, List.append_assoc]⟩
/-- The gone neighbours of an inner vertex of the contour: those that enter with 0, the parent in the tree 2, those that enter with 1. -/
def Gon (L : List Int) (G : List Int) : Prop := ∃ I0 o2 I1, G = I0 ++ o2 :: I1 ∧ lab L o2 = 2 ∧ (∀ d ∈ I0, lab L (oth d) = 0) ∧ ∀ d ∈ I1, lab L (oth d) = 1
def LabP (E : List (Int × Int)) (A : List (List Int)) (L : List Int) (a b : Int) : Prop :=
  tailE E b ∉ rts E A → ∀ X G p q, rowOf A (tailE E b).toNat = p ++ q → q ++ p = oth a :: (X ++ b :: G) → Gon L G
section
variable {N : Int} {E : List (Int × Int)} {A : List (List Int)} {O L : List Int}
/-- What comes next in a row. -/
theorem row_next (hV : vRot N E A) {b x y : Int} {p q X G : List Int} (hb : isD E b) (hr : rowOf A (tailE E b).toNat = p ++ q) (hl : q ++ p = x :: (X ++ y :: G)) : (G = [] ∧ sucF A y = x) ∨ ∃ c G', G = c :: G' ∧ sucF A y = c := by
  obtain ⟨hc, _, _⟩ := rot_row hV hb hr hl (by simp)
  have h2 := (Ch.app.1 (show Ch (sucF A) x (X ++ y :: G) x from hc)).2
  cases G with
  | nil => exact Or.inl ⟨rfl, h2⟩
  | cons c G' => exact Or.inr ⟨c, G', rfl, h2.1⟩
theorem lab_left (hT : trgB N E A = true) {go : Int → Prop} {e a y : Int} (hea : Fan E A go e a) (hP : LabP E A L e a) (hy : isD E y) (hs : sucF A y = a) (ht : tailE E y = tailE E a) (h0 : tailE E a ∉ rts E A → lab L (oth a) = 0) : LabP E A L e y := by
  have hV := trg_valid hT
  intro hi X G p q hr hl
  rw [ht] at hi
  obtain ⟨_, hn, _⟩ := rot_row hV hy hr hl (by simp)
  obtain ⟨he, ha, hea', X0, G0, p0, q0, hr0, hl0, _⟩ := hea
  obtain ⟨_, hn0, _⟩ := rot_row hV ha hr0 hl0 (by simp)
  rcases row_next hV hy hr hl with ⟨_, k⟩ | ⟨c, G', rfl, k⟩
  · exfalso
    rw [hs] at k
    rw [← k] at hn0
    simp at hn0
  · rw [hs] at k
    subst k
    obtain ⟨I0, o2, I1, e1, e2, e3, e4⟩ := hP hi (X ++ [y]) G' p q (by rw [← ht]; exact hr) (by rw [hl]; simp)
    refine ⟨a :: I0, o2, I1, by rw [e1]; rfl, e2, fun d hd => ?_, e4⟩
    rcases List.mem_cons.1 hd with rfl | hd
    · exact h0 hi
    · exact e3 d hd
theorem lab_right (hT : trgB N E A = true) {go : Int → Prop} {b f z : Int} (hbf : Fan E A go b f) (hP : LabP E A L b f) (hs : sucF A (oth b) = oth z) (h1 : tailE E f ∉ rts E A → lab L b = 1) : LabP E A L z f := by
  have hV := trg_valid hT
  intro hi X G p q hr hl
  obtain ⟨hb, hf, hbf', X0, G0, p0, q0, hr0, hl0, _⟩ := hbf
  obtain ⟨hc, hn, hm⟩ := rot_row hV hf hr hl (by simp)
  obtain ⟨_, hn0, _⟩ := rot_row hV hf hr0 hl0 (by simp)
  obtain ⟨T, w, hw⟩ := snoc_ex (oth z) (X ++ f :: G)
  have hwm : w ∈ oth z :: (X ++ f :: G) := by rw [hw]; simp
  have hwd := (hm w).1 hwm
  have hsw : sucF A w = oth z := by
    have hcc : Cyc (sucF A) (w :: T) := by
      have : Cyc (sucF A) (T ++ [w]) := by rw [← hw]; exact hc
      exact this.rot
    cases T with
    | nil =>
      have e1 : oth z = w := by simp at hw
      have : sucF A w = w := hcc
      rw [this, ← e1]
    | cons t T' =>
      have e1 : oth z = t := by simpa using (List.cons.inj hw).1
      have : sucF A w = t := hcc.1
      rw [this, e1]
  have hob : w = oth b := suc_inj hV hwd.1 hb.oth (by rw [hsw, hs])
  have hne : f ≠ oth b := fun k => by
    rw [← k] at hn0
    simp at hn0
  -- the dart back is the last one
  have hG : ∃ G', G = G' ++ [oth b] := by
    rcases List.eq_nil_or_concat G with k | ⟨G', c, k⟩
    · exfalso
      subst k
      have : (oth z :: X) ++ [f] = T ++ [w] := by rw [← hw]; simp
      have := (List.append_inj' this rfl).2
      simp at this
      exact hne (this.trans hob)
    · refine ⟨G', ?_⟩
      have k' : G = G' ++ [c] := by simpa using k
      subst k'
      have : (oth z :: (X ++ f :: G')) ++ [c] = T ++ [w] := by rw [← hw]; simp
      have := (List.append_inj' this rfl).2
      simp at this
      rw [this, hob]
  obtain ⟨G', rfl⟩ := hG
  obtain ⟨p', q', hr', hl'⟩ := rot_any (S := oth z :: (X ++ f :: G')) (T := [oth b]) hr (by rw [hl]; simp)
  obtain ⟨I0, o2, I1, e1, e2, e3, e4⟩ := hP hi (oth z :: X) G' p' q' hr' (by rw [hl']; simp)
  refine ⟨I0, o2, I1 ++ [oth b], by rw [e1]; simp, e2, e3, fun d hd => ?_⟩
  rcases List.mem_append.1 hd with hd | hd
  · exact e4 d hd
  · rw [List.mem_singleton.1 hd, oth_oth]; exact h1 hi
theorem lab_mid (hT : trgB N E A = true) {d y z : Int} (hd : isD E d) (hy : isD E y) (hs : sucF A y = oth d) (hs2 : sucF A (oth d) = oth z) (h2 : lab L (oth d) = 2) : LabP E A L z y := by
  have hV := trg_valid hT
  intro hi X G p q hr hl
  obtain ⟨hc, hn, hm⟩ := rot_row hV hy hr hl (by simp)
  rcases row_next hV hy hr hl with ⟨k0, k⟩ | ⟨c, G', rfl, k⟩
  · exfalso
    have : y = oth d := suc_inj hV hy hd.oth (by rw [k, hs2])
    rw [hs, ← this] at k
    rw [← k] at hn
    simp at hn
  · rw [hs] at k
    subst k
    rcases row_next hV hy (x := oth z) (X := X ++ [y]) (y := oth d) (G := G') hr (by rw [hl]; simp) with ⟨rfl, _⟩ | ⟨c, G2, rfl, k⟩
    · exact ⟨[], oth d, [], rfl, h2, (fun x hx => by cases hx), fun x hx => by cases hx⟩
    · exfalso
      rw [hs2] at k
      rw [← k] at hn
      simp at hn
theorem labs_mid (hT : trgB N E A = true) {v : Int} : ∀ {t : List Int} {x z : Int}, Ch (sucF A) x t z → (∀ d ∈ x :: t, isD E d ∧ tailE E d = v) → (∀ d ∈ t, lab L (oth d) = 2) → Fans (LabP E A L) (thd A x) (t.map (thd A))
  | [], _, _, _, _, _ => trivial
  | d :: t, x, z, hc, hD, h2 => by
    obtain ⟨c1, c2⟩ : sucF A x = d ∧ Ch (sucF A) d t z := hc
    have hx := hD x (by simp)
    have hd := hD d (by simp)
    obtain ⟨x1, x2, x3, x4, x5⟩ := thd_ok hT hx.1
    obtain ⟨d1, d2, d3, d4, d5⟩ := thd_ok hT hd.1
    rw [c1] at x3
    exact ⟨lab_mid hT hd.1 d1 d2 x3 (h2 d (by simp)), labs_mid hT c2 (fun f hf => hD f (List.mem_cons_of_mem _ hf)) (fun f hf => h2 f (List.mem_cons_of_mem _ hf))⟩
theorem take_lab (hT : trgB N E A = true) {go : Int → Prop} {L1 M : List Int} {a b f : Int} (h : Pee E A go (L1 ++ a :: b :: f :: M)) {X G p q : List Int} (hS : Spot E A go L1 a b f M X G p q)
    (hL : Fans (LabP E A L) 1 (L1 ++ a :: b :: f :: M)) (l0 : tailE E a ∉ rts E A → lab L (oth a) = 0) (l1 : tailE E f ∉ rts E A → lab L b = 1) (l2 : ∀ d ∈ X, lab L (oth d) = 2) : Fans (LabP E A L) 1 (L1 ++ ((oth a :: X).map (thd A) ++ f :: M)) := by
  have hV := trg_valid hT
  obtain ⟨hc, hn, hm⟩ := rot_row hV hS.db hS.row hS.rot (by simp)
  have hc' : Ch (sucF A) (oth a) (X ++ b :: G) (oth a) := hc
  obtain ⟨z, Z, hZ, hz⟩ := Ch.snd hc'
  obtain ⟨F1, F2⟩ := Fans.app.1 h.fans
  obtain ⟨hab, hbf, hfM⟩ := F2
  obtain ⟨K1, K2⟩ := Fans.app.1 hL
  obtain ⟨kab, kbf, kfM⟩ := K2
  obtain ⟨W, e, hW⟩ := snoc_ex 1 L1
  obtain ⟨F1', hea⟩ := (Fans.snoc hW).1 F1
  obtain ⟨K1', kea⟩ := (Fans.snoc hW).1 K1
  obtain ⟨y1, y2, y3, y4, y5⟩ := thd_ok hT hS.da.oth
  rw [oth_oth] at y2 y4
  have hzm : z ∈ oth a :: X := by rw [hZ]; simp
  have hzd := (hm z).1 (by rcases List.mem_cons.1 hzm with k | k <;> simp [k])
  obtain ⟨z1, z2, z3, z4, z5⟩ := thd_ok hT hzd.1
  rw [hz] at z3
  show Fans (LabP E A L) 1 (L1 ++ thd A (oth a) :: (X.map (thd A) ++ f :: M))
  refine Fans.app.2 ⟨(Fans.snoc hW).2 ⟨K1', lab_left hT hea kea y1 y2 y4 l0⟩, Fans.app.2 ⟨(Fans.snoc (W := Z.map (thd A)) (e := thd A z) (by have := congrArg (List.map (thd A)) hZ; simpa using this)).2 ⟨labs_mid hT (z := b) (v := tailE E b) (Ch.app.1 hc').1 (fun d hd => ?_) l2, lab_right hT hbf kbf z3 l1⟩, kfM⟩⟩
  have hd' : d = oth a ∨ d ∈ X := by simpa using hd
  exact (hm d).1 (by rcases hd' with k | k <;> simp [k])

/-- A peeling, from the vertices ord and the contour D on: it takes R. -/
inductive Peels (E : List (Int × Int)) (A : List (List Int)) : List Int → List Int → List Int → Prop
  | fin {ord : List Int} {a b f : Int} {G p q : List Int} : Pee E A (fun x => x ∈ ord) [a, b, f] → Spot E A (fun x => x ∈ ord) [] a b f [] [] G p q → Peels E A ord [a, b, f] [tailE E b]
  | take {ord L1 M X G p q R : List Int} {a b f : Int} : Pee E A (fun x => x ∈ ord) (L1 ++ a :: b :: f :: M) → (∀ d, isD E d → tailE E d = tailE E b → ∀ x, x ∈ L1 ∨ x ∈ M → tailE E (oth d) ≠ tailE E x) → Spot E A (fun x => x ∈ ord) L1 a b f M X G p q →
      (L1 ≠ [] ∨ M ≠ [] ∨ X ≠ []) → Peels E A (ord ++ [tailE E b]) (L1 ++ ((oth a :: X).map (thd A) ++ f :: M)) R → Peels E A ord (L1 ++ a :: b :: f :: M) (tailE E b :: R)
theorem fin_rest (hT : trgB N E A = true) {ord : List Int} {a b f : Int} {G p q : List Int} (hP : Pee E A (fun x => x ∈ ord) [a, b, f]) (hS : Spot E A (fun x => x ∈ ord) [] a b f [] [] G p q) (hn : ord.Nodup) (hr : ∀ u ∈ ord, 0 ≤ u ∧ u < (A.length : Int)) :
    Rest E A ord [tailE E b] ([a, b, f].map (tailE E)) ∧ tailE E a = tailE E 0 ∧ f = 1 ∧ [tailE E a, tailE E f] = [tailE E 0, tailE E 1] := by
  have hV := trg_valid hT
  have hends := ends_in (L1 := []) (M := []) hP
  have he1 : f = 1 := hends.2.2.2.2.2 rfl
  subst he1
  have hta := hends.2.2.2.2.1 rfl
  have hbo : tailE E b ∉ ord := hP.ng b (by simp)
  have hn' : (ord ++ [tailE E b]).Nodup := List.nodup_append.2 ⟨hn, by simp, fun x hx y hy k => by rw [List.mem_singleton.1 hy] at k; exact hbo (k ▸ hx)⟩
  have hr' : ∀ u ∈ ord ++ [tailE E b], 0 ≤ u ∧ u < (A.length : Int) := fun u hu => by
    rcases List.mem_append.1 hu with k | k
    · exact hr u k
    · rw [List.mem_singleton.1 k]; exact head_in hV hS.db
  refine ⟨?_, hta, rfl, by rw [hta]⟩
  have hC : ([] ++ ((oth a :: []).map (thd A) ++ (1 : Int) :: [])).map (tailE E) = [tailE E 0, tailE E 1] := by
    rw [new_tails hT hS]
    simp [hta]
  refine Rest.back (L1 := []) (M := []) hT hP (fun d hd ht x hx => by rcases hx with k | k <;> cases k) hS ?_
  rw [hC]
  have hall := fin_all hT hP hS
  refine ⟨by rw [List.append_nil]; exact hn', by rw [List.append_nil]; exact hr', ?_, ?_, ?_, rfl⟩
  · rw [List.append_nil, List.mem_append, List.mem_singleton]
    rintro (k | k)
    · rw [← hta] at k; exact hP.ng a (by simp) k
    · exact hends.2.2.1 k
  · rw [List.append_nil, List.mem_append, List.mem_singleton]
    rintro (k | k)
    · exact hP.ng 1 (by simp) k
    · exact hends.2.2.2.1 k
  · intro u u0 u1
    rw [List.append_nil, List.mem_append, List.mem_singleton]
    rcases hall u u0 u1 with k | k | k | k
    · exact Or.inr (Or.inr (Or.inl k))
    · exact Or.inl (k.trans hta)
    · exact Or.inr (Or.inr (Or.inr k))
    · exact Or.inr (Or.inl k)
theorem take_nd (hT : trgB N E A = true) {ord L1 M X G p q : List Int} {a b f : Int} (hP : Pee E A (fun x => x ∈ ord) (L1 ++ a :: b :: f :: M)) (hS : Spot E A (fun x => x ∈ ord) L1 a b f M X G p q) (hn : ord.Nodup) (hr : ∀ u ∈ ord, 0 ≤ u ∧ u < (A.length : Int)) :
    (ord ++ [tailE E b]).Nodup ∧ ∀ u ∈ ord ++ [tailE E b], 0 ≤ u ∧ u < (A.length : Int) := by
  have hbo : tailE E b ∉ ord := hP.ng b (by simp)
  refine ⟨List.nodup_append.2 ⟨hn, by simp, fun x hx y hy k => by rw [List.mem_singleton.1 hy] at k; exact hbo (k ▸ hx)⟩, fun u hu => ?_⟩
  rcases List.mem_append.1 hu with k | k
  · exact hr u k
  · rw [List.mem_singleton.1 k]; exact head_in (trg_valid hT) hS.db
theorem peels_rest (hT : trgB N E A = true) {ord D R : List Int} (h : Peels E A ord D R) : ord.Nodup → (∀ u ∈ ord, 0 ≤ u ∧ u < (A.length : Int)) → Rest E A ord R (D.map (tailE E)) := by
  induction h with
  | fin hP hS => exact fun hn hr => (fin_rest hT hP hS hn hr).1
  | take hP hfr hS hne _ ih =>
    intro hn hr
    obtain ⟨n1, n2⟩ := take_nd hT hP hS hn hr
    exact Rest.back hT hP hfr hS (ih n1 n2)
theorem peels_head {ord D R : List Int} (h : Peels E A ord D R) : ∃ w R', R = w :: R' ∧ w ∈ D.map (tailE E) := by
  cases h with
  | fin hP hS => exact ⟨_, _, rfl, by simp⟩
  | take hP _ _ _ _ => exact ⟨_, _, rfl, by simp⟩
/-- What a peeling takes, read from the end, is a canonical order. -/
theorem peels_chk (hT : trgB N E A = true) {D R : List Int} (h : Peels E A [] D R) (hD : D.map (tailE E) = peel0 N E A) : chkO N E A (tailE E 0 :: tailE E 1 :: R.reverse) = true := by
  have hV := trg_valid hT
  have hal := hV.al
  have hN3 := trg_three hT
  obtain ⟨r1, r2, r3, r4, r5, r6⟩ := peels_rest hT h (by simp) (fun u hu => by cases hu)
  obtain ⟨w, R', rfl, hw⟩ := peels_head h
  rw [hD] at hw
  rw [List.nil_append] at r1 r2 r3 r4
  simp only [List.nil_append] at r5
  obtain ⟨i0, i1⟩ := dart01 hT
  have e0 : tailF N E A 0 = tailE E 0 := tailF_eq hV i0
  have e1 : tailF N E A 1 = tailE E 1 := tailF_eq hV i1
  have hw2 : w = thirdF N E A := by
    unfold peel0 at hw
    simp only [List.mem_cons, List.not_mem_nil, or_false] at hw
    rcases hw with k | k | k
    · exact absurd (by rw [← e0, ← k]; simp) r3
    · exact k
    · exact absurd (by rw [← e1, ← k]; simp) r4
  have h01 := ends_01 hT
  obtain ⟨O, hO'⟩ : ∃ O, O = tailE E 0 :: tailE E 1 :: (w :: R').reverse := ⟨_, rfl⟩
  have hnd : O.Nodup := by
    rw [hO']
    refine List.nodup_cons.2 ⟨fun k => ?_, List.nodup_cons.2 ⟨fun k => ?_, ((List.reverse_perm (w :: R')).nodup_iff).2 r1⟩⟩
    · rcases List.mem_cons.1 k with k | k
      · exact h01 k
      · exact r3 (List.mem_reverse.1 k)
    · exact r4 (List.mem_reverse.1 k)
  have hmem : ∀ u, u ∈ O ↔ 0 ≤ u ∧ u < (A.length : Int) := fun u => by
    rw [hO', List.mem_cons, List.mem_cons, List.mem_reverse]
    constructor
    · rintro (k | k | k)
      · rw [k]; exact head_in hV i0
      · rw [k]; exact head_in hV i1
      · exact r2 u k
    · rintro ⟨k1, k2⟩
      exact r5 u k1 k2
  have hOl : O.length = A.length := Nat.le_antisymm (nodup_len hnd (fun u hu => (hmem u).1 hu)) (by
    have := List.Nodup.length_le_of_subset (idL_nodup A.length) (l₂ := O) (fun u hu => (hmem u).2 (mem_idL.1 hu))
    rwa [idL_len] at this)
  rw [← chk_same, ← hO', chkR_iff]
  have hRl : R'.length + 3 = A.length := by rw [← hOl, hO']; simp
  refine ⟨hT, by omega, ⟨by rw [List.take_length]; exact hnd, fun u hu => by rw [List.take_length] at hu; have := (hmem u).1 hu; omega⟩, ⟨by rw [hO', e0]; rfl, by rw [hO', e1]; rfl, ?_⟩, ?_⟩
  · rw [third_same hT, ← hw2, hO', show (N - 1).toNat = (tailE E 0 :: tailE E 1 :: R'.reverse).length by simp; omega, List.reverse_cons, ← List.cons_append, ← List.cons_append]
    exact ge_mid _ [] _
  · rw [hO', show (N - 2).toNat = (w :: R').length by simp; omega, r6]
    rfl
end
end Go.Proofs.YtlealdicoceekaaDoor

/- The labels of a canonical order that comes from a peeling are a Schnyder labeling, plain; what is one passes the check. -/
namespace Go.Proofs.YtlealdicoceekaaDoor
open Go.RowKit

section
variable {N : Int} {E : List (Int × Int)} {A : List (List Int)} {O : List Int}
/-- The labels at the vertex that is taken. -/
theorem node_data (h : chkO N E A O = true) {go : Int → Prop} {L1 M X G p q : List Int} {a b f : Int} (hP : Pee E A go (L1 ++ a :: b :: f :: M)) (hS : Spot E A go L1 a b f M X G p q) {k : Nat} (hk : k + 2 < O.length) (hv : ge O (k + 2) = tailE E b)
    (hC : contP N E A O k = some (L1.map (tailE E) ++ (tailE E a :: (X.map (fun d => tailE E (oth d)) ++ (f :: M).map (tailE E))))) (hC1 : contP N E A O (k + 1) = some ((L1 ++ a :: b :: f :: M).map (tailE E))) :
    (tailE E a ∉ rts E A ∨ tailE E f ∉ rts E A → k + 3 < O.length) ∧ (k + 3 < O.length → lab (refK N E A O (O.length - 2)) (oth a) = 0 ∧ lab (refK N E A O (O.length - 2)) b = 1) ∧ ∀ d ∈ X, lab (refK N E A O (O.length - 2)) (oth d) = 2 := by
  obtain ⟨hT, hl, ⟨h0, h1, h2⟩, hc⟩ := chkO_iff.1 h
  have hV := trg_valid hT
  obtain ⟨C, v, p', z, hN⟩ := new_v h hk
  have hvb : tailE E b = (v : Int) := by rw [← hv, hN.hv]
  have hCe : C = L1.map (tailE E) ++ (tailE E a :: (X.map (fun d => tailE E (oth d)) ++ (f :: M).map (tailE E))) := by
    have := hN.con
    rw [hC] at this
    exact (Option.some.inj this).symm
  have hD : (L1 ++ a :: b :: f :: M).map (tailE E) = C.take (p' + 1) ++ (v : Int) :: C.drop z := by
    have := hN.nxt
    rw [hC1] at this
    exact Option.some.inj this
  have hvC : (v : Int) ∉ C := hN.new
  have hsp := split_uniq (b := (v : Int)) (X := L1.map (tailE E) ++ [tailE E a]) (X' := C.take (p' + 1)) (G := (f :: M).map (tailE E)) (G' := C.drop z) (by
    rw [← hD, ← hvb]; simp) (fun hm => hvC (by
    rw [hCe]
    rcases List.mem_append.1 hm with k | k
    · exact List.mem_append_left _ k
    · rw [List.mem_singleton.1 k]; simp)) (fun hm => hvC (List.mem_of_mem_take hm))
  have hCl : C.length = L1.length + X.length + M.length + 2 := by rw [hCe]; simp; omega
  have hp : p' = L1.length := by
    have := congrArg List.length hsp.1
    rw [List.length_take, List.length_append, List.length_map, List.length_singleton] at this
    have := hN.ql; have := hN.pq
    omega
  have hz : z = L1.length + 1 + X.length := by
    have := congrArg List.length hsp.2
    rw [List.length_drop, List.length_map, List.length_cons] at this
    have := hN.ql
    omega
  have ga : ge C p' = tailE E a := by
    rw [hCe, hp, ← List.length_map (f := tailE E)]
    exact ge_mid _ _ _
  have gf : ge C z = tailE E f := by
    have e : C = (L1.map (tailE E) ++ (tailE E a :: X.map (fun d => tailE E (oth d)))) ++ tailE E f :: M.map (tailE E) := by rw [hCe]; simp
    have e2 : z = (L1.map (tailE E) ++ (tailE E a :: X.map (fun d => tailE E (oth d)))).length := by rw [hz]; simp; omega
    rw [e2, e]
    exact ge_mid _ _ _
  have gx : ∀ j, j < X.length → ge C (p' + 1 + j) = tailE E (oth (ge X j)) := fun j hj => by
    have e : C = (L1.map (tailE E) ++ [tailE E a]) ++ (X.map (fun d => tailE E (oth d)) ++ (f :: M).map (tailE E)) := by rw [hCe]; simp
    have e2 : p' + 1 + j = (L1.map (tailE E) ++ [tailE E a]).length + j := by rw [hp]; simp
    rw [e2, e, geA_r, geA_l _ (by rw [List.length_map]; exact hj), ge_eq _ (by rw [List.length_map]; exact hj), List.getElem_map, ← ge_eq X hj]
  obtain ⟨hc', hn', hm⟩ := rot_row hV hS.db hS.row hS.rot (by simp)
  obtain ⟨l1, l2, _⟩ := lab_at h hk hN
  have da : dartF E v (ge C p') = oth a := by
    rw [ga, ← hvb]
    exact dartF_eq hT hS.da.oth hS.ta (by rw [oth_oth])
  have df : dartF E v (ge C z) = b := by
    rw [gf, ← hvb]
    exact dartF_eq hT hS.db rfl hS.tf
  refine ⟨fun hor => ?_, fun hk3 => ?_, fun d hd => ?_⟩
  · apply Classical.byContradiction
    intro hn3
    obtain ⟨D, hD1, hG⟩ := cont_goes h (j := k + 1) (by omega)
    rw [hC1] at hD1
    have hDe := Option.some.inj hD1
    have hfin := hG.fin (by omega)
    have hro := rts_ord hT h
    have hlen : (L1 ++ a :: b :: f :: M).length = 3 := by rw [← hfin.1, ← hDe, List.length_map]
    have hL0 : L1 = [] := List.length_eq_zero_iff.1 (by simp at hlen; omega)
    have hM0 : M = [] := List.length_eq_zero_iff.1 (by simp at hlen; omega)
    subst hL0 hM0
    have e0 := hG.fst
    have e1 := hG.lst
    rw [← hDe] at e0 e1
    have e0' : tailE E a = ge O 0 := e0
    have e1' : tailE E f = ge O 1 := e1
    rcases hor with k | k
    · exact k (by rw [e0', hro]; simp)
    · exact k (by rw [e1', hro]; simp)
  · have := l1 hk3
    rw [da, df] at this
    exact this
  · obtain ⟨j, hj, rfl⟩ := mem_ge.1 hd
    have hdd := (hm (ge X j)).1 (by simp [ge_mem hj])
    have := l2 (p' + 1 + j) (by omega) (by omega)
    rw [gx j hj, ← hvb, dartF_eq hT hdd.1.oth rfl (by rw [oth_oth]; exact hdd.2)] at this
    exact this
theorem ord_mem (h : chkO N E A O = true) {u : Int} (h0 : 0 ≤ u) (h1 : u < (A.length : Int)) : ∃ i, i < O.length ∧ ge O i = u := by
  obtain ⟨hT, hl, _, _⟩ := chkO_iff.1 h
  have hal := (trg_valid hT).al
  have hF := (chkR_iff.1 (chk_same.trans h)).2.2.1
  have hn := hF.1
  have hr := hF.2
  rw [List.take_length] at hn hr
  have hm : u ∈ O := by
    apply Classical.byContradiction
    intro hno
    have := nodup_len (n := A.length) (List.nodup_cons.2 ⟨hno, hn⟩) (fun x hx => by
      rcases List.mem_cons.1 hx with rfl | hx
      · exact ⟨h0, h1⟩
      · have := hr x hx; omega)
    simp only [List.length_cons] at this
    omega
  obtain ⟨i, hi, e⟩ := mem_ge.1 hm
  exact ⟨i, hi, e⟩
theorem ord_take (h : chkO N E A O = true) {i k : Nat} (hi : i < O.length) (hk : k ≤ O.length) : ge O i ∈ O.take k ↔ i < k := by
  have hF := (chkR_iff.1 (chk_same.trans h)).2.2.1
  constructor
  · intro hm
    obtain ⟨j, hj, e⟩ := mem_ge.1 hm
    rw [List.length_take] at hj
    have e2 : ge (O.take k) j = ge O j := by
      unfold ge
      simp only [List.getD_eq_getElem?_getD]
      rw [List.getElem?_take, if_pos (by omega)]
    rw [e2] at e
    have := fine_inj hF (by omega) hi e
    omega
  · intro hik
    have e2 : ge (O.take k) i = ge O i := by
      unfold ge
      simp only [List.getD_eq_getElem?_getD]
      rw [List.getElem?_take, if_pos (by omega)]
    rw [← e2]
    exact ge_mem (by rw [List.length_take]; omega)
/-- A contour's places: the first two vertices of the order stand at its ends only, the last one nowhere. -/
theorem con_ends (h : chkO N E A O = true) {k : Nat} {C : List Int} {v p z : Nat} (hk : k + 2 < O.length) (hN : NewV N E A O k C v p z) {i : Nat} (hi : i < C.length) :
    (ge C i = ge O 0 → i = 0) ∧ (ge C i = ge O 1 → i + 1 = C.length) ∧ ge C i ≠ ge O (O.length - 1) := by
  have hnd := hN.gos.nd
  have h2 := hN.gos.two
  refine ⟨fun e => ?_, fun e => ?_, fun e => ?_⟩
  · rw [← hN.gos.fst, ge_eq C hi, ge_eq C (by omega)] at e
    exact (List.getElem_inj hnd).1 e
  · rw [← hN.gos.lst, ge_eq C hi, ge_eq C (by omega)] at e
    have := (List.getElem_inj hnd).1 e
    omega
  · have hm := con_sub h (by omega) hN.con _ (ge_mem hi)
    rw [e, ord_take h (by omega) (by omega)] at hm
    omega
theorem new_last (h : chkO N E A O = true) {k : Nat} {C : List Int} {v p z : Nat} (hk : k + 3 = O.length) (hN : NewV N E A O k C v p z) : ge C p = ge O 0 ∧ ge C z = ge O 1 := by
  have hl := (chkO_iff.1 h).2.1
  obtain ⟨D, hD, hG⟩ := cont_goes h (j := k + 1) (by omega)
  rw [hN.nxt] at hD
  have hDe := Option.some.inj hD
  have hfin := hG.fin (by omega)
  have hpz := hN.pq
  have hzl := hN.ql
  have hlen : (C.take (p + 1) ++ (v : Int) :: C.drop z).length = 3 := by rw [← hfin.1, ← hDe]
  rw [List.length_append, List.length_take, List.length_cons, List.length_drop] at hlen
  have hp0 : p = 0 := by omega
  have hzc : z = C.length - 1 := by omega
  exact ⟨by rw [hp0]; exact hN.gos.fst, by rw [hzc]; exact hN.gos.lst⟩
/-- The labels of the two darts of an edge. -/
structure EdL (N : Int) (E : List (Int × Int)) (A : List (List Int)) (O : List Int) (d : Int) : Prop where
  opp : lab (refK N E A O (O.length - 2)) (oth d) = -1
  ex : ∃ k C v p z, k + 2 < O.length ∧ NewV N E A O k C v p z ∧ ((k + 3 < O.length ∧ d = dartF E v (ge C p) ∧ tailE E d = v ∧ tailE E (oth d) = ge C p ∧ lab (refK N E A O (O.length - 2)) d = 0) ∨
    (k + 3 < O.length ∧ d = dartF E v (ge C z) ∧ tailE E d = v ∧ tailE E (oth d) = ge C z ∧ lab (refK N E A O (O.length - 2)) d = 1) ∨ ∃ i, p < i ∧ i < z ∧ d = dartF E (ge C i) v ∧ tailE E d = ge C i ∧ tailE E (oth d) = v ∧ lab (refK N E A O (O.length - 2)) d = 2)
theorem edl_new (h : chkO N E A O = true) {k : Nat} {d : Int} (hd : isD E d) (hk : k + 2 < O.length) (ht : tailE E d = ge O (k + 2)) (hh : tailE E (oth d) ∈ O.take (k + 2)) (hn : ¬ (tailE E d ∈ rts E A ∧ tailE E (oth d) ∈ rts E A)) : EdL N E A O d ∨ EdL N E A O (oth d) := by
  obtain ⟨hT, hl, ⟨h0, h1, h2⟩, hc⟩ := chkO_iff.1 h
  have hro := rts_ord hT h
  obtain ⟨C, v, p, z, hN⟩ := new_v h hk
  have hpz := hN.pq
  have hzl := hN.ql
  rw [hN.hv] at ht
  obtain ⟨i, hi, hu⟩ := nbr_at h hk hN hh (by
    rw [join_nbr, ← ht]
    exact nbr_dart hd.1 hd.2)
  obtain ⟨a1, a2, a3, a4⟩ := hN.drt i hi
  have hde : dartF E v (ge C (p + i)) = d := dartF_eq hT hd ht hu
  rw [hde] at a1 a2 a3 a4
  obtain ⟨l1, l2, l3⟩ := lab_at h hk hN
  have hvC : ∀ j, j < C.length → ge C j ≠ v := fun j hj e => hN.new (by rw [← e]; exact ge_mem hj)
  have hinj : ∀ i j, i < C.length → j < C.length → ge C i = ge C j → i = j := fun i j hi hj e => by
    rw [ge_eq C hi, ge_eq C hj] at e
    exact (List.getElem_inj hN.gos.nd).1 e
  have hA : ∀ i, p ≤ i → i ≤ z → isD E (dartF E v (ge C i)) ∧ tailE E (dartF E v (ge C i)) = v ∧ tailE E (oth (dartF E v (ge C i))) = ge C i ∧ dartF E (ge C i) v = oth (dartF E v (ge C i)) := fun i h1 h2 => by
    have := hN.drt (i - p) (by omega)
    rwa [show p + (i - p) = i by omega] at this
  by_cases hmid : 0 < i ∧ i < z - p
  · right
    have e2 : dartF E (ge C (p + i)) v = oth d := a4
    refine ⟨?_, k, C, v, p, z, hk, hN, Or.inr (Or.inr ⟨p + i, by omega, by omega, e2.symm, hu, by rw [oth_oth]; exact ht, ?_⟩)⟩
    · rw [oth_oth]
      rcases l3 d hd (Or.inl ⟨ht, hh⟩) with k1 | ⟨_, k1, _⟩ | ⟨_, k1, _⟩ | ⟨j, j1, j2, k1, _⟩
      · exact k1
      · exfalso
        have := (hA p (Nat.le_refl _) (by omega)).2.2.1
        rw [← k1, a3] at this
        have := hinj _ _ (by omega) (by omega) this
        omega
      · exfalso
        have := (hA z (by omega) (Nat.le_refl _)).2.2.1
        rw [← k1, a3] at this
        have := hinj _ _ (by omega) (by omega) this
        omega
      · exfalso
        have hj := hA j (by omega) (by omega)
        rw [hj.2.2.2] at k1
        have : tailE E d = ge C j := by rw [k1]; exact hj.2.2.1
        exact hvC j (by omega) (by rw [← this, ht])
    · rw [← e2]; exact l2 (p + i) (by omega) (by omega)
  · left
    have hk3 : k + 3 < O.length := by
      apply Classical.byContradiction
      intro hk3
      obtain ⟨n1, n2⟩ := new_last h (k := k) (by omega) hN
      apply hn
      constructor
      · rw [ht, ← hN.hv, hro, show k + 2 = O.length - 1 by omega]; simp
      · rw [hu, hro]
        rcases (by omega : i = 0 ∨ i = z - p) with e | e
        · rw [e, Nat.add_zero, n1]; simp
        · rw [e, show p + (z - p) = z by omega, n2]; simp
    have hopp : lab (refK N E A O (O.length - 2)) (oth d) = -1 := by
      rcases l3 (oth d) hd.oth (Or.inr ⟨by rw [oth_oth]; exact ht, hh⟩) with k1 | ⟨_, k1, _⟩ | ⟨_, k1, _⟩ | ⟨j, j1, j2, k1, _⟩
      · exact k1
      · exfalso
        have := (hA p (Nat.le_refl _) (by omega)).2.1
        rw [← k1, hu] at this
        exact hvC _ (by omega) this
      · exfalso
        have := (hA z (by omega) (Nat.le_refl _)).2.1
        rw [← k1, hu] at this
        exact hvC _ (by omega) this
      · exfalso
        have hj := hA j (by omega) (by omega)
        rw [hj.2.2.2] at k1
        have e3 : tailE E (oth d) = ge C j := by rw [k1]; exact hj.2.2.1
        rw [hu] at e3
        have := hinj _ _ (by omega) (by omega) e3
        omega
    obtain ⟨m1, m2⟩ := l1 hk3
    rcases (by omega : i = 0 ∨ i = z - p) with e | e
    · rw [e, Nat.add_zero] at hde hu
      exact ⟨hopp, k, C, v, p, z, hk, hN, Or.inl ⟨hk3, hde.symm, ht, hu, by rw [← hde]; exact m1⟩⟩
    · rw [e, show p + (z - p) = z by omega] at hde hu
      exact ⟨hopp, k, C, v, p, z, hk, hN, Or.inr (Or.inl ⟨hk3, hde.symm, ht, hu, by rw [← hde]; exact m2⟩)⟩
theorem edl_or (h : chkO N E A O = true) {d : Int} (hd : isD E d) (hn : ¬ (tailE E d ∈ rts E A ∧ tailE E (oth d) ∈ rts E A)) : EdL N E A O d ∨ EdL N E A O (oth d) := by
  have hT := (chkO_iff.1 h).1
  have hV := trg_valid hT
  have hro := rts_ord hT h
  have r1 := head_in hV hd
  have r2 := head_in hV hd.oth
  obtain ⟨i, hi, ei⟩ := ord_mem h r1.1 r1.2
  obtain ⟨j, hj, ej⟩ := ord_mem h r2.1 r2.2
  have hne : i ≠ j := fun e => by
    subst e
    exact cho_ne hV (c := fun _ => tailE E d) (s := 0) (t := 0) ⟨d, hd, rfl, ej.symm.trans ei⟩ rfl
  have hle : ∀ i : Nat, i ≤ 1 → ge O i ∈ rts E A := fun i hi => by
    rw [hro]
    rcases (by omega : i = 0 ∨ i = 1) with rfl | rfl <;> simp
  by_cases hb : i ≤ 1 ∧ j ≤ 1
  · exact absurd ⟨by rw [← ei]; exact hle i hb.1, by rw [← ej]; exact hle j hb.2⟩ hn
  · rcases Nat.lt_or_ge j i with hlt | hge
    · obtain ⟨k, rfl⟩ : ∃ k, i = k + 2 := ⟨i - 2, by omega⟩
      exact edl_new h hd hi ei.symm (by rw [← ej]; exact (ord_take h hj (by omega)).2 hlt) hn
    · obtain ⟨k, rfl⟩ : ∃ k, j = k + 2 := ⟨j - 2, by omega⟩
      have := edl_new h hd.oth hj ej.symm (by rw [oth_oth, ← ei]; exact (ord_take h hi (by omega)).2 (by omega)) (by rw [oth_oth]; exact fun k => hn ⟨k.2, k.1⟩)
      rw [oth_oth] at this
      exact this.symm
theorem EdL.pos {d : Int} (h : EdL N E A O d) : 0 ≤ lab (refK N E A O (O.length - 2)) d := by
  obtain ⟨_, k, C, v, p, z, _, _, ⟨_, _, _, _, e⟩ | ⟨_, _, _, _, e⟩ | ⟨_, _, _, _, _, _, e⟩⟩ := h <;> omega
theorem lab_one (h : chkO N E A O = true) {d : Int} (hd : isD E d) (hn : ¬ (tailE E d ∈ rts E A ∧ tailE E (oth d) ∈ rts E A)) : lab (refK N E A O (O.length - 2)) d = -1 ↔ lab (refK N E A O (O.length - 2)) (oth d) ≠ -1 := by
  rcases edl_or h hd hn with k | k
  · have h1 := k.opp
    have h2 := k.pos
    omega
  · have h1 := k.opp
    rw [oth_oth] at h1
    have h2 := k.pos
    omega
theorem lab_out (h : chkO N E A O = true) {d : Int} (hd : isD E d) (ha : tailE E d ∈ rts E A) (hb : tailE E (oth d) ∈ rts E A) : lab (refK N E A O (O.length - 2)) d = -1 := by
  obtain ⟨hT, hl, _, _⟩ := chkO_iff.1 h
  have hV := trg_valid hT
  have hN3 := trg_three hT
  have hro := rts_ord hT h
  have hne : tailE E d ≠ tailE E (oth d) := fun e => cho_ne hV (c := fun _ => tailE E d) (s := 0) (t := 0) ⟨d, hd, rfl, e.symm⟩ rfl
  have hix : ∀ u, u ∈ rts E A → ∃ i, (i = 0 ∨ i = 1 ∨ i = O.length - 1) ∧ ge O i = u := fun u hu => by
    rw [hro] at hu
    simp only [List.mem_cons, List.not_mem_nil, or_false] at hu
    rcases hu with rfl | rfl | rfl
    · exact ⟨0, by simp, rfl⟩
    · exact ⟨1, by simp, rfl⟩
    · exact ⟨O.length - 1, by simp, rfl⟩
  obtain ⟨i, hi, ei⟩ := hix _ ha
  obtain ⟨j, hj, ej⟩ := hix _ hb
  have hij : i ≠ j := fun e => hne (by rw [← ei, ← ej, e])
  by_cases h2 : i ≤ 1 ∧ j ≤ 1
  · have := lab_stay h (k := 0) hd (by rw [← ei]; exact (ord_take h (by omega) (by omega)).2 (by omega)) (by rw [← ej]; exact (ord_take h (by omega) (by omega)).2 (by omega)) (O.length - 2) (by omega)
    rw [Nat.zero_add] at this
    rw [this]
    unfold refK lab
    rw [ge_eq _ (by rw [List.length_replicate]; have := hd.1; have := hd.2; omega)]
    simp
  · obtain ⟨k, hk⟩ : ∃ k, k + 3 = O.length := ⟨O.length - 3, by omega⟩
    obtain ⟨C, v, p, z, hN⟩ := new_v h (k := k) (by omega)
    have hv := hN.hv
    have hpz := hN.pq
    have hzl := hN.ql
    have hA : ∀ i, p ≤ i → i ≤ z → isD E (dartF E v (ge C i)) ∧ tailE E (dartF E v (ge C i)) = v ∧ tailE E (oth (dartF E v (ge C i))) = ge C i ∧ dartF E (ge C i) v = oth (dartF E v (ge C i)) := fun i h1 h2 => by
      have := hN.drt (i - p) (by omega)
      rwa [show p + (i - p) = i by omega] at this
    have hcase : (tailE E d = v ∧ tailE E (oth d) ∈ O.take (k + 2)) ∨ (tailE E (oth d) = v ∧ tailE E d ∈ O.take (k + 2)) := by
      by_cases hi1 : i ≤ 1
      · right
        refine ⟨by rw [← ej, ← hv]; congr 1; omega, by rw [← ei]; exact (ord_take h (by omega) (by omega)).2 (by omega)⟩
      · left
        refine ⟨by rw [← ei, ← hv]; congr 1; omega, by rw [← ej]; exact (ord_take h (by omega) (by omega)).2 (by omega)⟩
    obtain ⟨_, _, l3⟩ := lab_at h (by omega) hN
    rcases l3 d hd hcase with k1 | ⟨k1, _⟩ | ⟨k1, _⟩ | ⟨s, s1, s2, k1, _⟩
    · exact k1
    · omega
    · omega
    · exfalso
      have hs := hA s (by omega) (by omega)
      rw [hs.2.2.2] at k1
      have e3 : tailE E d = ge C s := by rw [k1]; exact hs.2.2.1
      have ce := con_ends h (by omega) hN (i := s) (by omega)
      rw [← e3, ← ei] at ce
      rcases hi with rfl | rfl | rfl
      · have := ce.1 rfl; omega
      · have := ce.2.1 rfl; omega
      · exact ce.2.2 rfl
theorem lab_sch (h : chkO N E A O = true) (hvx : ∀ v : Nat, v < A.length → (v : Int) ∉ rts E A → ∃ p q, rowOf A v = p ++ q ∧ Turn (refK N E A O (O.length - 2)) (q ++ p)) : Sch E A (refK N E A O (O.length - 2)) := by
  obtain ⟨hT, hl, _, _⟩ := chkO_iff.1 h
  have hN3 := trg_three hT
  have hro := rts_ord hT h
  have hF := (chkR_iff.1 (chk_same.trans h)).2.2.1
  have h01 : ge O 0 ≠ ge O 1 := fun e => by have := fine_inj hF (by omega) (by omega) e; omega
  have h02 : ge O 0 ≠ ge O (O.length - 1) := fun e => by have := fine_inj hF (by omega) (by omega) e; omega
  have h12 : ge O 1 ≠ ge O (O.length - 1) := fun e => by have := fine_inj hF (by omega) (by omega) e; omega
  have hvr : ∀ k, k + 3 < O.length → ge O (k + 2) ∉ rts E A := fun k hk hm => by
    rw [hro] at hm
    simp only [List.mem_cons, List.not_mem_nil, or_false] at hm
    rcases hm with e | e | e
    · have := fine_inj hF (by omega) (by omega) e; omega
    · have := fine_inj hF (by omega) (by omega) e; omega
    · have := fine_inj hF (by omega) (by omega) e; omega
  have hedge : ∀ d, isD E d → 0 ≤ lab (refK N E A O (O.length - 2)) d → EdL N E A O d := fun d hd h0 => by
    have hn : ¬ (tailE E d ∈ rts E A ∧ tailE E (oth d) ∈ rts E A) := fun k => by have := lab_out h hd k.1 k.2; omega
    rcases edl_or h hd hn with k | k
    · exact k
    · have := k.opp
      rw [oth_oth] at this
      omega
  have hrng : ∀ d, isD E d → -1 ≤ lab (refK N E A O (O.length - 2)) d ∧ lab (refK N E A O (O.length - 2)) d ≤ 2 := fun d hd => by
    have hl2 := refK_len2 N E A O (O.length - 2)
    unfold lab
    refine buildK_rng N E A O (O.length - 2) _ ?_
    rw [← refK_eq h _ (by omega)]
    exact ge_mem (by rw [hl2]; have := hd.1; have := hd.2; omega)
  refine ⟨refK_len2 _ _ _ _ _, hrng, fun d hd ha hb => lab_out h hd ha hb, fun d hd hn => lab_one h hd hn, fun d hd ht => ?_, fun d hd hh h0 => ?_, hvx⟩
  · have hr := hrng d hd
    apply Classical.byContradiction
    intro hne
    obtain ⟨_, k, C, v, p, z, hk, hN, hc⟩ := hedge d hd (by omega)
    have hpz := hN.pq
    have hzl := hN.ql
    rcases hc with ⟨k3, _, e, _⟩ | ⟨k3, _, e, _⟩ | ⟨i, i1, i2, _, e, _⟩
    · exact hvr k k3 (by rw [hN.hv, ← e]; exact ht)
    · exact hvr k k3 (by rw [hN.hv, ← e]; exact ht)
    · have ce := con_ends h hk hN (i := i) (by omega)
      rw [e, hro] at ht
      simp only [List.mem_cons, List.not_mem_nil, or_false] at ht
      rcases ht with e2 | e2 | e2
      · have := ce.1 e2; omega
      · have := ce.2.1 e2; omega
      · exact ce.2.2 e2
  · obtain ⟨_, k, C, v, p, z, hk, hN, hc⟩ := hedge d hd h0
    have hpz := hN.pq
    have hzl := hN.ql
    rw [hro] at hh ⊢
    simp only [List.mem_cons, List.not_mem_nil, or_false] at hh
    rcases hc with ⟨k3, _, _, e, l0⟩ | ⟨k3, _, _, e, l0⟩ | ⟨i, i1, i2, _, _, e, l0⟩
    · have ce := con_ends h hk hN (i := p) (by omega)
      rw [l0]
      rw [← e] at ce
      rcases hh with e2 | e2 | e2
      · rw [e2]; unfold idx; rw [if_pos rfl]
      · have := ce.2.1 e2; omega
      · exact absurd e2 ce.2.2
    · have ce := con_ends h hk hN (i := z) (by omega)
      rw [l0]
      rw [← e] at ce
      rcases hh with e2 | e2 | e2
      · have := ce.1 e2; omega
      · rw [e2]; simp [idx, h01.symm]
      · exact absurd e2 ce.2.2
    · rw [l0]
      rcases hh with e2 | e2 | e2
      · exfalso
        rw [e, ← hN.hv] at e2
        have := fine_inj hF (by omega) (by omega) e2; omega
      · exfalso
        rw [e, ← hN.hv] at e2
        have := fine_inj hF (by omega) (by omega) e2; omega
      · rw [e2]; simp [idx, h02.symm, h12.symm]
end
end Go.Proofs.YtlealdicoceekaaDoor

/- The labels of a peeling's order are a Schnyder labeling, and the program accepts them (plain). -/
namespace Go.Proofs.YtlealdicoceekaaDoor
open Go.RowKit

theorem runB_skip {L : List Int} {last lv : Nat} : ∀ {I ds : List Int}, (∀ d ∈ I, lab L d = -1 ∧ lab L (oth d) = ((last : Int) + 2) % 3) → runB L last lv (I ++ ds) = runB L last lv ds
  | [], _, _ => rfl
  | d :: I, ds, h => by
    have hd := h d (by simp)
    rw [List.cons_append]
    show (if 0 ≤ lab L d then _ else if lab L (oth d) = ((last : Int) + 2) % 3 then runB L last lv (I ++ ds) else false) = _
    rw [if_neg (by omega), if_pos hd.2]
    exact runB_skip fun x hx => h x (List.mem_cons_of_mem _ hx)
theorem runB_out {L : List Int} {last lv : Nat} {d : Int} {ds : List Int} (h : lab L d = (lv : Int)) : runB L last lv (d :: ds) = runB L lv (lv + 1) ds := by
  show (if 0 ≤ lab L d then (if lab L d = (lv : Int) then runB L lv (lv + 1) ds else false) else _) = _
  rw [if_pos (by omega), if_pos h]
theorem turn_run {L l : List Int} (h : Turn L l) : ∃ o0 T, l = o0 :: T ∧ lab L o0 = 0 ∧ (∀ d ∈ T, lab L d ≠ 0) ∧ runB L 0 0 l = true := by
  obtain ⟨o0, I2, o1, I0, o2, I1, rfl, l0, l1, l2, h2, h0, h1⟩ := h
  refine ⟨o0, _, rfl, l0, fun d hd => ?_, ?_⟩
  · simp only [List.mem_append, List.mem_cons] at hd
    rcases hd with k | rfl | k | rfl | k
    · have := (h2 d k).1; omega
    · omega
    · have := (h0 d k).1; omega
    · omega
    · have := (h1 d k).1; omega
  · rw [runB_out (by rw [l0]; rfl), runB_skip (fun d hd => ⟨(h2 d hd).1, by rw [(h2 d hd).2]; rfl⟩), runB_out (by rw [l1]; rfl), runB_skip (fun d hd => ⟨(h0 d hd).1, by rw [(h0 d hd).2]; rfl⟩), runB_out (by rw [l2]; rfl)]
    have := runB_skip (L := L) (last := 2) (lv := 3) (I := I1) (ds := []) (fun d hd => ⟨(h1 d hd).1, by rw [(h1 d hd).2]; rfl⟩)
    rw [List.append_nil] at this
    exact this.trans rfl
theorem turn_turns {A : List (List Int)} {L p q : List Int} {v : Nat} (hr : rowOf A v = p ++ q) (h : Turn L (q ++ p)) : turnsB A L v = true := by
  obtain ⟨p, q, hr, h, hq⟩ : ∃ p q, rowOf A v = p ++ q ∧ Turn L (q ++ p) ∧ q ≠ [] := by
    by_cases hq : q = []
    · subst hq
      obtain ⟨o0, T, e, _⟩ := turn_run h
      exact ⟨[], p, by simpa using hr, by simpa using h, by intro k; rw [k] at e; simp at e⟩
    · exact ⟨p, q, hr, h, hq⟩
  obtain ⟨o0, T, e, l0, hT, hrun⟩ := turn_run h
  obtain ⟨q', rfl, hT'⟩ : ∃ q', q = o0 :: q' ∧ T = q' ++ p := by
    cases q with
    | nil => exact absurd rfl hq
    | cons c q' =>
      rw [List.cons_append] at e
      obtain ⟨e1, e2⟩ := List.cons.inj e
      exact ⟨q', by rw [e1], e2.symm⟩
  have hat : atF L 0 (rowOf A v) = (p.length : Int) := by
    rw [hr]
    refine atF_first p.length (by simp) (fun j hj => ?_) (by rw [ge_mid]; exact l0)
    rw [geA_l _ hj]
    exact hT _ (by rw [hT']; exact List.mem_append_right _ (ge_mem hj))
  unfold turnsB
  rw [hat, if_neg (by omega), Int.toNat_natCast, hr, List.drop_left, List.take_left]
  exact hrun
section
variable {N : Int} {E : List (Int × Int)} {A : List (List Int)} {O L : List Int}
/-- A Schnyder labeling is accepted. -/
theorem fit_of (hT : trgB N E A = true) (hS : Sch E A L) : fitB E A L = true := by
  have hV := trg_valid hT
  have hside : ∀ d, isD E d → sideB E A L d = true := fun d hd => by
    unfold sideB
    by_cases h0 : lab L d < 0
    · rw [decide_eq_true h0]; rfl
    · have ht : tailE E d ∉ rts E A := fun k => by have := hS.rt d hd k; omega
      rw [idx_no ht]
      by_cases hh : tailE E (oth d) ∈ rts E A
      · rw [decide_eq_true (show idx (tailE E (oth d)) (rts E A) = lab L d from (hS.ld d hd hh (by omega)).symm)]
        simp
      · rw [idx_no hh]
        simp
  unfold fitB
  rw [Bool.and_eq_true, Bool.and_eq_true, decide_eq_true_iff, List.all_eq_true, List.all_eq_true]
  refine ⟨⟨hS.len, fun i hi => ?_⟩, fun v hv => ?_⟩
  · have hi := List.mem_range.1 hi
    have hd : isD E (2 * (i : Int)) := ⟨by omega, by omega⟩
    unfold endsB
    by_cases ho : outB A (2 * (i : Int)) = true
    · rw [if_pos ho]
      obtain ⟨a, b⟩ := (outB_iff hT hd).1 ho
      rw [hS.out _ hd a b, hS.out _ hd.oth b (by rw [oth_oth]; exact a)]
      rfl
    · rw [if_neg ho]
      have hn : ¬ (tailE E (2 * (i : Int)) ∈ rts E A ∧ tailE E (oth (2 * (i : Int))) ∈ rts E A) := fun k => ho ((outB_iff hT hd).2 k)
      have h1 := hS.one _ hd hn
      have r1 := hS.rng _ hd
      have r2 := hS.rng _ hd.oth
      rw [hside _ hd, hside _ hd.oth]
      have e1 : rngB (lab L (2 * (i : Int))) = true := by unfold rngB; rw [decide_eq_true r1.1, decide_eq_true r1.2]; rfl
      have e2 : rngB (lab L (oth (2 * (i : Int)))) = true := by unfold rngB; rw [decide_eq_true r2.1, decide_eq_true r2.2]; rfl
      rw [e1, e2]
      by_cases hm : lab L (2 * (i : Int)) = -1
      · have hm2 := h1.1 hm
        rw [hm, beq_eq_false_iff_ne.2 hm2]
        rfl
      · have hm2 : lab L (oth (2 * (i : Int))) = -1 := Classical.byContradiction fun k => hm (h1.2 k)
        rw [hm2, beq_eq_false_iff_ne.2 hm]
        rfl
  · have hv := List.mem_range.1 hv
    by_cases hi : (v : Int) ∈ rts E A
    · have := idx_yes hi
      rw [decide_eq_true (by omega)]
      rfl
    · obtain ⟨p, q, hr, ht⟩ := hS.vx v hv hi
      rw [turn_turns hr ht]
      simp
theorem can_con (h : chkO N E A O = true) {ord R C : List Int} (hO : O = tailE E 0 :: tailE E 1 :: (ord ++ R).reverse) (hR : Rest E A ord R C) : contP N E A O R.length = some C := by
  have e : O = (tailE E 0 :: tailE E 1 :: R.reverse) ++ ord.reverse := by rw [hO]; simp
  rw [← cont_same h (by rw [e]; simp), e, contR_app (by simp)]
  exact hR.can
theorem peels_turn (h : chkO N E A O = true) {ord D R : List Int} (hP : Peels E A ord D R) : O = tailE E 0 :: tailE E 1 :: (ord ++ R).reverse → ord.Nodup → (∀ u ∈ ord, 0 ≤ u ∧ u < (A.length : Int)) → Fans (LabP E A (refK N E A O (O.length - 2))) 1 D →
    ∀ u ∈ R, u ∉ rts E A → ∃ p q, rowOf A u.toNat = p ++ q ∧ Turn (refK N E A O (O.length - 2)) (q ++ p) := by
  obtain ⟨hT, hl, _, _⟩ := chkO_iff.1 h
  have hV := trg_valid hT
  have hro := rts_ord hT h
  -- the row of the vertex that is taken
  have hturn : ∀ {go : Int → Prop} {L1 M X G p q : List Int} {a b f : Int}, Spot E A go L1 a b f M X G p q → LabP E A (refK N E A O (O.length - 2)) a b → lab (refK N E A O (O.length - 2)) (oth a) = 0 → lab (refK N E A O (O.length - 2)) b = 1 →
      (∀ d ∈ X, lab (refK N E A O (O.length - 2)) (oth d) = 2) → tailE E b ∉ rts E A → ∃ p q, rowOf A (tailE E b).toNat = p ++ q ∧ Turn (refK N E A O (O.length - 2)) (q ++ p) := by
    intro go L1 M X G p q a b f hS hab l0 l1 l2 hi
    obtain ⟨_, _, hm⟩ := rot_row hV hS.db hS.row hS.rot (by simp)
    obtain ⟨I0, o2, I1, rfl, g2, g0, g1⟩ := hab hi X G p q hS.row hS.rot
    have hmin : ∀ d, d ∈ oth a :: (X ++ b :: (I0 ++ o2 :: I1)) → lab (refK N E A O (O.length - 2)) (oth d) ≠ -1 → lab (refK N E A O (O.length - 2)) d = -1 := fun d hd hne => by
      have hdd := (hm d).1 hd
      exact (lab_one h hdd.1 (fun k => hi (by rw [← hdd.2]; exact k.1))).2 hne
    exact ⟨p, q, hS.row, oth a, X, b, I0, o2, I1, hS.rot, l0, l1, g2, fun d hd => ⟨hmin d (by simp [hd]) (by rw [l2 d hd]; omega), l2 d hd⟩, fun d hd => ⟨hmin d (by simp [hd]) (by rw [g0 d hd]; omega), g0 d hd⟩, fun d hd => ⟨hmin d (by simp [hd]) (by rw [g1 d hd]; omega), g1 d hd⟩⟩
  have hlast : ∀ k, k + 2 < O.length → ge O (k + 2) ∉ rts E A → k + 3 < O.length := fun k hk hi => by
    apply Classical.byContradiction
    intro hn
    apply hi
    rw [hro, show k + 2 = O.length - 1 by omega]
    simp
  induction hP with
  | @fin ord a b f G p q hP hS =>
    intro hO hn hr hL u hu hi
    obtain ⟨hR, hta, hf, hab⟩ := fin_rest hT hP hS hn hr
    have hv : ge O 2 = tailE E b := by
      rw [hO, List.reverse_append]
      rfl
    have hOl : 2 < O.length := by rw [hO]; simp
    rw [List.mem_singleton.1 hu] at hi ⊢
    have hk3 := hlast 0 hOl (by rw [hv]; exact hi)
    have hC0 : contP N E A O 0 = some (([] : List Int).map (tailE E) ++ (tailE E a :: (([] : List Int).map (fun d => tailE E (oth d)) ++ (f :: []).map (tailE E)))) := by
      show contP N E A O 0 = some [tailE E a, tailE E f]
      rw [hab]
      unfold contP
      rw [hO]
      rfl
    have hd := node_data (L1 := []) (M := []) (X := []) h hP hS (k := 0) hOl hv hC0 (by
      have := can_con h hO hR
      exact this)
    exact hturn hS hL.2.1 (hd.2.1 hk3).1 (hd.2.1 hk3).2 hd.2.2 hi
  | @take ord L1 M X G p q R a b f hP hfr hS hne hPs ih =>
    intro hO hn hr hL u hu hi
    obtain ⟨n1, n2⟩ := take_nd hT hP hS hn hr
    have hR' := peels_rest hT hPs n1 n2
    have hR := Rest.back hT hP hfr hS hR'
    have hO' : O = tailE E 0 :: tailE E 1 :: ((ord ++ [tailE E b]) ++ R).reverse := by rw [hO]; simp
    have hC := can_con h hO' hR'
    rw [new_tails hT hS] at hC
    have hC1 := can_con h hO hR
    have hOe : O = (tailE E 0 :: tailE E 1 :: R.reverse) ++ tailE E b :: ord.reverse := by rw [hO]; simp
    have hv : ge O (R.length + 2) = tailE E b := by
      have e2 : R.length + 2 = (tailE E 0 :: tailE E 1 :: R.reverse).length := by simp
      rw [e2, hOe]
      exact ge_mid _ _ _
    have hk : R.length + 2 < O.length := by rw [hOe]; simp
    obtain ⟨d1, d2, d3⟩ := node_data h hP hS hk hv hC hC1
    have hL' := take_lab hT hP hS hL (fun k => (d2 (d1 (Or.inl k))).1) (fun k => (d2 (d1 (Or.inr k))).2) d3
    rcases List.mem_cons.1 hu with rfl | hu
    · have hk3 := hlast _ hk (by rw [hv]; exact hi)
      exact hturn hS (Fans.app.1 hL).2.1 (d2 hk3).1 (d2 hk3).2 d3 hi
    · exact ih hO' n1 n2 hL' u hu hi
/-- The labels of a peeling's order. -/
theorem peels_sch (hT : trgB N E A = true) {R : List Int} (hP : Peels E A [] [oth (nxF A (nxF A 0)), oth (nxF A 0), 1] R) :
    chkO N E A (tailE E 0 :: tailE E 1 :: R.reverse) = true ∧ Sch E A (refK N E A (tailE E 0 :: tailE E 1 :: R.reverse) ((tailE E 0 :: tailE E 1 :: R.reverse).length - 2)) := by
  have hst := pee_start hT
  have h := peels_chk hT hP hst.2
  refine ⟨h, lab_sch h fun v hv hi => ?_⟩
  have hV := trg_valid hT
  have hro := rts_ord hT h
  have hR := peels_rest hT hP (by simp) (fun u hu => by cases hu)
  have hm : (v : Int) ∈ R := by
    rcases hR.all v (by omega) (by omega) with k | k | k
    · exact absurd (by rw [rts_eq, k]; simp) hi
    · exact absurd (by rw [rts_eq, k]; simp) hi
    · simpa using k
  have hin : ∀ d, d ∈ [oth (nxF A (nxF A 0)), oth (nxF A 0), 1] → tailE E d ∈ rts E A := fun d hd => by
    have hmm : tailE E d ∈ peel0 N E A := by rw [← hst.2]; exact mem_tails hd
    obtain ⟨i0, i1⟩ := dart01 hT
    have e3 : thirdF N E A = tailE E (nxF A (nxF A 0)) := by
      obtain ⟨_, hl, ⟨_, _, h2⟩, _⟩ := chkO_iff.1 h
      have := rts_ord hT h
      rw [rts_eq] at this
      have e := congrArg (fun l => ge l 2) this
      have e' : tailE E (nxF A (nxF A 0)) = ge (tailE E 0 :: tailE E 1 :: R.reverse) ((tailE E 0 :: tailE E 1 :: R.reverse).length - 1) := e
      rw [e', ← h2]
      congr 1
      omega
    unfold peel0 at hmm
    rw [tailF_eq hV i0, tailF_eq hV i1, e3] at hmm
    rw [rts_eq]
    simp only [List.mem_cons, List.not_mem_nil, or_false] at hmm ⊢
    rcases hmm with k | k | k <;> simp [k]
  have hF : Fans (LabP E A (refK N E A (tailE E 0 :: tailE E 1 :: R.reverse) ((tailE E 0 :: tailE E 1 :: R.reverse).length - 2))) 1 [oth (nxF A (nxF A 0)), oth (nxF A 0), 1] :=
    ⟨fun hi => absurd (hin _ (by simp)) hi, fun hi => absurd (hin _ (by simp)) hi, fun hi => absurd (hin _ (by simp)) hi, trivial⟩
  have := peels_turn h hP (by simp) (by simp) (fun u hu => by cases hu) hF v hm hi
  rwa [Int.toNat_natCast] at this
end
end Go.Proofs.YtlealdicoceekaaDoor

/- Order of the reference: chord. -/
namespace Go.Proofs.YtlealdicoceekaaDoor
open Go.RowKit
attribute [local go_sem ↓] Go.wp_at_zero Go.wp_at_succ

def chdK (E : List (Int × Int)) (C : List Int) (i : Nat) (m : Nat) : Bool := (List.range m).any fun k => decide (k + 1 ≠ i) && (decide (k ≠ i) && (decide (k ≠ i + 1) && joinB E (ge C i) (ge C k)))
theorem chdK_no {E : List (Int × Int)} {C : List Int} {i m : Nat} : chdK E C i m = false ↔ ∀ k, k < m → k + 1 ≠ i → k ≠ i → k ≠ i + 1 → joinB E (ge C i) (ge C k) = false := by
  unfold chdK
  rw [List.any_eq_false]
  constructor
  · intro h k hk h1 h2 h3
    have := h k (List.mem_range.2 hk)
    rw [decide_eq_true h1, decide_eq_true h2, decide_eq_true h3] at this
    simpa using this
  · intro h k hk
    have hk := List.mem_range.1 hk
    by_cases h1 : k + 1 ≠ i <;> by_cases h2 : k ≠ i <;> by_cases h3 : k ≠ i + 1 <;> simp [h1, h2, h3]
    exact h k hk h1 h2 h3
set_option maxHeartbeats 4000000 in
theorem chord_l (N : Int) (pE pA pC : Option Addr) (nE nA nC cE cA cC : Nat) (E : List (Int × Int)) (C : List Int) (i : Nat) (w : World) (hE : Prs w pE E) (he1 : E.length ≤ 100) (hC : Ints w pC C) (hC1 : nC ≤ 1000) (hnE : E.length = nE) (hnC : C.length = nC) (hi0 : 0 < i) (hi : i < nC) (t : Bool) (ht : chdK E C i nC = t) :
    Calls Tryd.prog 49 #[.agg #[.int .i64 N, .slice pE nE cE, .slice pA nA cA], .slice pC nC cC, .int .i64 i] w fun e w' => e = .returned (.bool t) ∧ Grew w w' := by
  have HE := Lib.hid hE
  have HC := Lib.hid hC
  have HnC := Lib.hid hnC
  have Ht := Lib.hid ht
  have Hj : Hid (∀ (u v : Int) W1, Grew w W1 → Calls Tryd.prog 74 #[.agg #[.int .i64 N, .slice pE nE cE, .slice pA nA cA], .int .i64 u, .int .i64 v] W1 fun e w' => e = .returned (.bool (joinB E u v)) ∧ Grew W1 w') := Lib.hid (fun u v W1 h => by
    have := joined_r N pE pA E.length nA cE cA E u v W1 (HE.out.grew h) he1 rfl
    rw [hnE] at this
    exact this)
  obtain ⟨bC, oC, rfl, lC, cC'⟩ := hC.cells (by omega)
  have HcC := Lib.hid cC'
  clear hE hC hnC hnE ht cC'
  go_enter Tryd.func49, Tryd.ntmps49
  go_upto_region 2 with fail
  have HgB : Hid (Grew w (w.alloc (.cells #[.int .i64 N, .slice pE nE cE, .slice pA nA cA] 25))) := Lib.hid ((Grew.refl w).alloc _)
  have k0 : Hid ((w.alloc (.cells #[.int .i64 N, .slice pE nE cE, .slice pA nA cA] 25)).cell? ⟨w.heap.size, 0, none⟩ = some (.int .i64 N)) := Lib.hid (by simp [go_sem])
  have k1 : Hid ((w.alloc (.cells #[.int .i64 N, .slice pE nE cE, .slice pA nA cA] 25)).cell? ⟨w.heap.size, 1, none⟩ = some (.slice pE nE cE)) := Lib.hid (by simp [go_sem])
  have k2 : Hid ((w.alloc (.cells #[.int .i64 N, .slice pE nE cE, .slice pA nA cA] 25)).cell? ⟨w.heap.size, 2, none⟩ = some (.slice pA nA cA)) := Lib.hid (by simp [go_sem])
  obtain ⟨wB, hwB⟩ : ∃ wB, w.alloc (.cells #[.int .i64 N, .slice pE nE cE, .slice pA nA cA] 25) = wB := ⟨_, rfl⟩
  rw [hwB] at HgB k0 k1 k2 ⊢
  clear hwB
  go_loopw [7] (fun kv wr => ∃ k : Nat, k ≤ nC ∧ kv = .int .i64 k ∧ Grew wB wr ∧ ∀ j, j < k → j + 1 ≠ i → j ≠ i → j ≠ i + 1 → joinB E (ge C i) (ge C j) = false) (fun kv _ => nC - (intOf kv).toNat)
  case atStart => exact ⟨0, Nat.zero_le _, rfl, by (repeat (first | exact gR _ | refine gO ?_ _ | refine gA ?_ _ | refine gD ?_ | refine gN ?_ _)), fun j hj => by omega⟩
  case round =>
    obtain ⟨k, hk, rfl, hg, hall⟩ := hrel
    have Hall := Lib.hid hall
    have Hg := Lib.hid hg
    have Hgw : Hid (Grew w wr) := Lib.hid (HgB.out.trans hg)
    have q0 := hg.cellEq k0.out
    have q1 := hg.cellEq k1.out
    have q2 := hg.cellEq k2.out
    have hlw := World.block_lt_of_cell? wr _ q0
    dsimp only at hlw
    have lCw := Nat.lt_of_lt_of_le lC Hgw.out.below.size
    clear hall hg
    by_cases hlt : k < nC
    · have hki : (k : Int) < (nC : Int) := by omega
      by_cases h1 : k + 1 = i
      · have b1 : ((k : Int) != (i : Int) - 1) = false := by simp [bne]; omega
        have Hn : Hid (∀ j, j < k + 1 → j + 1 ≠ i → j ≠ i → j ≠ i + 1 → joinB E (ge C i) (ge C j) = false) := Lib.hid (fun j hj a b c => Hall.out j (by omega) a b c)
        clear h1
        go_upto_region 4 with fail
        refine wp_region_over (by kernel_rfl) (by kernel_rfl) ?_; (repeat (go_big_quiet_step (fail))); refine wpQuiet_nil ?_; rintro _ ⟨x, rfl⟩
        go_wp2
        go_roundw
        case rel => exact ⟨k + 1, by omega, by go_num, Hg.out.trans (by (repeat (first | exact gR _ | refine gO ?_ _ | refine gA ?_ _ | refine gD ?_ | refine gN ?_ _))), Hn.out⟩
        case measure => (simp [intOf] <;> omega)
      have b1 : ((k : Int) != (i : Int) - 1) = true := by simp [bne]; omega
      by_cases h2 : k = i
      · have b2 : ((k : Int) != (i : Int)) = false := by simp [bne]; omega
        have Hn : Hid (∀ j, j < k + 1 → j + 1 ≠ i → j ≠ i → j ≠ i + 1 → joinB E (ge C i) (ge C j) = false) := Lib.hid (fun j hj a b c => Hall.out j (by omega) a b c)
        clear h2
        go_upto_region 4 with fail
        refine wp_region_over (by kernel_rfl) (by kernel_rfl) ?_; (repeat (go_big_quiet_step (fail))); refine wpQuiet_nil ?_; rintro _ ⟨x, rfl⟩
        go_wp2
        go_roundw
        case rel => exact ⟨k + 1, by omega, by go_num, Hg.out.trans (by (repeat (first | exact gR _ | refine gO ?_ _ | refine gA ?_ _ | refine gD ?_ | refine gN ?_ _))), Hn.out⟩
        case measure => (simp [intOf] <;> omega)
      have b2 : ((k : Int) != (i : Int)) = true := by simp [bne]; omega
      by_cases h3 : k = i + 1
      · have b3 : ((k : Int) != (i : Int) + 1) = false := by simp [bne]; omega
        have Hn : Hid (∀ j, j < k + 1 → j + 1 ≠ i → j ≠ i → j ≠ i + 1 → joinB E (ge C i) (ge C j) = false) := Lib.hid (fun j hj a b c => Hall.out j (by omega) a b c)
        clear h3
        go_upto_region 4 with fail
        refine wp_region_over (by kernel_rfl) (by kernel_rfl) ?_; (repeat (go_big_quiet_step (fail))); refine wpQuiet_nil ?_; rintro _ ⟨x, rfl⟩
        go_wp2
        go_roundw
        case rel => exact ⟨k + 1, by omega, by go_num, Hg.out.trans (by (repeat (first | exact gR _ | refine gO ?_ _ | refine gA ?_ _ | refine gD ?_ | refine gN ?_ _))), Hn.out⟩
        case measure => (simp [intOf] <;> omega)
      have b3 : ((k : Int) != (i : Int) + 1) = true := by simp [bne]; omega
      have e1 := HcC.out wr Hgw.out i (by rw [HnC.out]; exact hi)
      have e2 := HcC.out wr Hgw.out k (by rw [HnC.out]; exact hlt)
      obtain ⟨u, hu⟩ : ∃ u, ge C i = u := ⟨_, rfl⟩
      obtain ⟨v, hv⟩ : ∃ v, ge C k = v := ⟨_, rfl⟩
      rw [hu] at e1
      rw [hv] at e2
      obtain ⟨s, hs⟩ : ∃ s, joinB E u v = s := ⟨_, rfl⟩
      have Hj2 : Hid (∀ W1, Grew w W1 → Calls Tryd.prog 74 #[.agg #[.int .i64 N, .slice pE nE cE, .slice pA nA cA], .int .i64 u, .int .i64 v] W1 fun e w' => e = .returned (.bool s) ∧ Grew W1 w') := Lib.hid (fun W1 h => by rw [← hs]; exact Hj.out u v W1 h)
      have hii : (i : Int) < (nC : Int) := by omega
      cases s
      · have Hn : Hid (∀ j, j < k + 1 → j + 1 ≠ i → j ≠ i → j ≠ i + 1 → joinB E (ge C i) (ge C j) = false) := Lib.hid (fun j hj a b c => by
          by_cases e : j = k
          · rw [e, hu, hv]; exact hs
          · exact Hall.out j (by omega) a b c)
        clear hu hv hs h1 h2 h3
        go_upto_region 4 with fail
        refine wp_region_over (by kernel_rfl) (by kernel_rfl) ?_; (repeat (go_big_quiet_step ((go_at_call 74; apply over_call; with_reducible exact Hj2.out _ (Hgw.out.trans (by (repeat (first | exact gR _ | refine gO ?_ _ | refine gA ?_ _ | refine gD ?_ | refine gN ?_ _)))))))); refine wpQuiet_nil ?_; rintro _ ⟨x, rfl⟩
        go_wp2
        go_roundw
        case rel => exact ⟨k + 1, by omega, by go_num, Hg.out.trans (by (repeat (first | exact gR _ | refine gO ?_ _ | refine gA ?_ _ | refine gD ?_ | refine gN ?_ _))), Hn.out⟩
        case measure => (simp [intOf] <;> omega)
      · have Hf : Hid (t = true) := Lib.hid (by
          rw [← Ht.out]
          cases hc : chdK E C i nC
          · have := chdK_no.1 hc k hlt h1 h2 h3
            rw [hu, hv, hs] at this
            cases this
          · rfl)
        clear hu hv hs h1 h2 h3
        go_upto_region 4 with fail
        refine wp_region_over (by kernel_rfl) (by kernel_rfl) ?_; (repeat (go_big_quiet_step ((go_at_call 74; apply over_call; with_reducible exact Hj2.out _ (Hgw.out.trans (by (repeat (first | exact gR _ | refine gO ?_ _ | refine gA ?_ _ | refine gD ?_ | refine gN ?_ _)))))))); refine wpQuiet_nil ?_; rintro _ ⟨x, rfl⟩
        go_wp2
        go_ret
        exact ⟨by rw [Hf.out]; rfl, Hgw.out.trans (by (repeat (first | exact gR _ | refine gO ?_ _ | refine gA ?_ _ | refine gD ?_ | refine gN ?_ _)))⟩
    · have Hf : Hid (t = false) := Lib.hid (by rw [← Ht.out]; exact chdK_no.2 fun j hj => Hall.out j (by omega))
      go_wp2
      go_ret
      exact ⟨by rw [Hf.out]; rfl, Hgw.out.trans (by (repeat (first | exact gR _ | refine gO ?_ _ | refine gA ?_ _ | refine gD ?_ | refine gN ?_ _)))⟩
end Go.Proofs.YtlealdicoceekaaDoor

/- Order of the reference: uncover. -/
namespace Go.Proofs.YtlealdicoceekaaDoor
open Go.RowKit
attribute [local go_sem ↓] Go.wp_at_zero Go.wp_at_succ

/-- The neighbours that are not in a list, of the first darts of a row. -/
def ringK (E : List (Int × Int)) (row G : List Int) (k : Nat) : List Int := ((nearL E row).take k).filter fun u => decide (u ∉ G)
theorem ringK_succ {E : List (Int × Int)} {row G : List Int} {k : Nat} (h : k < row.length) : ringK E row G (k + 1) = ringK E row G k ++ if tailE E (oth (ge row k)) ∈ G then [] else [tailE E (oth (ge row k))] := by
  have hl : (nearL E row).length = row.length := by unfold nearL; rw [List.length_map]
  unfold ringK
  rw [List.take_succ_eq_append_getElem (by omega), List.filter_append]
  congr 1
  have : (nearL E row)[k]'(by omega) = tailE E (oth (ge row k)) := by
    unfold nearL
    rw [List.getElem_map, ge_eq row h]
  rw [this]
  by_cases hm : tailE E (oth (ge row k)) ∈ G <;> simp [hm]
theorem ringK_len (E : List (Int × Int)) (row G : List Int) (k : Nat) : (ringK E row G k).length ≤ k := by
  unfold ringK
  refine Nat.le_trans (List.length_filter_le _ _) ?_
  rw [List.length_take]
  exact Nat.min_le_left _ _
theorem rot_ge {xs r1 r2 : List Int} (hx : xs = r1 ++ r2) {k : Nat} (hk : k < xs.length) : ge xs ((r1.length + k) % xs.length) = ge (r2 ++ r1) k := by
  subst hx
  rw [List.length_append] at hk ⊢
  unfold ge
  rw [List.getD_eq_getElem?_getD, List.getD_eq_getElem?_getD]
  by_cases h : r1.length + k < r1.length + r2.length
  · rw [Nat.mod_eq_of_lt h, List.getElem?_append_right (by omega), List.getElem?_append_left (by omega), Nat.add_sub_cancel_left]
  · rw [show (r1.length + k) % (r1.length + r2.length) = k - r2.length by rw [Nat.mod_eq_sub_mod (by omega), Nat.mod_eq_of_lt (by omega)]; omega, List.getElem?_append_left (by omega), List.getElem?_append_right (by omega)]

/-- What a function returns that makes a list. -/
def NewI (xs : List Int) (w : World) (e : Ending) (w' : World) : Prop := Grew w w' ∧ ∃ q cap, e = .returned (.slice q xs.length cap) ∧ Ints w' q xs ∧ xs.length ≤ cap ∧ cap ≤ maxLen
set_option maxRecDepth 8000 in
set_option maxHeartbeats 16000000 in
theorem uncover_l (N : Int) (pE pA pC pG : Option Addr) (nE nA nC nG cE cA cC cG : Nat) (E : List (Int × Int)) (A : List (List Int)) (C G : List Int) (s v : Nat) (w : World) (hR : RotAt w pE pA E A) (hV : vRot N E A) (hC : Ints w pC C) (hG : Ints w pG G) (hnE : E.length = nE) (hnA : A.length = nA) (hnC : C.length = nC) (hnG : G.length = nG)
    (hC1 : nC ≤ 200) (hC2 : nC ≤ cC) (hC3 : cC ≤ maxLen) (hs : s + 2 < nC) (hv : ge C (s + 1) = (v : Int)) (hvl : v < nA) {r1 r2 Y : List Int} (hring : ringK E (rowOf A v) G (rowOf A v).length = r1 ++ ge C s :: r2) (hrot : (ge C s :: r2) ++ r1 = ge C s :: (Y ++ [ge C (s + 2)])) (hnd : (ge C s :: (Y ++ [ge C (s + 2)])).Nodup) :
    Calls Tryd.prog 50 #[.agg #[.int .i64 N, .slice pE nE cE, .slice pA nA cA], .slice pC nC cC, .int .i64 ((s : Int) + 1), .slice pG nG cG] w (NewI (C.take (s + 1) ++ (Y ++ C.drop (s + 2))) w) := by
  have hal := hV.al
  have HR := Lib.hid hR
  have HV := Lib.hid hV
  have HC := Lib.hid hC
  have HG := Lib.hid hG
  have HnE := Lib.hid hnE
  have HnA := Lib.hid hnA
  have HnC := Lib.hid hnC
  have HnG := Lib.hid hnG
  have hnE1 : nE ≤ 100 := by have := hR.e1; omega
  obtain ⟨row, hrow⟩ : ∃ row, rowOf A v = row := ⟨_, rfl⟩
  have hrl : row.length ≤ 100 := by rw [← hrow]; exact hR.r1 v (by omega)
  have Hmr : Hid (∀ d ∈ row, 0 ≤ d ∧ d < 2 * (nE : Int)) := Lib.hid (fun d hd => by
    have := mem_row hV (v := v) (by omega) (by rw [hrow]; exact hd)
    omega)
  obtain ⟨xs, hxs⟩ : ∃ xs, ringK E row G row.length = xs := ⟨_, rfl⟩
  rw [hrow, hxs] at hring
  have Hxs := Lib.hid hxs
  have hxl : xs.length ≤ 100 := by rw [← hxs]; exact Nat.le_trans (ringK_len _ _ _ _) hrl
  have hYl : xs.length = Y.length + 2 := by
    have := congrArg List.length hrot
    rw [hring]
    simp at this ⊢
    omega
  have Hget : Hid (∀ k, k < xs.length → ge xs ((r1.length + k) % xs.length) = ge (ge C s :: (Y ++ [ge C (s + 2)])) k) := Lib.hid (fun k hk => by rw [← hrot]; exact rot_ge hring hk)
  have ha0 : r1.length < xs.length := by rw [hring]; simp
  have Hat : Hid (ge xs r1.length = ge C s) := Lib.hid (by
    have := Hget.out 0 (by omega)
    rw [Nat.add_zero, Nat.mod_eq_of_lt ha0] at this
    exact this)
  have hxn : xs.Nodup := by
    rw [hring]
    rw [← hrot] at hnd
    exact (List.perm_append_comm.nodup_iff).1 hnd
  have Hne : Hid (∀ t, t < r1.length → ge xs t ≠ ge C s) := Lib.hid (fun t ht e => by
    rw [← Hat.out, ge_eq xs (by omega), ge_eq xs ha0] at e
    have := (List.getElem_inj hxn).1 e
    omega)
  have Hlast : Hid (∀ k, k < Y.length → ge (ge C s :: (Y ++ [ge C (s + 2)])) (k + 1) = ge Y k) := Lib.hid (fun k hk => by rw [ge_cons_succ, geA_l _ hk])
  have Hend : Hid (ge (ge C s :: (Y ++ [ge C (s + 2)])) (Y.length + 1) = ge C (s + 2)) := Lib.hid (by rw [ge_cons_succ]; exact ge_mid _ _ _)
  have HnY : Hid (ge C (s + 2) ∉ Y) := Lib.hid (fun hm => by
    rw [List.nodup_cons, List.nodup_append] at hnd
    exact hnd.2.2.2 _ hm _ (by simp) rfl)
  have HxB : Hid (∀ x ∈ xs, -9223372036854775808 ≤ x ∧ x ≤ 9223372036854775807) := Lib.hid (fun x hx => by
    rw [← hxs] at hx
    unfold ringK at hx
    have hm := List.mem_of_mem_take (List.mem_filter.1 hx).1
    obtain ⟨d, hd, rfl⟩ := List.mem_map.1 hm
    have hdd := Hmr.out d hd
    have := oth_in (d := d) (M := E.length) hdd.1 (by omega)
    have := tail_in hV this.1 this.2
    have := hV.n1
    omega)
  obtain ⟨bA, oA, rp, rc, rfl, lA, cA'⟩ := hR.hA.rows (by omega)
  obtain ⟨_, a2⟩ := cA' w (Grew.refl _) v (by omega)
  obtain ⟨rv, hrv⟩ : ∃ rv, rp v = rv := ⟨_, rfl⟩
  obtain ⟨cv, hcv⟩ : ∃ cv, rc v = cv := ⟨_, rfl⟩
  rw [hrv, hrow] at a2
  have Ha1 : Hid (∀ W, Grew w W → W.cell? ⟨bA, oA + v, none⟩ = some (.slice rv row.length cv)) := Lib.hid (fun W h => by
    have := (cA' W h v (by omega)).1
    rw [hrv, hcv, hrow] at this
    exact this)
  have Ha2 := Lib.hid a2
  obtain ⟨bC, oC, rfl, lC, cC'⟩ := hC.cells (by omega)
  have HcC := Lib.hid cC'
  have Htl : Hid (∀ (d : Nat) W1, Grew w W1 → d < 2 * nE → Calls Tryd.prog 73 #[.agg #[.int .i64 N, .slice pE nE cE, .slice (some ⟨bA, oA, none⟩) nA cA], .int .i64 d] W1 fun e w' => e = .returned (.int .i64 (tailE E d)) ∧ Grew W1 w') := Lib.hid (fun d W1 h hd => by
    have := tailr_l N pE (some ⟨bA, oA, none⟩) nE nA cE cA E A d W1 (HR.out.grew h) HnE.out HnA.out
    rw [show tailF N E A (d : Int) = tailE E d by unfold tailF; rw [if_pos ⟨vRotB_iff.2 HV.out, by omega, by have := HnE.out; omega⟩]] at this
    exact this)
  have Hhas : Hid (∀ (u : Int) W1, Grew w W1 → Calls Tryd.prog 60 #[.slice pG nG cG, .int .i64 u] W1 fun e w' => e = .returned (.bool (decide (u ∈ G))) ∧ W1 = w') := Lib.hid (fun u W1 h => has36_r pG nG cG G u W1 (HG.out.grew h) HnG.out)
  have Hv := Lib.hid hv
  clear hR hV hC hG hnE hnA hnC hnG hrot hnd hxn hring hxs hrow hrv hcv a2 cA' cC' hv hal
  go_enter Tryd.func50, Tryd.ntmps50
  go_upto_region 1 with fail
  have HgB : Hid (Grew w (w.alloc (.cells #[.int .i64 N, .slice pE nE cE, .slice (some ⟨bA, oA, none⟩) nA cA] 25))) := Lib.hid ((Grew.refl w).alloc _)
  have k0 : Hid ((w.alloc (.cells #[.int .i64 N, .slice pE nE cE, .slice (some ⟨bA, oA, none⟩) nA cA] 25)).cell? ⟨w.heap.size, 0, none⟩ = some (.int .i64 N)) := Lib.hid (by simp [go_sem])
  have k1 : Hid ((w.alloc (.cells #[.int .i64 N, .slice pE nE cE, .slice (some ⟨bA, oA, none⟩) nA cA] 25)).cell? ⟨w.heap.size, 1, none⟩ = some (.slice pE nE cE)) := Lib.hid (by simp [go_sem])
  have k2 : Hid ((w.alloc (.cells #[.int .i64 N, .slice pE nE cE, .slice (some ⟨bA, oA, none⟩) nA cA] 25)).cell? ⟨w.heap.size, 2, none⟩ = some (.slice (some ⟨bA, oA, none⟩) nA cA)) := Lib.hid (by simp [go_sem])
  obtain ⟨wB, hwB⟩ : ∃ wB, w.alloc (.cells #[.int .i64 N, .slice pE nE cE, .slice (some ⟨bA, oA, none⟩) nA cA] 25) = wB := ⟨_, rfl⟩
  rw [hwB] at HgB k0 k1 k2 ⊢
  clear hwB
  have q2 := k2.out
  have hlw := World.block_lt_of_cell? wB _ q2
  dsimp only at hlw
  have c1 := HcC.out wB HgB.out (s + 1) (by rw [HnC.out]; omega)
  rw [Hv.out] at c1
  have d1 := Ha1.out wB HgB.out
  have lAB := Nat.lt_of_lt_of_le lA HgB.out.below.size
  have lCB := Nat.lt_of_lt_of_le lC HgB.out.below.size
  have hsi : (s : Int) + 1 < (nC : Int) := by omega
  have hvi : (v : Int) < (nA : Int) := by omega
  refine wp_region_over (by kernel_rfl) (by kernel_rfl) ?_; (repeat (go_big_quiet_step (fail))); refine wpQuiet_nil ?_; intro wO hW; replace hW : Grew _ wO := hW
  have HgO : Hid (Grew w wO) := Lib.hid (HgB.out.trans hW)
  have k0 : Hid (wO.cell? ⟨w.heap.size, 0, none⟩ = some (.int .i64 N)) := Lib.hid (hW.cellEq k0.out)
  have k1 : Hid (wO.cell? ⟨w.heap.size, 1, none⟩ = some (.slice pE nE cE)) := Lib.hid (hW.cellEq k1.out)
  have k2 : Hid (wO.cell? ⟨w.heap.size, 2, none⟩ = some (.slice (some ⟨bA, oA, none⟩) nA cA)) := Lib.hid (hW.cellEq k2.out)
  clear c1 d1 lAB lCB q2 hlw hW HgB
  have HON := Lib.hid ((Owns.nil wO wO.heap.size).none 3 1)
  go_wp2
  go_loopw [10, 11, 12] (fun vR jv _ wr => ∃ j : Nat, j ≤ row.length ∧ jv = .int .i64 j ∧ Grew wO wr ∧ Owns wr wO.heap.size [⟨vR, 3, 1, (ringK E row G j).length, intVs (ringK E row G j)⟩]) (fun _ jv _ _ => row.length - (intOf jv).toNat)
  case atStart => exact ⟨0, Nat.zero_le _, rfl, by (repeat (first | exact gR _ | refine gO ?_ _ | refine gA ?_ _ | refine gD ?_ | refine gN ?_ _)), by simpa [ringK, intVs] using HON.out.grew (by (repeat (first | exact gR _ | refine gO ?_ _ | refine gA ?_ _ | refine gD ?_ | refine gN ?_ _)))⟩
  case round =>
    clear HON
    obtain ⟨j, hj, rfl, hg, hO⟩ := hrel
    have Hg := Lib.hid hg
    have HO := Lib.hid hO
    have hszr := hg.below.size
    have q0 := hg.cellEq k0.out
    have q1 := hg.cellEq k1.out
    have q2 := hg.cellEq k2.out
    have hlw := World.block_lt_of_cell? wr _ q0
    dsimp only at hlw
    have Hgw : Hid (Grew w wr) := Lib.hid (HgO.out.trans hg)
    obtain ⟨pV, cV, rfl⟩ := own_form hO (k := 0) rfl
    have hrk := ringK_len E row G j
    clear hg hO
    by_cases hlt : j < row.length
    · have hji : (j : Int) < (row.length : Int) := by omega
      obtain ⟨bR, oR, rfl, lR, cR⟩ := Ha2.out.cells (by omega)
      have e1 := cR wr Hgw.out j hlt
      have lRw := Nat.lt_of_lt_of_le lR Hgw.out.below.size
      have hdr := Hmr.out _ (ge_mem hlt)
      obtain ⟨d, hd⟩ : ∃ d : Nat, ge row j = (d : Int) := ⟨(ge row j).toNat, by omega⟩
      rw [hd] at e1
      have hd2 : d < 2 * nE := by omega
      obtain ⟨o, ho⟩ : ∃ o : Nat, oth (d : Int) = (o : Int) := ⟨(oth d).toNat, by have := oth_in (d := d) (M := nE) (by omega) (by omega); omega⟩
      have ho2 : o < 2 * nE := by have := oth_in (d := d) (M := nE) (by omega) (by omega); omega
      have hx2 : bits BinOp.xor IntKind.i64 (d : Int) 1 = (o : Int) := by rw [← ho]; exact xor_small d (by omega)
      obtain ⟨u, hu⟩ : ∃ u, tailE E (o : Int) = u := ⟨_, rfl⟩
      have Hsc := Lib.hid (ringK_succ (E := E) (G := G) hlt)
      rw [hd, ho, hu] at Hsc
      have Htl2 : Hid (∀ W1, Grew w W1 → Calls Tryd.prog 73 #[.agg #[.int .i64 N, .slice pE nE cE, .slice (some ⟨bA, oA, none⟩) nA cA], .int .i64 o] W1 fun e w' => e = .returned (.int .i64 u) ∧ Grew W1 w') := Lib.hid (fun W1 h => by rw [← hu]; exact Htl.out o W1 h ho2)
      have hub : -9223372036854775808 ≤ u ∧ u ≤ 9223372036854775807 := by
        have := tail_in HV.out (d := (o : Int)) (by omega) (by have := HnE.out; omega)
        have := HV.out.n1
        omega
      obtain ⟨m, hm⟩ : ∃ m, decide (u ∈ G) = m := ⟨_, rfl⟩
      have Hhas2 : Hid (∀ W1, Grew w W1 → Calls Tryd.prog 60 #[.slice pG nG cG, .int .i64 u] W1 fun e w' => e = .returned (.bool m) ∧ W1 = w') := Lib.hid (fun W1 h => by rw [← hm]; exact Hhas.out u W1 h)
      have Hm := Lib.hid hm
      clear cR hd ho hu hm hdr
      go_upto_region 6 with fail
      refine wp_region_over (by kernel_rfl) (by kernel_rfl) ?_; (repeat (go_big_quiet_step ((go_at_call 73; apply over_call; with_reducible exact Htl2.out _ (Hgw.out.trans (by (repeat (first | exact gR _ | refine gO ?_ _ | refine gA ?_ _ | refine gD ?_ | refine gN ?_ _)))))))); refine wpQuiet_nil ?_; intro wQ hW; replace hW : Grew _ wQ := hW
      have HgQ : Hid (Grew wO wQ) := Lib.hid (Hg.out.trans hW)
      have HgQw : Hid (Grew w wQ) := Lib.hid (Hgw.out.trans hW)
      have HOQ := Lib.hid (HO.out.grew hW)
      have hszq := hW.below.size
      obtain ⟨n, hn⟩ : ∃ n, (ringK E row G j).length = n := ⟨_, rfl⟩
      rw [hn] at hrk HOQ ⊢
      have Hn := Lib.hid hn
      clear HO Hg Hgw q0 q1 q2 hlw hW e1 hn
      cases m
      · have Hsc2 : Hid (ringK E row G (j + 1) = ringK E row G j ++ [u]) := Lib.hid (by rw [Hsc.out, if_neg (of_decide_eq_false Hm.out)])
        go_wp2_with (first
          | ((go_at_call 60; apply Calls.mono; (with_reducible exact Hhas2.out _ (HgQw.out.trans (by (repeat (first | exact gR _ | refine gO ?_ _ | refine gA ?_ _ | refine gD ?_ | refine gN ?_ _))))); rintro e w' ⟨rfl, rfl⟩))
          | (at_builtin; refine wp_append_owns rfl _ _ 26 rfl 3 1 8 (.int .i64 0) Tryd.underlying26 Tryd.infoInt rfl (by decide) (wO.heap.size) _ 0 _ _ _ (HOQ.out.grew (by (repeat (first | exact gR _ | refine gO ?_ _ | refine gA ?_ _ | refine gD ?_ | refine gN ?_ _)))) rfl rfl _ 1 1 rfl [.int .i64 (u)] rfl (fun h => by cases h) (one_news _ (by first | (go_simp; done) | (simp [go_sem, ↓IntWalk.iteOmega, *]; done))) (by simp [Value.oneCell']) (by simp only [maxLen]; omega) (by omega) (by first | rfl | omega | (simp <;> omega)) ?_; intro v1 w1 hO1 hg1 hb1 hv1; have HO9 := Lib.hid hO1; have Hg9 := Lib.hid (Grew.grownBy (w0 := wO) (HgQ.out.trans (by (repeat (first | exact gR _ | refine gO ?_ _ | refine gA ?_ _ | refine gD ?_ | refine gN ?_ _)))) hg1 (fun q h => by have := hb1 q h; omega)); clear hO1 hg1 hb1 hv1))
        go_roundw
        case rel => exact ⟨j + 1, by omega, by go_num, Hg9.out.trans (by (repeat (first | exact gR _ | refine gO ?_ _ | refine gA ?_ _ | refine gD ?_ | refine gN ?_ _))), by rw [Hsc2.out, intVs_app', List.length_append, Hn.out]; exact HO9.out.grew (by (repeat (first | exact gR _ | refine gO ?_ _ | refine gA ?_ _ | refine gD ?_ | refine gN ?_ _)))⟩
        case measure => (simp [intOf] <;> omega)
      · have Hsc2 : Hid (ringK E row G (j + 1) = ringK E row G j) := Lib.hid (by rw [Hsc.out, if_pos (of_decide_eq_true Hm.out), List.append_nil])
        go_wp2_with ((go_at_call 60; apply Calls.mono; (with_reducible exact Hhas2.out _ (HgQw.out.trans (by (repeat (first | exact gR _ | refine gO ?_ _ | refine gA ?_ _ | refine gD ?_ | refine gN ?_ _))))); rintro e w' ⟨rfl, rfl⟩))
        go_roundw
        case rel => exact ⟨j + 1, by omega, by go_num, HgQ.out.trans (by (repeat (first | exact gR _ | refine gO ?_ _ | refine gA ?_ _ | refine gD ?_ | refine gN ?_ _))), by rw [Hsc2.out, Hn.out]; exact HOQ.out.grew (by (repeat (first | exact gR _ | refine gO ?_ _ | refine gA ?_ _ | refine gD ?_ | refine gN ?_ _)))⟩
        case measure => (simp [intOf] <;> omega)
    · obtain rfl : j = row.length := by omega
      rw [Hxs.out] at HO ⊢
      obtain ⟨q5, cap5, e1, e2, e3, e4, e5, e6⟩ := own_ints HO.out (k := 0) rfl HxB.out
      cases e1
      have HI5 := Lib.hid (e6 wr (Grew.refl _))
      obtain ⟨n, hn⟩ : ∃ n, xs.length = n := ⟨_, rfl⟩
      have Hn := Lib.hid hn
      rw [hn] at hxl hYl ha0 e3 ⊢
      have HYl := Lib.hid hYl
      have hn2 : 2 ≤ n := by omega
      clear hYl
      obtain ⟨a, ha⟩ : ∃ a, r1.length = a := ⟨_, rfl⟩
      rw [ha] at ha0
      have Ha := Lib.hid ha
      have hji : ¬ (row.length : Int) < (row.length : Int) := by omega
      have hg0 : Hid (Grew w wr) := Lib.hid Hgw.out
      clear HO e2 e5 e6 q0 q1 q2 hlw hn ha Hg hj hlt hrk
      obtain ⟨wb, hwb⟩ : ∃ wb, wb = wr := ⟨_, rfl⟩
      subst hwb
      go_wp2
      go_loopw [14] (fun av wk => ∃ t : Nat, t ≤ a ∧ av = .int .i64 t ∧ Grew wb wk) (fun av _ => a - (intOf av).toNat)
      case atStart => exact ⟨0, Nat.zero_le _, rfl, by (repeat (first | exact gR _ | refine gO ?_ _ | refine gA ?_ _ | refine gD ?_ | refine gN ?_ _))⟩
      case round =>
        obtain ⟨t, ht, rfl, hg⟩ := hrel
        have Hg := Lib.hid hg
        have Hgw : Hid (Grew w wr) := Lib.hid (hg0.out.trans hg)
        clear hg
        obtain ⟨bx, ox, rfl, lx, cx⟩ := HI5.out.cells (by rw [Hn.out]; omega)
        have x1 := cx wr Hg.out t (by rw [Hn.out]; omega)
        have c1 := HcC.out wr Hgw.out s (by rw [HnC.out]; omega)
        have lxw := Nat.lt_of_lt_of_le lx Hg.out.below.size
        have lCw := Nat.lt_of_lt_of_le lC Hgw.out.below.size
        obtain ⟨x, hx⟩ : ∃ x, ge xs t = x := ⟨_, rfl⟩
        obtain ⟨y, hy⟩ : ∃ y, ge C s = y := ⟨_, rfl⟩
        rw [hx] at x1
        rw [hy] at c1
        have hti : (t : Int) < (n : Int) := by omega
        have hsi2 : (s : Int) < (nC : Int) := by omega
        by_cases hta : t < a
        · have hxy : (x != y) = true := by rw [bne_iff_ne, ← hx, ← hy]; exact Hne.out t (by rw [Ha.out]; exact hta)
          clear cx hx hy
          go_upto_region 11 with fail
          refine wp_region_over (by kernel_rfl) (by kernel_rfl) ?_; (repeat (go_big_quiet_step (fail))); refine wpQuiet_nil ?_; rintro _ ⟨x, rfl⟩
          go_wp2
          go_roundw
          case rel => exact ⟨t + 1, by omega, by go_num, Hg.out.trans (by (repeat (first | exact gR _ | refine gO ?_ _ | refine gA ?_ _ | refine gD ?_ | refine gN ?_ _)))⟩
          case measure => (simp [intOf] <;> omega)
        · obtain rfl : t = a := by omega
          have hxy : (x != y) = false := by
            have e9 := Hat.out
            rw [Ha.out] at e9
            simp [bne, ← hx, ← hy, e9]
          clear cx hx hy
          go_upto_region 11 with fail
          refine wp_region_over (by kernel_rfl) (by kernel_rfl) ?_; (repeat (go_big_quiet_step (fail))); refine wpQuiet_nil ?_; intro wc hW; replace hW : Grew _ wc := hW
          have HgC : Hid (Grew wb wc) := Lib.hid (Hg.out.trans hW)
          have HgCw : Hid (Grew w wc) := Lib.hid (Hgw.out.trans hW)
          have HI6 := Lib.hid (HI5.out.grew HgC.out)
          clear Hg Hgw hW x1 c1 lxw lCw hxy
          go_upto_region 14 with fail
          obtain ⟨m1, hm1⟩ : ∃ m1, (t + 1) % n = m1 := ⟨_, rfl⟩
          have hm1n : m1 < n := by rw [← hm1]; exact Nat.mod_lt _ (by omega)
          have hmi : ((t : Int) + 1) % (n : Int) = (m1 : Int) := by rw [← hm1]; push_cast; rfl
          obtain ⟨bx', ox', e9, lx', cx⟩ := HI6.out.cells (by rw [Hn.out]; omega)
          cases e9
          have x1 := cx wc (Grew.refl _) m1 (by rw [Hn.out]; exact hm1n)
          have c1 := HcC.out wc HgCw.out (s + 2) (by rw [HnC.out]; omega)
          have lCw := Nat.lt_of_lt_of_le lC HgCw.out.below.size
          have hm1i : (m1 : Int) < (n : Int) := by omega
          have hsi3 : (s : Int) + 2 < (nC : Int) := by omega
          obtain ⟨x, hx⟩ : ∃ x, ge xs m1 = x := ⟨_, rfl⟩
          obtain ⟨y, hy⟩ : ∃ y, ge C (s + 2) = y := ⟨_, rfl⟩
          rw [hx] at x1
          rw [hy] at c1
          have hby : ((x == y) = true ∧ ¬ 2 < (n : Int)) ∨ (x == y) = false := by
            have h9 := HYl.out
            by_cases hY : Y.length = 0
            · left
              have h1 := Hget.out 1 (by rw [Hn.out]; omega)
              rw [Ha.out, Hn.out, hm1, hx, show 1 = Y.length + 1 by omega, Hend.out, hy] at h1
              exact ⟨by rw [beq_iff_eq]; exact h1, by omega⟩
            · right
              have h1 := Hget.out 1 (by rw [Hn.out]; omega)
              rw [Ha.out, Hn.out, hm1, Hlast.out 0 (by omega), hx] at h1
              rw [beq_eq_false_iff_ne, h1, ← hy]
              intro e
              exact HnY.out (by rw [← e]; exact ge_mem (by omega))
          clear cx hx hy hm1
          have HC17 := Lib.hid (HC.out.cut (k := s + 1) (by rw [HnC.out]; omega))
          have hTl : (C.take (s + 1)).length = s + 1 := by rw [List.length_take, HnC.out]; omega
          have HD17 := Lib.hid (HC.out.drop (k := s + 2) (by rw [HnC.out]; omega))
          have hDl : (C.drop (s + 2)).length = nC - (s + 2) := by rw [List.length_drop, HnC.out]
          have HTl := Lib.hid hTl
          have HDl := Lib.hid hDl
          rcases hby with ⟨hxy, hn3⟩ | hxy
          all_goals
            refine wp_region_over (by kernel_rfl) (by kernel_rfl) ?_; (repeat (go_big_quiet_step (fail))); refine wpQuiet_nil ?_; intro wd hW; replace hW : Grew _ wd := hW
            have HgD : Hid (Grew wb wd) := Lib.hid (HgC.out.trans hW)
            have HgDw : Hid (Grew w wd) := Lib.hid (HgCw.out.trans hW)
            have HI7 := Lib.hid (HI6.out.grew hW)
            clear hW
            go_upto_region 18 with (at_builtin; refine wp_append_owns rfl _ _ 26 rfl 3 1 8 (.int .i64 0) Tryd.underlying26 Tryd.infoInt rfl (by decide) (wd.heap.size) _ 0 _ _ _ ((Owns.nil _ wd.heap.size).none 3 1) rfl rfl _ _ _ rfl (intVs (C.take (s + 1))) (by rw [intVs_length, Nat.mul_one]; try first | rfl | assumption | (simp; done) | omega) (fun h => by cases h) (Ints.news (HC17.out.grew (HgDw.out.trans (by (repeat (first | exact gR _ | refine gO ?_ _ | refine gA ?_ _ | refine gD ?_ | refine gN ?_ _)))))) (intVs_one _) (by simp only [maxLen]; omega) (by omega) (by first | rfl | omega | (simp <;> omega)) ?_; intro v1 w1 hO1 hg1 hb1 hv1; have Hg2 := Lib.hid (Grew.grownBy (w0 := wd) (show Grew wd _ by (repeat (first | exact gR _ | refine gO ?_ _ | refine gA ?_ _ | refine gD ?_ | refine gN ?_ _))) hg1 (fun g h => by have := hb1 g h; omega)); have HO2 := Lib.hid hO1; clear hO1 hg1 hb1 hv1)
            go_wp2
            go_loopw [16, 17] (fun vO kv wk => ∃ k : Nat, 1 ≤ k ∧ k + 1 ≤ n ∧ kv = .int .i64 k ∧ Grew wd wk ∧ Owns wk wd.heap.size [⟨vO, 3, 1, (C.take (s + 1) ++ Y.take (k - 1)).length, intVs (C.take (s + 1) ++ Y.take (k - 1))⟩]) (fun _ kv _ => n - (intOf kv).toNat)
            case atStart => exact ⟨1, Nat.le_refl _, by omega, rfl, Hg2.out.trans (by (repeat (first | exact gR _ | refine gO ?_ _ | refine gA ?_ _ | refine gD ?_ | refine gN ?_ _))), by simpa [HTl.out] using HO2.out.grew (by (repeat (first | exact gR _ | refine gO ?_ _ | refine gA ?_ _ | refine gD ?_ | refine gN ?_ _)))⟩
            case round =>
              clear Hg2 HO2
              obtain ⟨k, hk1, hk, rfl, hgk, hOk⟩ := hrel
              have Hgk := Lib.hid hgk
              have HOk := Lib.hid hOk
              have hszk := hgk.below.size
              obtain ⟨pV, cV2, rfl⟩ := own_form hOk (k := 0) rfl
              clear hgk hOk
              have hkl : (C.take (s + 1) ++ Y.take (k - 1)).length = s + k := by
                have := HYl.out
                rw [List.length_append, HTl.out, List.length_take]
                omega
              obtain ⟨T, hT⟩ : ∃ T, C.take (s + 1) ++ Y.take (k - 1) = T := ⟨_, rfl⟩
              have HT := Lib.hid hT
              rw [hT] at HOk hkl ⊢
              rw [hkl] at HOk ⊢
              have Hkl := Lib.hid hkl
              clear hT hkl
              by_cases hlk : k + 1 < n
              · have h2n : 2 < (n : Int) := by omega
                first
                | (exfalso; omega)
                | (have hki : (k : Int) < (n : Int) - 1 := by omega
                   obtain ⟨m2, hm2⟩ : ∃ m2, (t + k) % n = m2 := ⟨_, rfl⟩
                   have hm2n : m2 < n := by rw [← hm2]; exact Nat.mod_lt _ (by omega)
                   have hm2i : ((t : Int) + (k : Int)) % (n : Int) = (m2 : Int) := by rw [← hm2]; push_cast; rfl
                   obtain ⟨bx', ox', e9, lx', cx⟩ := HI7.out.cells (by rw [Hn.out]; omega)
                   cases e9
                   have x1 := cx wr Hgk.out m2 (by rw [Hn.out]; exact hm2n)
                   have hm2j : (m2 : Int) < (n : Int) := by omega
                   obtain ⟨x, hx⟩ : ∃ x, ge xs m2 = x := ⟨_, rfl⟩
                   rw [hx] at x1
                   have hxY : ge Y (k - 1) = x := by
                     have h1 := Hget.out k (by rw [Hn.out]; omega)
                     have h2 := Hlast.out (k - 1) (by have := HYl.out; omega)
                     rw [show k - 1 + 1 = k by omega] at h2
                     rw [Ha.out, Hn.out, hm2, hx, h2] at h1
                     exact h1.symm
                   have HTs : Hid (C.take (s + 1) ++ Y.take (k + 1 - 1) = T ++ [x]) := Lib.hid (by
                     have hkY : k - 1 < Y.length := by have := HYl.out; omega
                     have e8 : Y.take (k - 1 + 1) = Y.take (k - 1) ++ [x] := by rw [List.take_succ_eq_append_getElem hkY, ← ge_eq Y hkY, hxY]
                     rw [← HT.out, show k + 1 - 1 = (k - 1) + 1 by omega, e8, List.append_assoc])
                   have hxb := HxB.out x (by rw [← hx]; exact ge_mem (by rw [Hn.out]; exact hm2n))
                   clear cx hx hxY hm2
                   go_wp2_with ((at_builtin; refine wp_append_owns rfl _ _ 26 rfl 3 1 8 (.int .i64 0) Tryd.underlying26 Tryd.infoInt rfl (by decide) (wd.heap.size) _ 0 _ _ _ (HOk.out.grew (by (repeat (first | exact gR _ | refine gO ?_ _ | refine gA ?_ _ | refine gD ?_ | refine gN ?_ _)))) rfl rfl _ 1 1 rfl [.int .i64 (x)] rfl (fun h => by cases h) (one_news _ (by first | (go_simp; done) | (simp [go_sem, ↓IntWalk.iteOmega, *]; done))) (by simp [Value.oneCell']) (by simp only [maxLen]; omega) (by omega) (by first | rfl | omega | (simp <;> omega)) ?_; intro v1 w1 hO1 hg1 hb1 hv1; have HO9 := Lib.hid hO1; have Hg9 := Lib.hid (Grew.grownBy (w0 := wd) (Hgk.out.trans (by (repeat (first | exact gR _ | refine gO ?_ _ | refine gA ?_ _ | refine gD ?_ | refine gN ?_ _)))) hg1 (fun q h => by have := hb1 q h; omega)); clear hO1 hg1 hb1 hv1))
                   go_roundw
                   case rel => exact ⟨k + 1, by omega, by omega, by go_num, Hg9.out.trans (by (repeat (first | exact gR _ | refine gO ?_ _ | refine gA ?_ _ | refine gD ?_ | refine gN ?_ _))), by rw [HTs.out, intVs_app', List.length_append, Hkl.out]; exact HO9.out.grew (by (repeat (first | exact gR _ | refine gO ?_ _ | refine gA ?_ _ | refine gD ?_ | refine gN ?_ _)))⟩
                   case measure => (simp [intOf] <;> omega))
              · have hki : ¬ (k : Int) < (n : Int) - 1 := by omega
                have HTe : Hid (C.take (s + 1) ++ (Y ++ C.drop (s + 2)) = T ++ C.drop (s + 2)) := Lib.hid (by
                  rw [← HT.out, List.take_of_length_le (show Y.length ≤ k - 1 by have := HYl.out; omega), List.append_assoc])
                have HTn : Hid (T.length = s + k) := Hkl
                go_wp2_with ((at_builtin; refine wp_append_owns rfl _ _ 26 rfl 3 1 8 (.int .i64 0) Tryd.underlying26 Tryd.infoInt rfl (by decide) (wd.heap.size) _ 0 _ _ _ (HOk.out.grew (by (repeat (first | exact gR _ | refine gO ?_ _ | refine gA ?_ _ | refine gD ?_ | refine gN ?_ _)))) rfl rfl _ _ _ rfl (intVs (C.drop (s + 2))) (by rw [intVs_length, Nat.mul_one]; try first | rfl | assumption | (simp; done) | omega) (fun h => by cases h) (Ints.news (HD17.out.grew (HgDw.out.trans (Hgk.out.trans (by (repeat (first | exact gR _ | refine gO ?_ _ | refine gA ?_ _ | refine gD ?_ | refine gN ?_ _))))))) (intVs_one _) (by simp only [maxLen]; omega) (by omega) (by first | rfl | omega | (simp <;> omega)) ?_; intro v1 w1 hO1 hg1 hb1 hv1; have Hg9 := Lib.hid (Grew.grownBy (w0 := wd) (Hgk.out.trans (by (repeat (first | exact gR _ | refine gO ?_ _ | refine gA ?_ _ | refine gD ?_ | refine gN ?_ _)))) hg1 (fun g h => by have := hb1 g h; omega)); have HO9 := Lib.hid hO1; clear hO1 hg1 hb1 hv1))
                have hbd : ∀ y ∈ T ++ C.drop (s + 2), -9223372036854775808 ≤ y ∧ y ≤ 9223372036854775807 := by
                  intro y hy
                  rcases List.mem_append.1 hy with hy | hy
                  · rw [← HT.out] at hy
                    rcases List.mem_append.1 hy with hy | hy
                    · exact HC17.out.2.1 y hy
                    · obtain ⟨j, hj, e⟩ := mem_ge.1 (List.mem_of_mem_take hy)
                      have h1 := Hlast.out j hj
                      have h2 := Hget.out (j + 1) (by rw [Hn.out]; have := HYl.out; omega)
                      rw [h1, e, Ha.out, Hn.out] at h2
                      rw [← h2]
                      exact HxB.out _ (ge_mem (by rw [Hn.out]; exact Nat.mod_lt _ (by omega)))
                  · exact HD17.out.2.1 y hy
                have h5 := HO9.out
                rw [List.set_cons_zero, ← intVs_app'] at h5
                obtain ⟨q5, cap5, e1, e2, e3, e4, e5, e6⟩ := own_ints h5 (k := 0) rfl hbd
                subst e1
                have H6 := Lib.hid e6
                have H2 := Lib.hid e2
                clear h5 e6 hbd HO9
                go_ret
                refine ⟨HgDw.out.trans (Hg9.out.trans (by (repeat (first | exact gR _ | refine gO ?_ _ | refine gA ?_ _ | refine gD ?_ | refine gN ?_ _)))), q5, cap5, ?_, ?_, ?_, e4⟩
                · rw [HTe.out, H2.out]; rfl
                · rw [HTe.out]; exact H6.out _ (by (repeat (first | exact gR _ | refine gO ?_ _ | refine gA ?_ _ | refine gD ?_ | refine gN ?_ _)))
                · rw [HTe.out, H2.out]; exact e3
end Go.Proofs.YtlealdicoceekaaDoor

/- Order of the reference, plain: a round of the peeling. -/
namespace Go.Proofs.YtlealdicoceekaaDoor
open Go.RowKit

section
variable {N : Int} {E : List (Int × Int)} {A : List (List Int)}
/-- What is left around the vertex that is taken. -/
theorem ring_spot (hT : trgB N E A = true) {ord L1 M X G p q : List Int} {a b f : Int} (hP : Pee E A (fun x => x ∈ ord) (L1 ++ a :: b :: f :: M)) (hS : Spot E A (fun x => x ∈ ord) L1 a b f M X G p q) {Gl : List Int} (hG : ∀ u, u ∈ Gl ↔ u = tailE E b ∨ u ∈ ord) :
    ∃ r1 r2, ringK E (rowOf A (tailE E b).toNat) Gl (rowOf A (tailE E b).toNat).length = r1 ++ tailE E a :: r2 ∧ (tailE E a :: r2) ++ r1 = tailE E a :: (nearL E X ++ [tailE E f]) := by
  have hV := trg_valid hT
  -- q holds something
  obtain ⟨p, q, hS, hq⟩ : ∃ p q, Spot E A (fun x => x ∈ ord) L1 a b f M X G p q ∧ ∃ q', q = oth a :: q' := by
    cases q with
    | nil =>
      have hr := hS.rot
      rw [List.nil_append] at hr
      refine ⟨[], p, ⟨by rw [hS.row]; simp, by rw [List.append_nil]; exact hr, hS.ins, hS.out, hS.ta, hS.tf, hS.da, hS.db⟩, X ++ b :: G, hr⟩
    | cons c q' =>
      have hr := hS.rot
      rw [List.cons_append] at hr
      obtain ⟨e1, _⟩ := List.cons.inj hr
      exact ⟨p, c :: q', hS, q', by rw [e1]⟩
  obtain ⟨q', rfl⟩ := hq
  have hnd := hP.nd
  simp only [List.map_append, List.map_cons, List.nodup_append, List.nodup_cons, List.mem_cons, not_or] at hnd
  obtain ⟨n1, ⟨⟨n2, n3, n4⟩, ⟨n5, n6⟩, n7, n8⟩, n9⟩ := hnd
  have hna : tailE E a ∉ Gl := fun h => by
    rcases (hG _).1 h with k | k
    · exact n2 k
    · exact hP.ng a (by simp) k
  have hnf : tailE E f ∉ Gl := fun h => by
    rcases (hG _).1 h with k | k
    · exact n5 k.symm
    · exact hP.ng f (by simp) k
  have hnX : ∀ d ∈ X, tailE E (oth d) ∉ Gl := fun d hd h => by
    rcases (hG _).1 h with k | k
    · exact (hS.ins d hd).2 (by rw [k]; simp)
    · exact (hS.ins d hd).1 k
  have hGG : ∀ d ∈ G, tailE E (oth d) ∈ Gl := fun d hd => (hG _).2 (Or.inr (hS.out d hd))
  obtain ⟨e1, e2⟩ := near_rot hS
  have hl : (nearL E (rowOf A (tailE E b).toNat)).length = (rowOf A (tailE E b).toNat).length := by unfold nearL; rw [List.length_map]
  have hrk : ringK E (rowOf A (tailE E b).toNat) Gl (rowOf A (tailE E b).toNat).length = (nearL E p ++ nearL E (oth a :: q')).filter fun u => decide (u ∉ Gl) := by
    unfold ringK
    rw [← hl, List.take_length, e1]
  have hta : nearL E (oth a :: q') = tailE E a :: nearL E q' := by unfold nearL; rw [List.map_cons, oth_oth]
  have hff : (nearL E (oth a :: q') ++ nearL E p).filter (fun u => decide (u ∉ Gl)) = tailE E a :: (nearL E X ++ [tailE E f]) := by
    rw [e2, List.filter_cons_of_pos (by simpa using hna), List.filter_append, List.filter_cons_of_pos (by simpa using hnf)]
    congr 1
    have h1 : (nearL E X).filter (fun u => decide (u ∉ Gl)) = nearL E X := by
      rw [List.filter_eq_self]
      intro u hu
      obtain ⟨d, hd, rfl⟩ := List.mem_map.1 hu
      exact decide_eq_true (hnX d hd)
    have h2 : (nearL E G).filter (fun u => decide (u ∉ Gl)) = [] := by
      rw [List.filter_eq_nil_iff]
      intro u hu
      obtain ⟨d, hd, rfl⟩ := List.mem_map.1 hu
      simpa using hGG d hd
    rw [h1, h2]
  refine ⟨(nearL E p).filter (fun u => decide (u ∉ Gl)), (nearL E q').filter (fun u => decide (u ∉ Gl)), ?_, ?_⟩
  · rw [hrk, List.filter_append, hta, List.filter_cons_of_pos (by simpa using hna)]
  · rw [← hff, List.filter_append, hta, List.filter_cons_of_pos (by simpa using hna)]
theorem join_cho (hV : vRot N E A) {u v : Int} : joinB E u v = true ↔ ∃ d, isD E d ∧ tailE E d = u ∧ tailE E (oth d) = v := by
  constructor
  · intro h
    obtain ⟨d, d0, d1, d2, d3⟩ := dart_nbr (join_nbr.1 h)
    exact ⟨oth d, isD.oth ⟨d0, d1⟩, d3, by rw [oth_oth]; exact d2⟩
  · rintro ⟨d, hd, rfl, rfl⟩
    rw [join_nbr]
    have := nbr_dart (E := E) hd.oth.1 hd.oth.2
    rwa [oth_oth] at this
/-- Some vertex has no chord: if not an earlier one, then the last one that is looked at. -/
theorem ord_free (hT : trgB N E A = true) {ord D : List Int} (hP : Pee E A (fun x => x ∈ ord) D) (hm : 3 ≤ D.length) (h : ∀ t, 0 < t → t + 2 < D.length → chdK E (D.map (tailE E)) t D.length = true) : chdK E (D.map (tailE E)) (D.length - 2) D.length = false := by
  have hV := trg_valid hT
  obtain ⟨L, hL⟩ := hP.last
  have hring : Ring E A D.length (fun t => tailE E (ge D t)) (fun t => ge D t) := by
    refine ring_of hV ?_ hP.nd hP.ng
    have e : ge D (D.length - 1) = 1 := by
      have e2 : D.length - 1 = L.length := by rw [hL]; simp
      rw [e2, hL]
      exact ge_mid _ _ _
    rw [e]
    exact hP.fans
  obtain ⟨t, t0, t1, ht⟩ := free_ex hV (chk_all (trg_chk hT)).1 hring hm
  have hg : ∀ k, k < D.length → ge (D.map (tailE E)) k = tailE E (ge D k) := fun k hk => by
    rw [ge_eq _ (by rw [List.length_map]; exact hk), List.getElem_map, ← ge_eq D hk]
  have hno : chdK E (D.map (tailE E)) t D.length = false := by
    rw [chdK_no]
    intro k hk h1 h2 h3
    rw [hg t (by omega), hg k hk]
    cases hj : joinB E (tailE E (ge D t)) (tailE E (ge D k))
    · rfl
    · exact absurd ((join_cho hV).1 hj) (ht k hk h3 h1)
  by_cases e : t = D.length - 2
  · rw [← e]; exact hno
  · have := h t t0 (by omega)
    rw [hno] at this
    cases this
/-- A round. -/
theorem ord_step (hT : trgB N E A = true) {ord D : List Int} (hP : Pee E A (fun x => x ∈ ord) D) {t : Nat} (h0 : 0 < t) (h1 : t + 1 < D.length) (hc : chdK E (D.map (tailE E)) t D.length = false) :
    ∃ L1 a b f M X G p q, D = L1 ++ a :: b :: f :: M ∧ t = L1.length + 1 ∧ (∀ d, isD E d → tailE E d = tailE E b → ∀ x, x ∈ L1 ∨ x ∈ M → tailE E (oth d) ≠ tailE E x) ∧ Spot E A (fun x => x ∈ ord) L1 a b f M X G p q := by
  have hV := trg_valid hT
  obtain ⟨L1, a, b, f, M, rfl, ht⟩ := split3 h0 h1
  rw [chdK_no] at hc
  have hg : ∀ k, k < (L1 ++ a :: b :: f :: M).length → ge ((L1 ++ a :: b :: f :: M).map (tailE E)) k = tailE E (ge (L1 ++ a :: b :: f :: M) k) := fun k hk => by
    rw [ge_eq _ (by rw [List.length_map]; exact hk), List.getElem_map, ← ge_eq _ hk]
  have hb : ge (L1 ++ a :: b :: f :: M) t = b := by
    rw [show L1 ++ a :: b :: f :: M = (L1 ++ [a]) ++ b :: (f :: M) by simp, show t = (L1 ++ [a]).length by rw [ht]; simp]
    exact ge_mid _ _ _
  have hfr : ∀ d, isD E d → tailE E d = tailE E b → ∀ x, x ∈ L1 ∨ x ∈ M → tailE E (oth d) ≠ tailE E x := fun d hd htd x hx e => by
    have hk : ∃ k, k < (L1 ++ a :: b :: f :: M).length ∧ ge (L1 ++ a :: b :: f :: M) k = x ∧ (k < L1.length ∨ L1.length + 3 ≤ k) := by
      rcases hx with hx | hx
      · obtain ⟨k, hk, e⟩ := mem_ge.1 hx
        exact ⟨k, by simp; omega, by rw [geA_l _ hk]; exact e, Or.inl hk⟩
      · obtain ⟨k, hk, e⟩ := mem_ge.1 hx
        refine ⟨L1.length + 3 + k, by simp; omega, ?_, Or.inr (by omega)⟩
        rw [show L1 ++ a :: b :: f :: M = (L1 ++ [a, b, f]) ++ M by simp, show L1.length + 3 + k = (L1 ++ [a, b, f]).length + k by simp, geA_r]
        exact e
    obtain ⟨k, hk, hkx, hor⟩ := hk
    have := hc k hk (by omega) (by omega) (by omega)
    rw [hg t (by omega), hb, hg k hk, hkx] at this
    have hj := (join_cho hV (u := tailE E b) (v := tailE E x)).2 ⟨d, hd, htd, e⟩
    rw [this] at hj
    cases hj
  obtain ⟨X, G, p, q, hS⟩ := spot_ex hT hP hfr
  exact ⟨L1, a, b, f, M, X, G, p, q, rfl, ht, hfr, hS⟩
/-- The state of the peeling: the contour C, what is gone (the last one first). -/
inductive Stt (E : List (Int × Int)) (A : List (List Int)) (D0 : List Int) (C ord : List Int) : Prop
  | more (D : List Int) (hC : C = D.map (tailE E)) (h3 : 3 ≤ D.length) (hP : Pee E A (fun x => x ∈ ord) D) (hn : ord.Nodup) (hr : ∀ u ∈ ord, 0 ≤ u ∧ u < (A.length : Int)) (he : ord = [] → D.length = 3) (hk : ∀ R, Peels E A ord D R → Peels E A [] D0 (ord ++ R))
  | done (h2 : C.length = 2) (hn : ord.Nodup) (hr : ∀ u ∈ ord, 0 ≤ u ∧ u < (A.length : Int)) (hR : Peels E A [] D0 ord)
theorem stt_len (hT : trgB N E A = true) {D0 C ord : List Int} (h : Stt E A D0 C ord) : C.length ≤ A.length ∧ 2 ≤ C.length ∧ ord.length ≤ A.length ∧ ∀ u ∈ ord, 0 ≤ u ∧ u < (A.length : Int) := by
  have hV := trg_valid hT
  have hN3 := trg_three hT
  have hal := hV.al
  cases h with
  | more D hC h3 hP hn hr he hk =>
    subst hC
    exact ⟨nodup_len hP.nd (fans_range hV hP), by rw [List.length_map]; omega, nodup_len hn hr, hr⟩
  | done h2 hn hr hR => exact ⟨by omega, by omega, nodup_len hn hr, hr⟩
/-- The next state. -/
theorem stt_next (hT : trgB N E A = true) {D0 D ord : List Int} (h3 : 3 ≤ D.length) (hP : Pee E A (fun x => x ∈ ord) D) (hn : ord.Nodup) (hr : ∀ u ∈ ord, 0 ≤ u ∧ u < (A.length : Int)) (hk : ∀ R, Peels E A ord D R → Peels E A [] D0 (ord ++ R)) {s : Nat} (h1 : s + 2 < D.length) (hc : chdK E (D.map (tailE E)) (s + 1) D.length = false) :
    ∃ (v : Nat) (r1 r2 Y : List Int), ge (D.map (tailE E)) (s + 1) = (v : Int) ∧ v < A.length ∧ (v : Int) ∉ ord ∧ (∀ Gl, (∀ u, u ∈ Gl ↔ u = (v : Int) ∨ u ∈ ord) → ∃ r1 r2, ringK E (rowOf A v) Gl (rowOf A v).length = r1 ++ ge (D.map (tailE E)) s :: r2 ∧ (ge (D.map (tailE E)) s :: r2) ++ r1 = ge (D.map (tailE E)) s :: (Y ++ [ge (D.map (tailE E)) (s + 2)])) ∧
      (ge (D.map (tailE E)) s :: (Y ++ [ge (D.map (tailE E)) (s + 2)])).Nodup ∧ Stt E A D0 ((D.map (tailE E)).take (s + 1) ++ (Y ++ (D.map (tailE E)).drop (s + 2))) (ord ++ [(v : Int)]) := by
  have hV := trg_valid hT
  obtain ⟨L1, a, b, f, M, X, G, p, q, rfl, ht, hfr, hS⟩ := ord_step hT hP (t := s + 1) (by omega) (by omega) hc
  obtain rfl : s = L1.length := by omega
  have hbr := head_in hV hS.db
  obtain ⟨v, hv⟩ : ∃ v : Nat, tailE E b = (v : Int) := ⟨(tailE E b).toNat, by omega⟩
  have hvn : (tailE E b).toNat = v := by omega
  have hmap : (L1 ++ a :: b :: f :: M).map (tailE E) = L1.map (tailE E) ++ tailE E a :: tailE E b :: tailE E f :: M.map (tailE E) := by simp
  have hLl : L1.length = (L1.map (tailE E)).length := by rw [List.length_map]
  have g0 : ge ((L1 ++ a :: b :: f :: M).map (tailE E)) L1.length = tailE E a := by rw [hmap, hLl]; exact ge_mid _ _ _
  have g1 : ge ((L1 ++ a :: b :: f :: M).map (tailE E)) (L1.length + 1) = tailE E b := by
    rw [hmap, show L1.map (tailE E) ++ tailE E a :: tailE E b :: tailE E f :: M.map (tailE E) = (L1.map (tailE E) ++ [tailE E a]) ++ tailE E b :: (tailE E f :: M.map (tailE E)) by simp, show L1.length + 1 = (L1.map (tailE E) ++ [tailE E a]).length by simp]
    exact ge_mid _ _ _
  have g2 : ge ((L1 ++ a :: b :: f :: M).map (tailE E)) (L1.length + 2) = tailE E f := by
    rw [hmap, show L1.map (tailE E) ++ tailE E a :: tailE E b :: tailE E f :: M.map (tailE E) = (L1.map (tailE E) ++ [tailE E a, tailE E b]) ++ tailE E f :: M.map (tailE E) by simp, show L1.length + 2 = (L1.map (tailE E) ++ [tailE E a, tailE E b]).length by simp]
    exact ge_mid _ _ _
  have htk : ((L1 ++ a :: b :: f :: M).map (tailE E)).take (L1.length + 1) = L1.map (tailE E) ++ [tailE E a] := by
    rw [hmap, show L1.map (tailE E) ++ tailE E a :: tailE E b :: tailE E f :: M.map (tailE E) = (L1.map (tailE E) ++ [tailE E a]) ++ (tailE E b :: tailE E f :: M.map (tailE E)) by simp, show L1.length + 1 = (L1.map (tailE E) ++ [tailE E a]).length by simp]
    exact List.take_left
  have hdp : ((L1 ++ a :: b :: f :: M).map (tailE E)).drop (L1.length + 2) = (f :: M).map (tailE E) := by
    rw [hmap, show L1.map (tailE E) ++ tailE E a :: tailE E b :: tailE E f :: M.map (tailE E) = (L1.map (tailE E) ++ [tailE E a, tailE E b]) ++ (f :: M).map (tailE E) by simp, show L1.length + 2 = (L1.map (tailE E) ++ [tailE E a, tailE E b]).length by simp]
    exact List.drop_left
  have hnew : L1.map (tailE E) ++ [tailE E a] ++ (nearL E X ++ (f :: M).map (tailE E)) = (L1 ++ ((oth a :: X).map (thd A) ++ f :: M)).map (tailE E) := by
    rw [new_tails hT hS]
    simp [nearL]
  obtain ⟨n1, n2⟩ := take_nd hT hP hS hn hr
  refine ⟨v, [], [], nearL E X, by rw [g1]; exact hv, by omega, by rw [← hv]; exact hP.ng b (by simp), fun Gl hG => ?_, ?_, ?_⟩
  · obtain ⟨r1, r2, e1, e2⟩ := ring_spot hT hP hS (Gl := Gl) (fun u => by rw [hv]; exact hG u)
    rw [hvn] at e1
    exact ⟨r1, r2, by rw [g0]; exact e1, by rw [g0, g2]; exact e2⟩
  · rw [g0, g2]
    by_cases hne : L1 ≠ [] ∨ M ≠ [] ∨ X ≠ []
    · have hP' := pee_take (go' := fun x => x ∈ ord ++ [tailE E b]) hT hP hfr hS (fun x => by simp) hne
      have hnd := hP'.nd
      rw [← hnew] at hnd
      refine hnd.sublist ?_
      have : (tailE E a :: (nearL E X ++ [tailE E f])).Sublist (tailE E a :: (nearL E X ++ (f :: M).map (tailE E))) := List.Sublist.cons_cons _ (List.Sublist.append (List.Sublist.refl _) (List.Sublist.cons_cons _ (List.nil_sublist _)))
      refine this.trans ?_
      rw [List.append_assoc]
      exact List.sublist_append_right _ _
    · simp only [not_or, Classical.not_not] at hne
      obtain ⟨rfl, rfl, rfl⟩ := hne
      have hnd := hP.nd
      have h2 : (([a, b, f] : List Int).map (tailE E)).Nodup := hnd
      simp at h2
      simp [nearL]
      exact fun e => h2.1.2 e
  · rw [htk, hdp, hnew, ← hv]
    by_cases hne : L1 ≠ [] ∨ M ≠ [] ∨ X ≠ []
    · have hP' := pee_take (go' := fun x => x ∈ ord ++ [tailE E b]) hT hP hfr hS (fun x => by simp) hne
      refine Stt.more _ rfl ?_ hP' n1 n2 (fun e => by simp at e) (fun R hR => ?_)
      · simp only [List.length_append, List.length_cons, List.length_map]
        rcases hne with k | k | k <;> have := List.length_pos_iff.2 k <;> omega
      · rw [List.append_assoc]
        exact hk _ (Peels.take hP hfr hS hne hR)
    · simp only [not_or, Classical.not_not] at hne
      obtain ⟨rfl, rfl, rfl⟩ := hne
      refine Stt.done (by simp) n1 n2 ?_
      exact hk _ (Peels.fin hP hS)
end
end Go.Proofs.YtlealdicoceekaaDoor
