/- Joined by a program from the texts ReaJ RefK LabA SchF SchG SchH PlnB PlnC PlnD PlnE PlnF. -/
import Derived.Test.YtlealdicoceekaaDoorRPg
/- Build of the program. -/
set_option linter.unusedSimpArgs false
set_option linter.unusedVariables false
namespace Go.Proofs.YtlealdicoceekaaDoor
open Go.RowKit
attribute [local go_sem ↓] Go.wp_at_zero Go.wp_at_succ

/-- The darts from a vertex to those of a contour, in the contour's order. -/
def nearF (E : List (Int × Int)) (row : List Int) (u : Int) : List Int := row.filter fun d => tailE E (oth d) == u
def nearB (E : List (Int × Int)) (row C : List Int) : List Int := C.flatMap (nearF E row)
/-- The labels that they get. -/
def putK (A : List (List Int)) (nl : List Int) (X : List Int) : Nat → List Int
  | 0 => X
  | i + 1 => if outB A (ge nl i) = true then putK A nl X i else if i = 0 then (putK A nl X i).set (ge nl i).toNat 0 else if i + 1 = nl.length then (putK A nl X i).set (ge nl i).toNat 1 else (putK A nl X i).set (oth (ge nl i)).toNat 2
noncomputable def contG (N : Int) (E : List (Int × Int)) (A : List (List Int)) (O : List Int) (j : Nat) : List Int := (contP N E A O j).getD []
noncomputable def buildK (N : Int) (E : List (Int × Int)) (A : List (List Int)) (O : List Int) : Nat → List Int
  | 0 => List.replicate (2 * E.length) (-1)
  | k + 1 => putK A (nearB E (rowOf A (ge O (k + 2)).toNat) (contG N E A O k)) (buildK N E A O k) (nearB E (rowOf A (ge O (k + 2)).toNat) (contG N E A O k)).length
noncomputable def buildRes (N : Int) (E : List (Int × Int)) (A : List (List Int)) (O : List Int) : List Int × Int :=
  if trgB N E A = false then ([], 13) else if chkO N E A O = false then ([], 1) else (buildK N E A O (O.length - 2), 0)
theorem putK_len (A : List (List Int)) (nl X : List Int) : ∀ i, (putK A nl X i).length = X.length
  | 0 => rfl
  | i + 1 => by
    unfold putK
    split
    · exact putK_len A nl X i
    · split
      · rw [List.length_set]; exact putK_len A nl X i
      · split
        · rw [List.length_set]; exact putK_len A nl X i
        · rw [List.length_set]; exact putK_len A nl X i
theorem buildK_len (N : Int) (E : List (Int × Int)) (A : List (List Int)) (O : List Int) : ∀ k, (buildK N E A O k).length = 2 * E.length
  | 0 => by unfold buildK; simp
  | k + 1 => by unfold buildK; rw [putK_len]; exact buildK_len N E A O k
theorem putK_rng (A : List (List Int)) (nl : List Int) {X : List Int} (h : ∀ x ∈ X, -1 ≤ x ∧ x ≤ 2) : ∀ i, ∀ x ∈ putK A nl X i, -1 ≤ x ∧ x ≤ 2
  | 0 => h
  | i + 1 => fun x hx => by
    have ih := putK_rng A nl h i
    unfold putK at hx
    split at hx
    · exact ih x hx
    · split at hx
      · rcases List.mem_or_eq_of_mem_set hx with k | k
        · exact ih x k
        · omega
      · split at hx
        · rcases List.mem_or_eq_of_mem_set hx with k | k
          · exact ih x k
          · omega
        · rcases List.mem_or_eq_of_mem_set hx with k | k
          · exact ih x k
          · omega
theorem buildK_rng (N : Int) (E : List (Int × Int)) (A : List (List Int)) (O : List Int) : ∀ k, ∀ x ∈ buildK N E A O k, -1 ≤ x ∧ x ≤ 2
  | 0 => fun x hx => by unfold buildK at hx; rw [List.mem_replicate] at hx; omega
  | k + 1 => by unfold buildK; exact putK_rng _ _ (buildK_rng N E A O k) _
theorem nearB_succ {E : List (Int × Int)} {row C : List Int} {i : Nat} (h : i < C.length) : nearB E row (C.take (i + 1)) = nearB E row (C.take i) ++ nearF E row (ge C i) := by
  unfold nearB
  rw [List.take_succ_eq_append_getElem h, List.flatMap_append, ← ge_eq C h]
  simp
theorem nearF_succ {E : List (Int × Int)} {row : List Int} {u : Int} {i : Nat} (h : i < row.length) : nearF E (row.take (i + 1)) u = nearF E (row.take i) u ++ if (tailE E (oth (ge row i)) == u) = true then [ge row i] else [] := by
  unfold nearF
  rw [List.take_succ_eq_append_getElem h, List.filter_append, ← ge_eq row h]
  congr 1
  rw [List.filter_cons, List.filter_nil]
theorem nearF_len (E : List (Int × Int)) (row : List Int) (u : Int) : (nearF E row u).length ≤ row.length := List.length_filter_le _ _
theorem nearB_len (E : List (Int × Int)) (row : List Int) : ∀ C : List Int, (nearB E row C).length ≤ C.length * row.length
  | [] => by simp [nearB]
  | u :: C => by
    have h1 := nearB_len E row C
    have h2 := nearF_len E row u
    unfold nearB at h1 ⊢
    rw [List.flatMap_cons, List.length_append, List.length_cons, Nat.add_mul]
    omega
theorem cont_yes {N : Int} {pE pA : Option Addr} {nE nA cE cA : Nat} {E : List (Int × Int)} {A : List (List Int)} {pO : Option Addr} {nO cO : Nat} {O : List Int} {w : World} {j k : Nat} {C : List Int} {n : Nat} (h : chkO N E A O = true) (hC : contP N E A O j = some C) (hk : k = j + 2) (hj : (j : Int) + 2 ≤ N) (hn : C.length = n)
    (hR : RotIn w pE pA cE E A) (hL : Lim w) (hO : Ints w pO O) (hO1 : O.length ≤ 30) (hO2 : nO ≤ cO) (hO3 : cO ≤ maxLen) (hnE : E.length = nE) (hnA : A.length = nA) (hnO : O.length = nO) :
    Calls Tryd.prog 30 #[.agg #[.int .i64 N, .slice pE nE cE, .slice pA nA cA], .slice pO nO cO, .int .i64 k] w fun e w' => Grew w w' ∧ ∃ q cap, e = .returned (.tuple #[.slice q n cap, .int .i64 0]) ∧ Ints w' q C ∧ n ≤ cap ∧ cap ≤ maxLen := by
  subst hn hk
  have := contour36_p N pE pA nE nA cE cA E A pO nO cO O ((j + 2 : Nat) : Int) w hR hL hO hO1 hO2 hO3 hnE hnA hnO
  have e : contRes N E A O ((j + 2 : Nat) : Int) = (C, 0) := by
    unfold contRes
    rw [if_neg (by rw [(chkO_iff.1 h).1]; simp), if_neg (by rw [h]; simp), if_neg (by omega), show (((j + 2 : Nat) : Int) - 2).toNat = j by omega, hC]
    rfl
  rw [e] at this
  exact this.mono fun e w' ⟨hg, q, cap, h1, h2, h3, h4⟩ => ⟨hg, q, cap, h1, h2, by omega, h4⟩
set_option maxRecDepth 8000 in
set_option maxHeartbeats 16000000 in
theorem build_p (N : Int) (pE pA pO : Option Addr) (nE nA nO cE cA cO : Nat) (E : List (Int × Int)) (A : List (List Int)) (O : List Int) (w : World) (hR : RotIn w pE pA cE E A) (hL : Lim w) (hI : Ints w pO O) (hO1 : O.length ≤ 30) (hO2 : nO ≤ cO) (hO3 : cO ≤ maxLen) (hnE : E.length = nE) (hnA : A.length = nA) (hnO : O.length = nO) :
    Calls Tryd.prog 10 #[.agg #[.int .i64 N, .slice pE nE cE, .slice pA nA cA], .slice pO nO cO] w (TwoPost (buildRes N E A O).1 (buildRes N E A O).2 w) := by
  have HR := Lib.hid hR
  have HL := Lib.hid hL
  have HI := Lib.hid hI
  have hO30 : nO ≤ 30 := by omega
  cases hT : trgB N E A
  case false =>
    have Hf : Hid (buildRes N E A O = ([], 13)) := Lib.hid (by unfold buildRes; rw [if_pos hT])
    have Ho : Hid (∀ W1, Grew w W1 → Calls Tryd.prog 28 #[.agg #[.int .i64 N, .slice pE nE cE, .slice pA nA cA]] W1 fun e w' => e = .returned (.pointer none) ∧ Grew W1 w') := Lib.hid (fun W1 h => open_no _ _ _ _ _ _ _ _ _ _ (HR.out.grew h) (HL.out.grew h) hT hnE hnA)
    clear hR hL hI hT
    go_enter Tryd.func10, Tryd.ntmps10
    go_wp2_with ((go_at_call 28; apply Calls.mono; (with_reducible exact Ho.out _ (by (repeat (first | exact gR _ | refine gO ?_ _ | refine gA ?_ _ | refine gD ?_ | refine gN ?_ _)))); rintro e w' ⟨rfl, x, rfl⟩))
    go_ret2
    rw [Hf.out]
    exact TwoPost.none (by (repeat (first | exact gR _ | refine gO ?_ _ | refine gA ?_ _ | refine gD ?_ | refine gN ?_ _)))
  case true =>
  obtain ⟨t, ht⟩ : ∃ t, chkO N E A O = t := ⟨_, rfl⟩
  have Hk : Hid (∀ W1, Grew w W1 → Calls Tryd.prog 29 #[.agg #[.int .i64 N, .slice pE nE cE, .slice pA nA cA], .slice pO nO cO] W1 fun e w' => e = .returned (.bool t) ∧ Grew W1 w') := Lib.hid (fun W1 h => by
    rw [← ht]
    exact check36_p _ _ _ _ _ _ _ _ _ _ _ _ _ _ (HR.out.grew h) (HL.out.grew h) (HI.out.grew h) hO1 hO2 hO3 hnE hnA hnO)
  have HT := Lib.hid hT
  cases t
  case false =>
    have Hf : Hid (buildRes N E A O = ([], 1)) := Lib.hid (by unfold buildRes; rw [if_neg (by rw [hT]; simp), if_pos ht])
    clear hR hL hI hT ht
    go_enter Tryd.func10, Tryd.ntmps10
    go_wp2_with (first
      | (go_at_call 28; apply Calls.mono; (with_reducible exact open_yes _ _ _ _ _ _ _ _ _ _ (HR.out.grew (by (repeat (first | exact gR _ | refine gO ?_ _ | refine gA ?_ _ | refine gD ?_ | refine gN ?_ _)))) (HL.out.grew (by (repeat (first | exact gR _ | refine gO ?_ _ | refine gA ?_ _ | refine gD ?_ | refine gN ?_ _)))) HT.out hnE hnA); rintro e wo ⟨hgo, b, gf, rfl, _, hPl⟩; have Hc := Lib.hid ((show Grew (w.alloc (.cells #[.int .i64 N, .slice pE nE cE, .slice pA nA cA] 25)) _ by (repeat (first | exact gR _ | refine gO ?_ _ | refine gA ?_ _ | refine gD ?_ | refine gN ?_ _))).trans hgo); have q0 := Hc.out.cellEq (show (w.alloc (.cells #[.int .i64 N, .slice pE nE cE, .slice pA nA cA] 25)).cell? ⟨w.heap.size, 0, none⟩ = some (.int .i64 N) by simp [go_sem]); have q1 := Hc.out.cellEq (show (w.alloc (.cells #[.int .i64 N, .slice pE nE cE, .slice pA nA cA] 25)).cell? ⟨w.heap.size, 1, none⟩ = some (.slice pE nE cE) by simp [go_sem]); have q2 := Hc.out.cellEq (show (w.alloc (.cells #[.int .i64 N, .slice pE nE cE, .slice pA nA cA] 25)).cell? ⟨w.heap.size, 2, none⟩ = some (.slice pA nA cA) by simp [go_sem]); have Hgo := Lib.hid ((show Grew w _ by (repeat (first | exact gR _ | refine gO ?_ _ | refine gA ?_ _ | refine gD ?_ | refine gN ?_ _))).trans hgo); clear hPl hgo)
      | ((go_at_call 29; apply Calls.mono; (with_reducible exact Hk.out _ (Hgo.out.trans (by (repeat (first | exact gR _ | refine gO ?_ _ | refine gA ?_ _ | refine gD ?_ | refine gN ?_ _))))); rintro e w' ⟨rfl, x, rfl⟩)))
    go_ret2
    rw [Hf.out]
    exact TwoPost.none (Hgo.out.trans (by (repeat (first | exact gR _ | refine gO ?_ _ | refine gA ?_ _ | refine gD ?_ | refine gN ?_ _))))
  case true =>
  have hV := trg_valid hT
  have HV := Lib.hid hV
  have Hch := Lib.hid ht
  have hOl := (chkO_iff.1 ht).2.1
  have hN3 := trg_three hT
  have hNA : N = (nA : Int) := by have := hV.al; omega
  subst hNA
  have hnn : nO = nA := by omega
  subst hnn
  have Hf : Hid (buildRes nO E A O = (buildK nO E A O (nO - 2), 0)) := Lib.hid (by unfold buildRes; rw [if_neg (by rw [hT]; simp), if_neg (by rw [ht]; simp), hnO])
  have HfO : Hid (∀ u ∈ O, 0 ≤ u ∧ u < (nO : Int)) := Lib.hid (by
    have h := (chkR_iff.1 (chk_same.trans ht)).2.2.1.2
    rw [List.take_length] at h
    exact h)
  have hE0 := Lib.hid (trg_pos hT)
  have hnO3 : 3 ≤ nO := by omega
  have hnE1 : nE ≤ 100 := by have := hR.e1; omega
  have HnA := Lib.hid hnA
  have HnE := Lib.hid hnE
  have HnO := Lib.hid hnO
  have hmk : ∀ W, (Instr.makeSlice 26 (.int .i64 (2 * (nE : Int))) (.int .i64 (2 * (nE : Int)))).run Tryd.prog W = .ok (.slice (some ⟨W.heap.size, 0, none⟩) (2 * nE) (2 * nE)) (W.alloc (.cells (Array.replicate (2 * nE) (.int .i64 0)) 3)) := fun W => by
    have := mk_ints (2 * nE) (by omega) W
    push_cast at this
    exact this
  obtain ⟨bO, oO, rfl, lO, cO'⟩ := hI.cells (by omega)
  have HcO := Lib.hid cO'
  clear hR hL hI hT ht hV hOl hN3 cO' hnA hnE hnO
  go_enter Tryd.func10, Tryd.ntmps10
  go_upto_region 6 with (first
    | (go_at_call 28; apply Calls.mono; (with_reducible exact open_yes _ _ _ _ _ _ _ _ _ _ (HR.out.grew (by (repeat (first | exact gR _ | refine gO ?_ _ | refine gA ?_ _ | refine gD ?_ | refine gN ?_ _)))) (HL.out.grew (by (repeat (first | exact gR _ | refine gO ?_ _ | refine gA ?_ _ | refine gD ?_ | refine gN ?_ _)))) HT.out HnE.out HnA.out); rintro e wo ⟨hgo, b, gf, rfl, _, hPl⟩; have HPl := Lib.hid hPl; have Hc := Lib.hid ((show Grew (w.alloc (.cells #[.int .i64 nO, .slice pE nE cE, .slice pA nO cA] 25)) _ by (repeat (first | exact gR _ | refine gO ?_ _ | refine gA ?_ _ | refine gD ?_ | refine gN ?_ _))).trans hgo); have q0 := Hc.out.cellEq (show (w.alloc (.cells #[.int .i64 nO, .slice pE nE cE, .slice pA nO cA] 25)).cell? ⟨w.heap.size, 0, none⟩ = some (.int .i64 nO) by simp [go_sem]); have q1 := Hc.out.cellEq (show (w.alloc (.cells #[.int .i64 nO, .slice pE nE cE, .slice pA nO cA] 25)).cell? ⟨w.heap.size, 1, none⟩ = some (.slice pE nE cE) by simp [go_sem]); have q2 := Hc.out.cellEq (show (w.alloc (.cells #[.int .i64 nO, .slice pE nE cE, .slice pA nO cA] 25)).cell? ⟨w.heap.size, 2, none⟩ = some (.slice pA nO cA) by simp [go_sem]); have Hgo := Lib.hid ((show Grew w _ by (repeat (first | exact gR _ | refine gO ?_ _ | refine gA ?_ _ | refine gD ?_ | refine gN ?_ _))).trans hgo); clear hPl hgo)
    | (go_at_call 29; apply Calls.mono; (with_reducible exact Hk.out _ (Hgo.out.trans (by (repeat (first | exact gR _ | refine gO ?_ _ | refine gA ?_ _ | refine gD ?_ | refine gN ?_ _))))); rintro e w2 ⟨rfl, hg2⟩; have hg3 := Grew.trans (by (repeat (first | exact gR _ | refine gO ?_ _ | refine gA ?_ _ | refine gD ?_ | refine gN ?_ _))) hg2; have HPl := Lib.hid (HPl.out.grew hg3); have Hgo := Lib.hid (Hgo.out.trans hg3); have q0 := hg3.cellEq q0; have q1 := hg3.cellEq q1; have q2 := hg3.cellEq q2; clear hg2 hg3))
  have Q0 := Lib.hid q0
  have Q1 := Lib.hid q1
  have Q2 := Lib.hid q2
  have hq2l := World.block_lt_of_cell? w2 _ q0
  dsimp only at hq2l
  clear q0 q2
  go_wp2
  have HO0 := Lib.hid (own_newI (Owns.nil w2 w2.heap.size) (Nat.le_refl _) (2 * nE) w2.heap.size (by omega) rfl)
  have Hg0 : Hid (Grew w2 (w2.alloc (.cells (Array.replicate (2 * nE) (.int .i64 0)) 3))) := Lib.hid ((Grew.refl w2).alloc _)
  obtain ⟨wA, hwA⟩ : ∃ wA, w2.alloc (.cells (Array.replicate (2 * nE) (.int .i64 0)) 3) = wA := ⟨_, rfl⟩
  rw [hwA] at HO0 Hg0 ⊢
  obtain ⟨g, hg⟩ : ∃ g, w2.heap.size = g := ⟨_, rfl⟩
  have Hgs := Lib.hid hg
  have Hgs2 : Hid (w2.heap.size ≤ g) := Lib.hid (Nat.le_of_eq hg)
  rw [hg] at HO0 ⊢
  clear hwA hg q1
  go_loopw [37] (fun dv wr => ∃ d : Nat, d ≤ 2 * nE ∧ dv = .int .i64 d ∧ Grew w2 wr ∧ ∃ X : List Int, X.length = 2 * nE ∧ Owns wr g [rI g (2 * nE) X] ∧ ∀ u, u < d → ge X u = -1) (fun dv _ => 2 * nE - (intOf dv).toNat)
  case atStart => exact ⟨0, Nat.zero_le _, rfl, Hg0.out.trans (by (repeat (first | exact gR _ | refine gO ?_ _ | refine gA ?_ _ | refine gD ?_ | refine gN ?_ _))), _, by simp, HO0.out.grew (by (repeat (first | exact gR _ | refine gO ?_ _ | refine gA ?_ _ | refine gD ?_ | refine gN ?_ _))), fun u hu => by omega⟩
  case round =>
    obtain ⟨d, hd, rfl, hgr, X, hXl, hO, hall⟩ := hrel
    have Hgr := Lib.hid hgr
    have HO := Lib.hid hO
    have Hall := Lib.hid hall
    have HXl := Lib.hid hXl
    have hszr := hgr.below.size
    clear hgr hO hall hXl
    by_cases hlt : d < 2 * nE
    · have hdi : (d : Int) < ((2 * nE : Nat) : Int) := by omega
      have hdi2 : (d : Int) < 2 * (nE : Int) := by omega
      have x1 := own_atI HO.out (j := 0) rfl hlt
      have x2 := own_fr HO.out (j := 0) rfl d
      have hgl := own_lt HO.out (j := 0) rfl
      go_wp2
      go_roundw
      case rel => exact ⟨d + 1, by omega, by go_num, (Hgr.out.setCell (show w2.heap.size ≤ g from Hgs2.out) _).trans (by (repeat (first | exact gR _ | refine gO ?_ _ | refine gA ?_ _ | refine gD ?_ | refine gN ?_ _))), X.set d (-1), by rw [List.length_set]; exact HXl.out, (own_setI HO.out (j := 0) rfl d (-1)).grew (by (repeat (first | exact gR _ | refine gO ?_ _ | refine gA ?_ _ | refine gD ?_ | refine gN ?_ _))), fun u hu => by
        by_cases e : d = u
        · rw [← e, ge_set_same _ (by rw [HXl.out]; exact hlt)]
        · rw [ge_set_other _ e]; exact Hall.out u (by omega)⟩
      case measure => (simp [intOf] <;> omega)
    · have HX : Hid (X = buildK nO E A O 0) := Lib.hid (by
        unfold buildK
        refine List.ext_getElem (by rw [HXl.out, List.length_replicate, HnE.out]) fun i h1 h2 => ?_
        rw [← ge_eq X h1, Hall.out i (by rw [HXl.out] at h1; omega), List.getElem_replicate])
      have HO1 : Hid (Owns wr g [rI g (2 * nE) (buildK nO E A O 0)]) := Lib.hid (by rw [← HX.out]; exact HO.out)
      have hdi : ¬ (d : Int) < ((2 * nE : Nat) : Int) := by omega
      have hdi2 : ¬ (d : Int) < 2 * (nE : Int) := by omega
      clear HX HO Hall HXl hlt
      go_wp2
      go_loopw [9] (fun kv wx => ∃ k : Nat, k + 2 ≤ nO ∧ kv = .int .i64 ((k + 2 : Nat) : Int) ∧ Grew w2 wx ∧ Owns wx g [rI g (2 * nE) (buildK nO E A O k)]) (fun kv _ => nO - (intOf kv).toNat)
      case atStart => exact ⟨0, by omega, rfl, Hgr.out.trans (by (repeat (first | exact gR _ | refine gO ?_ _ | refine gA ?_ _ | refine gD ?_ | refine gN ?_ _))), HO1.out.grew (by (repeat (first | exact gR _ | refine gO ?_ _ | refine gA ?_ _ | refine gD ?_ | refine gN ?_ _)))⟩
      case round =>
        clear HO1 Hgr hszr
        obtain ⟨k, hk, rfl, hgr, hO⟩ := hrel
        have Hgr := Lib.hid hgr
        have HO := Lib.hid hO
        have hszr := hgr.below.size
        have q0 := hgr.cellEq Q0.out
        have q1 := hgr.cellEq Q1.out
        have q2 := hgr.cellEq Q2.out
        clear hgr hO
        by_cases hlt : k + 2 < nO
        · have hki : ((k + 2 : Nat) : Int) < (nO : Int) := by omega
          have o1 := HcO.out wr (Hgo.out.trans Hgr.out) (k + 2) (by rw [HnO.out]; exact hlt)
          have hvr := HfO.out _ (ge_mem (i := k + 2) (by rw [HnO.out]; exact hlt))
          obtain ⟨v, hv⟩ : ∃ v : Nat, ge O (k + 2) = (v : Int) := ⟨(ge O (k + 2)).toNat, by omega⟩
          rw [hv] at o1
          have hvl : v < nO := by omega
          have Hv := Lib.hid hv
          obtain ⟨C, hC, hG⟩ := cont_goes Hch.out (j := k) (by omega)
          have HC := Lib.hid hC
          have HCn : Hid (∀ u ∈ C, True) := Lib.hid (fun _ _ => trivial)
          obtain ⟨m, hm⟩ : ∃ m, C.length = m := ⟨_, rfl⟩
          have Hm := Lib.hid hm
          have hm3 : m ≤ 30 := by rw [← hm]; have := hG.len; omega
          have Hcb : Hid (buildK nO E A O (k + 1) = putK A (nearB E (rowOf A v) C) (buildK nO E A O k) (nearB E (rowOf A v) C).length) := Lib.hid (by
            have e : contG nO E A O k = C := by unfold contG; rw [hC]; rfl
            show putK A (nearB E (rowOf A (ge O (k + 2)).toNat) (contG nO E A O k)) (buildK nO E A O k) _ = _
            rw [hv, e, Int.toNat_natCast])
          have Hct : Hid (∀ W1, Grew wr W1 → Calls Tryd.prog 30 #[.agg #[.int .i64 nO, .slice pE nE cE, .slice pA nO cA], .slice (some ⟨bO, oO, none⟩) nO cO, .int .i64 ((k : Int) + 2)] W1 fun e w' => Grew W1 w' ∧ ∃ q cap, e = .returned (.tuple #[.slice q m cap, .int .i64 0]) ∧ Ints w' q C ∧ m ≤ cap ∧ cap ≤ maxLen) := Lib.hid (fun W1 h => by
            have := cont_yes (cA := cA) Hch.out HC.out rfl (by omega) Hm.out (HR.out.grew (Hgo.out.trans (Hgr.out.trans h))) (HL.out.grew (Hgo.out.trans (Hgr.out.trans h))) (HI.out.grew (Hgo.out.trans (Hgr.out.trans h))) hO1 hO2 hO3 HnE.out HnA.out HnO.out
            push_cast at this
            exact this)
          clear hG hC hm hv hvr
          go_upto_region 17 with (go_at_call 30; apply Calls.mono; (with_reducible exact Hct.out _ (by (repeat (first | exact gR _ | refine gO ?_ _ | refine gA ?_ _ | refine gD ?_ | refine gN ?_ _)))); rintro e w4 ⟨hg4, q4, cap4, rfl, hI4, hd1, hd2⟩; have HI4 := Lib.hid hI4; have hg5 := Grew.trans (show Grew wr _ by (repeat (first | exact gR _ | refine gO ?_ _ | refine gA ?_ _ | refine gD ?_ | refine gN ?_ _))) hg4; have Hg4 := Lib.hid (Hgr.out.trans hg5); have HO4 := Lib.hid (HO.out.grew hg5); clear hI4 hg4 hg5)
          have hs4 := Hg4.out.below.size
          have Hx1 : Hid (w4.cell? ⟨w.heap.size, 1, none⟩ = some (.slice pE nE cE)) := Lib.hid (Hg4.out.cellEq Q1.out)
          have Hx2 : Hid (w4.cell? ⟨w.heap.size, 2, none⟩ = some (.slice pA nO cA)) := Lib.hid (Hg4.out.cellEq Q2.out)
          obtain ⟨bA, oA, rp, rc, rfl, lA, cA'⟩ := (HR.out.hA).rows (by rw [HnA.out]; omega)
          obtain ⟨a1, _⟩ := cA' w4 (Hgo.out.trans Hg4.out) v (by rw [HnA.out]; exact hvl)
          obtain ⟨_, a2⟩ := cA' w (Grew.refl _) v (by rw [HnA.out]; exact hvl)
          obtain ⟨rv, hrv⟩ : ∃ rv, rp v = rv := ⟨_, rfl⟩
          rw [hrv] at a1 a2
          obtain ⟨cv, hcv⟩ : ∃ cv, rc v = cv := ⟨_, rfl⟩
          rw [hcv] at a1
          obtain ⟨row, hrow⟩ : ∃ row, rowOf A v = row := ⟨_, rfl⟩
          have Hmr : Hid (∀ d ∈ row, 0 ≤ d ∧ d < ((2 * nE : Nat) : Int)) := Lib.hid (fun d hd => by
            have := mem_row HV.out (v := v) (by rw [HnA.out]; exact hvl) (by rw [hrow]; exact hd)
            have := HnE.out
            omega)
          have hrl : row.length ≤ 200 := by
            have h2 := int_nodup_len (M := 2 * nE) (S := row) (by rw [← hrow]; exact row_nodup HV.out (by rw [HnA.out]; exact hvl)) Hmr.out
            omega
          rw [hrow] at a1 a2 Hcb
          have Ha1 := Lib.hid a1
          have Ha2 := Lib.hid a2
          have hvi : (v : Int) < (nO : Int) := by omega
          obtain ⟨X, hX⟩ : ∃ X, buildK nO E A O k = X := ⟨_, rfl⟩
          have HXe := Lib.hid hX
          rw [hX] at HO4 Hcb
          have HXl : Hid (X.length = 2 * nE) := Lib.hid (by rw [← hX, buildK_len, HnE.out])
          have HON := Lib.hid ((Owns.nil w4 w4.heap.size).none 3 1)
          have HOX := HO4
          have hwl4 : w.heap.size < w4.heap.size := by omega
          clear q0 q1 q2 o1 cA' a1 a2 hrv hcv hrow hX HO4
          go_wp2
          go_loopw [13, 63] (fun vN iv wk => ∃ i : Nat, i ≤ m ∧ iv = .int .i64 i ∧ Grew w4 wk ∧ Owns wk w4.heap.size [⟨vN, 3, 1, (nearB E row (C.take i)).length, intVs (nearB E row (C.take i))⟩]) (fun _ iv _ => m - (intOf iv).toNat)
          case atStart => exact ⟨0, Nat.zero_le _, rfl, by (repeat (first | exact gR _ | refine gO ?_ _ | refine gA ?_ _ | refine gD ?_ | refine gN ?_ _)), by simpa [nearB, intVs] using HON.out.grew (by (repeat (first | exact gR _ | refine gO ?_ _ | refine gA ?_ _ | refine gD ?_ | refine gN ?_ _)))⟩
          case round =>
            obtain ⟨i, hi, rfl, hgi, hOi⟩ := hrel
            have Hgi := Lib.hid hgi
            have HOi := Lib.hid hOi
            have hszi := hgi.below.size
            clear hgi hOi
            by_cases hil : i < m
            · have hii : (i : Int) < (m : Int) := by omega
              obtain ⟨b4, o4, rfl, l4, c4⟩ := HI4.out.cells (by rw [Hm.out]; omega)
              have e1 := c4 wr Hgi.out i (by rw [Hm.out]; exact hil)
              obtain ⟨u, hu⟩ : ∃ u, ge C i = u := ⟨_, rfl⟩
              rw [hu] at e1
              have Hnb : Hid (nearB E row (C.take (i + 1)) = nearB E row (C.take i) ++ nearF E row u) := Lib.hid (by rw [nearB_succ (by rw [Hm.out]; exact hil), hu])
              have r1 := Hgi.out.cellEq Hx2.out
              have r2 := Hgi.out.cellEq Ha1.out
              obtain ⟨n0, hn0⟩ : ∃ n0, (nearB E row (C.take i)).length = n0 := ⟨_, rfl⟩
              have hn0b : n0 ≤ 6000 := by
                have h1 := nearB_len E row (C.take i)
                have h2 : (C.take i).length ≤ 30 := by rw [List.length_take]; omega
                have h3 : (C.take i).length * row.length ≤ 30 * 200 := Nat.mul_le_mul h2 hrl
                omega
              have Hn0 := Lib.hid hn0
              obtain ⟨nb, hnb⟩ : ∃ nb, nearB E row (C.take i) = nb := ⟨_, rfl⟩
              rw [hnb] at HOi Hnb
              have Hnb0 : Hid (nb.length = n0) := Lib.hid (by rw [← hnb]; exact hn0)
              clear c4 hu hn0 hnb
              go_wp2
              go_loopw [13, 73] (fun vN jv wk => ∃ j : Nat, j ≤ row.length ∧ jv = .int .i64 j ∧ Grew w4 wk ∧ Owns wk w4.heap.size [⟨vN, 3, 1, (nb ++ nearF E (row.take j) u).length, intVs (nb ++ nearF E (row.take j) u)⟩]) (fun _ jv _ => row.length - (intOf jv).toNat)
              case atStart => exact ⟨0, Nat.zero_le _, rfl, Hgi.out.trans (by (repeat (first | exact gR _ | refine gO ?_ _ | refine gA ?_ _ | refine gD ?_ | refine gN ?_ _))), by simpa [nearF] using HOi.out.grew (by (repeat (first | exact gR _ | refine gO ?_ _ | refine gA ?_ _ | refine gD ?_ | refine gN ?_ _)))⟩
              case round =>
                obtain ⟨j, hj, rfl, hgj, hOj⟩ := hrel
                have Hgj := Lib.hid hgj
                have HOj := Lib.hid hOj
                have hszj := hgj.below.size
                clear hgj hOj e1 r1 r2
                by_cases hjl : j < row.length
                · obtain ⟨bR, oR, rfl, lR, cR⟩ := Ha2.out.cells (by omega)
                  have e1 := cR wr (Hgo.out.trans (Hg4.out.trans Hgj.out)) j hjl
                  have hdr := Hmr.out _ (ge_mem hjl)
                  obtain ⟨d, hd⟩ : ∃ d : Nat, ge row j = (d : Int) := ⟨(ge row j).toNat, by omega⟩
                  rw [hd] at e1
                  have hd2 : d < 2 * nE := by omega
                  obtain ⟨o, ho⟩ : ∃ o : Nat, oth (d : Int) = (o : Int) := ⟨(oth d).toNat, by have := oth_in (d := d) (M := nE) (by omega) (by omega); omega⟩
                  have ho2 : o < 2 * nE := by have := oth_in (d := d) (M := nE) (by omega) (by omega); omega
                  have hx2 : bits BinOp.xor IntKind.i64 (d : Int) 1 = (o : Int) := by rw [← ho]; exact xor_small d (by omega)
                  obtain ⟨tb, htb⟩ : ∃ tb, (tailE E o == u) = tb := ⟨_, rfl⟩
                  have Htb := Lib.hid htb
                  have Htl : Hid (∀ W1, Grew wr W1 → Calls Tryd.prog 31 #[.pointer (some ⟨b, 0, none⟩), .int .i64 o] W1 fun e w' => e = .returned (.int .i64 (tailE E o)) ∧ W1 = w') := Lib.hid (fun W1 h => tail38_c b pE nE cE E W1 (HPl.out.grew (Hg4.out.trans (Hgj.out.trans h))).c1 (HR.out.hE.grew (Hgo.out.trans (Hg4.out.trans (Hgj.out.trans h)))) HnE.out HR.out.e1 o (by rw [HnE.out]; exact ho2))
                  have Hns : Hid (nearF E (row.take (j + 1)) u = nearF E (row.take j) u ++ if tb = true then [(d : Int)] else []) := Lib.hid (by rw [nearF_succ hjl, hd, ho, htb])
                  have hji : (j : Int) < (row.length : Int) := by omega
                  have hnl : (nb ++ nearF E (row.take j) u).length ≤ 6200 := by
                    rw [List.length_append, Hnb0.out]
                    have := nearF_len E (row.take j) u
                    rw [List.length_take] at this
                    omega
                  obtain ⟨ns, hns⟩ : ∃ ns, nb ++ nearF E (row.take j) u = ns := ⟨_, rfl⟩
                  rw [hns] at HOj hnl
                  have Hns2 : Hid (nb ++ nearF E (row.take (j + 1)) u = ns ++ if tb = true then [(d : Int)] else []) := Lib.hid (by rw [Hns.out, ← List.append_assoc, hns])
                  clear cR hdr hd ho htb hns
                  cases tb
                  · replace Hns2 : Hid (nb ++ nearF E (row.take (j + 1)) u = ns) := Lib.hid (by rw [Hns2.out]; simp)
                    have htf := Htb.out
                    go_wp2_with ((go_at_call 31; apply Calls.mono; (with_reducible exact Htl.out _ (by (repeat (first | exact gR _ | refine gO ?_ _ | refine gA ?_ _ | refine gD ?_ | refine gN ?_ _)))); rintro e w' ⟨rfl, rfl⟩))
                    go_roundw
                    case rel => exact ⟨j + 1, by omega, by go_num, Hgj.out.trans (by (repeat (first | exact gR _ | refine gO ?_ _ | refine gA ?_ _ | refine gD ?_ | refine gN ?_ _))), by rw [Hns2.out]; exact HOj.out.grew (by (repeat (first | exact gR _ | refine gO ?_ _ | refine gA ?_ _ | refine gD ?_ | refine gN ?_ _)))⟩
                    case measure => (simp [intOf] <;> omega)
                  · replace Hns2 : Hid (nb ++ nearF E (row.take (j + 1)) u = ns ++ [(d : Int)]) := Lib.hid (by rw [Hns2.out]; simp)
                    have htf := Htb.out
                    go_wp2_with (first
                      | ((go_at_call 31; apply Calls.mono; (with_reducible exact Htl.out _ (by (repeat (first | exact gR _ | refine gO ?_ _ | refine gA ?_ _ | refine gD ?_ | refine gN ?_ _)))); rintro e w' ⟨rfl, rfl⟩))
                      | (at_builtin; refine wp_append_owns rfl _ _ 26 rfl 3 1 8 (.int .i64 0) Tryd.underlying26 Tryd.infoInt rfl (by decide) (w4.heap.size) _ 0 _ _ _ (HOj.out.grew (by (repeat (first | exact gR _ | refine gO ?_ _ | refine gA ?_ _ | refine gD ?_ | refine gN ?_ _)))) rfl rfl _ 1 1 rfl [.int .i64 ((d : Int))] rfl (fun h => by cases h) (one_news _ (by first | (go_simp; done) | (simp [go_sem, ↓IntWalk.iteOmega, *]; done))) (by simp [Value.oneCell']) (by simp only [maxLen]; omega) (by omega) (by first | rfl | omega | (simp <;> omega)) ?_; intro v1 w1 hO1 hg1 hb1 hv1; have HO9 := Lib.hid hO1; have Hg9 := Lib.hid (Grew.grownBy (w0 := w4) (Hgj.out.trans (by (repeat (first | exact gR _ | refine gO ?_ _ | refine gA ?_ _ | refine gD ?_ | refine gN ?_ _)))) hg1 (fun q h => by have := hb1 q h; omega)); clear hO1 hg1 hb1 hv1))
                    go_roundw
                    case rel => exact ⟨j + 1, by omega, by go_num, Hg9.out.trans (by (repeat (first | exact gR _ | refine gO ?_ _ | refine gA ?_ _ | refine gD ?_ | refine gN ?_ _))), (by rw [Hns2.out, intVs_app', List.length_append]; exact HO9.out.grew (by (repeat (first | exact gR _ | refine gO ?_ _ | refine gA ?_ _ | refine gD ?_ | refine gN ?_ _))))⟩
                    case measure => (simp [intOf] <;> omega)
                · obtain rfl : j = row.length := by omega
                  rw [List.take_length, ← Hnb.out] at HOj
                  go_wp2
                  go_roundw
                  case rel => exact ⟨i + 1, by omega, by go_num, Hgj.out.trans (by (repeat (first | exact gR _ | refine gO ?_ _ | refine gA ?_ _ | refine gD ?_ | refine gN ?_ _))), HOj.out.grew (by (repeat (first | exact gR _ | refine gO ?_ _ | refine gA ?_ _ | refine gD ?_ | refine gN ?_ _)))⟩
                  case measure => (simp [intOf] <;> omega)
            · have hmi : ¬ (i : Int) < (m : Int) := by omega
              have hime : i = m := by omega
              have Hta : Hid (C.take i = C) := Lib.hid (List.take_of_length_le (by rw [Hm.out]; omega))
              rw [Hta.out] at HOi
              obtain ⟨nl, hnl⟩ : ∃ nl, nearB E row C = nl := ⟨_, rfl⟩
              rw [hnl] at HOi Hcb
              have Hnm : Hid (∀ d ∈ nl, 0 ≤ d ∧ d < ((2 * nE : Nat) : Int)) := Lib.hid (fun d hd => by
                rw [← hnl] at hd
                unfold nearB nearF at hd
                obtain ⟨u, _, hu⟩ := List.mem_flatMap.1 hd
                exact Hmr.out d (List.mem_filter.1 hu).1)
              have hnb : nl.length ≤ 6000 := by
                rw [← hnl]
                have h1 := nearB_len E row C
                have h3 : C.length * row.length ≤ 30 * 200 := Nat.mul_le_mul (by rw [Hm.out]; exact hm3) hrl
                omega
              obtain ⟨pN, cN, rfl⟩ := own_form HOi.out (k := 0) rfl
              have HmN : Hid (0 < nl.length → ∃ gN, pN = some ⟨gN, 0, none⟩ ∧ w4.heap.size ≤ gN ∧ gN < wr.heap.size ∧ ∀ t, t < nl.length → wr.cell? ⟨gN, t, none⟩ = some (.int .i64 (ge nl t))) := Lib.hid (fun h0 => by
                obtain ⟨gN, c9, e9, _, hBl, _, _, _, m9⟩ := HOi.out.some (k := 0) rfl h0
                obtain ⟨h1, h2⟩ := HOi.out.get (k := 0) rfl
                rcases h2 with ⟨h2, _⟩ | ⟨g', cap', h2, h3, h4, h5, h6, _, h8⟩
                · rw [h2] at e9; cases e9
                · simp only [Value.slice.injEq] at h2
                  exact ⟨g', h2.1, h3, h4, fun t ht => h8 t _ (intVs_get nl ht)⟩)
              have HOX2 := Lib.hid (HOX.out.grew Hgi.out)
              have Hgg : Hid (g < w4.heap.size) := Lib.hid (own_lt HOX.out (j := 0) rfl)
              have Hg25 : Hid (Grew w2 wr) := Lib.hid (Hg4.out.trans Hgi.out)
              have hgb : ¬ b = g := by have := HPl.out.lt; have := Hgs2.out; omega
              clear hnl HOi hil hi
              obtain ⟨wr5, hwr5⟩ : ∃ wr5, wr5 = wr := ⟨_, rfl⟩
              subst hwr5
              go_wp2
              go_loopw [91] (fun iv wk => ∃ i : Nat, i ≤ nl.length ∧ iv = .int .i64 i ∧ Gr (fun q => q = g) wr5 wk ∧ Owns wk g [rI g (2 * nE) (putK A nl X i)]) (fun iv _ => nl.length - (intOf iv).toNat)
              case atStart => exact ⟨0, Nat.zero_le _, rfl, Gr.of_grew _ (by (repeat (first | exact gR _ | refine gO ?_ _ | refine gA ?_ _ | refine gD ?_ | refine gN ?_ _))), HOX2.out.grew (by (repeat (first | exact gR _ | refine gO ?_ _ | refine gA ?_ _ | refine gD ?_ | refine gN ?_ _)))⟩
              case round =>
                obtain ⟨i2, hi2, rfl, hgk, hOk⟩ := hrel
                have Hgk := Lib.hid hgk
                have HOk := Lib.hid hOk
                have Hgw5 : Hid (Grew w2 wr) := Lib.hid (Hg25.out.gr hgk (fun q hq => by rw [hq]; exact Hgs2.out))
                have hszk := hgk.size
                clear hgk hOk
                by_cases hlk : i2 < nl.length
                · have hli : (i2 : Int) < (nl.length : Int) := by omega
                  obtain ⟨gN, rfl, hN1, hN2, hN3⟩ := HmN.out (by omega)
                  have hgN : ¬ gN = g := by have := Hgg.out; omega
                  have e1 := Hgk.out.cellEq hgN (hN3 i2 hlk)
                  have hdr := Hnm.out _ (ge_mem hlk)
                  obtain ⟨d, hd⟩ : ∃ d : Nat, ge nl i2 = (d : Int) := ⟨(ge nl i2).toNat, by omega⟩
                  rw [hd] at e1
                  have hd2 : d < 2 * nE := by omega
                  obtain ⟨o, ho⟩ : ∃ o : Nat, oth (d : Int) = (o : Int) := ⟨(oth d).toNat, by have := oth_in (d := d) (M := nE) (by omega) (by omega); omega⟩
                  have ho2 : o < 2 * nE := by have := oth_in (d := d) (M := nE) (by omega) (by omega); omega
                  have hx2 : bits BinOp.xor IntKind.i64 (d : Int) 1 = (o : Int) := by rw [← ho]; exact xor_small d (by omega)
                  obtain ⟨ob, hob⟩ : ∃ ob, outB A d = ob := ⟨_, rfl⟩
                  have Hou : Hid (∀ W1, Grew wr W1 → Calls Tryd.prog 32 #[.pointer (some ⟨b, 0, none⟩), .int .i64 d] W1 fun e w' => e = .returned (.bool ob) ∧ Grew W1 w') := Lib.hid (fun W1 h => outer_p HV.out hE0.out HR.out.e1 (HPl.out.grew (Hgw5.out.trans h)) d (by omega) _ hob)
                  have Hput : Hid (putK A nl X (i2 + 1) = if ob = true then putK A nl X i2 else if i2 = 0 then (putK A nl X i2).set d 0 else if i2 + 1 = nl.length then (putK A nl X i2).set d 1 else (putK A nl X i2).set o 2) := Lib.hid (by
                    show (if outB A (ge nl i2) = true then _ else _) = _
                    rw [hd, hob, ho, Int.toNat_natCast, Int.toNat_natCast])
                  have hdi : (d : Int) < ((2 * nE : Nat) : Int) := by omega
                  have hdi2 : (d : Int) < 2 * (nE : Int) := by omega
                  have hoi : (o : Int) < ((2 * nE : Nat) : Int) := by omega
                  have hoi2 : (o : Int) < 2 * (nE : Int) := by omega
                  have x1 := own_atI HOk.out (j := 0) rfl hd2
                  have x2 := own_fr HOk.out (j := 0) rfl d
                  have y1 := own_atI HOk.out (j := 0) rfl ho2
                  have y2 := own_fr HOk.out (j := 0) rfl o
                  have hgl := own_lt HOk.out (j := 0) rfl
                  clear hdr hd ho hob hN3
                  cases ob
                  · have Hput2 : Hid (putK A nl X (i2 + 1) = if i2 = 0 then (putK A nl X i2).set d 0 else if i2 + 1 = nl.length then (putK A nl X i2).set d 1 else (putK A nl X i2).set o 2) := Lib.hid (by rw [Hput.out]; simp)
                    by_cases hz : i2 = 0
                    · have hzb : ((i2 : Int) == 0) = true := beq_iff_eq.2 (by omega)
                      have Hput3 : Hid (putK A nl X (i2 + 1) = (putK A nl X i2).set d 0) := Lib.hid (by rw [Hput2.out, if_pos hz])
                      clear hz
                      go_wp2_with ((go_at_call 32; apply Calls.mono; (with_reducible exact Hou.out _ (by (repeat (first | exact gR _ | refine gO ?_ _ | refine gA ?_ _ | refine gD ?_ | refine gN ?_ _)))); rintro e w' ⟨rfl, x, rfl⟩))
                      go_roundw
                      case rel => exact ⟨i2 + 1, by omega, by go_num, (Hgk.out.setCell rfl _).over (by (repeat (first | exact gR _ | refine gO ?_ _ | refine gA ?_ _ | refine gD ?_ | refine gN ?_ _))), by rw [Hput3.out]; exact (own_setI HOk.out (j := 0) rfl d 0).grew (by (repeat (first | exact gR _ | refine gO ?_ _ | refine gA ?_ _ | refine gD ?_ | refine gN ?_ _)))⟩
                      case measure => (simp [intOf] <;> omega)
                    · have hzb : ((i2 : Int) == 0) = false := beq_eq_false_iff_ne.2 (by omega)
                      by_cases hl : i2 + 1 = nl.length
                      · have hlb : ((i2 : Int) == (nl.length : Int) - 1) = true := beq_iff_eq.2 (by omega)
                        have Hput3 : Hid (putK A nl X (i2 + 1) = (putK A nl X i2).set d 1) := Lib.hid (by rw [Hput2.out, if_neg hz, if_pos hl])
                        clear hz hl
                        go_wp2_with ((go_at_call 32; apply Calls.mono; (with_reducible exact Hou.out _ (by (repeat (first | exact gR _ | refine gO ?_ _ | refine gA ?_ _ | refine gD ?_ | refine gN ?_ _)))); rintro e w' ⟨rfl, x, rfl⟩))
                        go_roundw
                        case rel => exact ⟨i2 + 1, by omega, by go_num, (Hgk.out.setCell rfl _).over (by (repeat (first | exact gR _ | refine gO ?_ _ | refine gA ?_ _ | refine gD ?_ | refine gN ?_ _))), by rw [Hput3.out]; exact (own_setI HOk.out (j := 0) rfl d 1).grew (by (repeat (first | exact gR _ | refine gO ?_ _ | refine gA ?_ _ | refine gD ?_ | refine gN ?_ _)))⟩
                        case measure => (simp [intOf] <;> omega)
                      · have hlb : ((i2 : Int) == (nl.length : Int) - 1) = false := beq_eq_false_iff_ne.2 (by omega)
                        have Hput3 : Hid (putK A nl X (i2 + 1) = (putK A nl X i2).set o 2) := Lib.hid (by rw [Hput2.out, if_neg hz, if_neg hl])
                        clear hz hl
                        go_wp2_with ((go_at_call 32; apply Calls.mono; (with_reducible exact Hou.out _ (by (repeat (first | exact gR _ | refine gO ?_ _ | refine gA ?_ _ | refine gD ?_ | refine gN ?_ _)))); rintro e w' ⟨rfl, x, rfl⟩))
                        go_roundw
                        case rel => exact ⟨i2 + 1, by omega, by go_num, (Hgk.out.setCell rfl _).over (by (repeat (first | exact gR _ | refine gO ?_ _ | refine gA ?_ _ | refine gD ?_ | refine gN ?_ _))), by rw [Hput3.out]; exact (own_setI HOk.out (j := 0) rfl o 2).grew (by (repeat (first | exact gR _ | refine gO ?_ _ | refine gA ?_ _ | refine gD ?_ | refine gN ?_ _)))⟩
                        case measure => (simp [intOf] <;> omega)
                  · have Hput3 : Hid (putK A nl X (i2 + 1) = putK A nl X i2) := Lib.hid (by rw [Hput.out]; simp)
                    go_wp2_with ((go_at_call 32; apply Calls.mono; (with_reducible exact Hou.out _ (by (repeat (first | exact gR _ | refine gO ?_ _ | refine gA ?_ _ | refine gD ?_ | refine gN ?_ _)))); rintro e w' ⟨rfl, x, rfl⟩))
                    go_roundw
                    case rel => exact ⟨i2 + 1, by omega, by go_num, Hgk.out.over (by (repeat (first | exact gR _ | refine gO ?_ _ | refine gA ?_ _ | refine gD ?_ | refine gN ?_ _))), by rw [Hput3.out]; exact HOk.out.grew (by (repeat (first | exact gR _ | refine gO ?_ _ | refine gA ?_ _ | refine gD ?_ | refine gN ?_ _)))⟩
                    case measure => (simp [intOf] <;> omega)
                · obtain rfl : i2 = nl.length := by omega
                  rw [← Hcb.out] at HOk
                  go_wp2
                  go_roundw
                  case rel => exact ⟨k + 1, by omega, by go_num, Hgw5.out.trans (by (repeat (first | exact gR _ | refine gO ?_ _ | refine gA ?_ _ | refine gD ?_ | refine gN ?_ _))), HOk.out.grew (by (repeat (first | exact gR _ | refine gO ?_ _ | refine gA ?_ _ | refine gD ?_ | refine gN ?_ _)))⟩
                  case measure => (simp [intOf] <;> omega)
        · have hkn : ¬ ((k + 2 : Nat) : Int) < (nO : Int) := by omega
          have Hkk : Hid (k = nO - 2) := Lib.hid (by omega)
          have hXl : (buildK nO E A O k).length = 2 * nE := by rw [buildK_len, HnE.out]
          have HXl := Lib.hid hXl
          clear hXl
          go_wp2
          go_ret2
          rw [Hf.out, ← Hkk.out]
          have hOf := HO.out.grew (show Grew wr _ by (repeat (first | exact gR _ | refine gO ?_ _ | refine gA ?_ _ | refine gD ?_ | refine gN ?_ _)))
          obtain ⟨q, cap, e, h1, h2, _⟩ := hOf.ints (k := 0) rfl HXl.out (fun x hx => by have := buildK_rng nO E A O k x hx; omega)
          cases e
          exact ⟨Hgo.out.trans (Hgr.out.trans (by (repeat (first | exact gR _ | refine gO ?_ _ | refine gA ?_ _ | refine gD ?_ | refine gN ?_ _)))), _, _, by rw [HXl.out]; rfl, h1, by rw [HXl.out]; exact Nat.le_refl _, by simp only [maxLen]; omega⟩
end Go.Proofs.YtlealdicoceekaaDoor

/- Build, plain: the reference's labels are those of the program. -/
namespace Go.Proofs.YtlealdicoceekaaDoor
open Go.RowKit

/-- The labels 2 of the reference. -/
def midR (E : List (Int × Int)) (C : List Int) (w : Int) (p : Nat) (X : List Int) : Nat → List Int
  | 0 => X
  | m + 1 => (midR E C w p X m).set (dartF E (ge C (p + 1 + m)) w).toNat 2
/-- The labels that a vertex brings, between the places p and q of the contour. -/
def putR (fin : Bool) (E : List (Int × Int)) (C : List Int) (w : Int) (p q : Nat) (X : List Int) : List Int :=
  midR E C w p (if fin = true then X else (X.set (dartF E w (ge C p)).toNat 0).set (dartF E w (ge C q)).toNat 1) (q - p - 1)
noncomputable def refK (N : Int) (E : List (Int × Int)) (A : List (List Int)) (O : List Int) : Nat → List Int
  | 0 => List.replicate (2 * E.length) (-1)
  | k + 1 => putR (decide (k + 3 = O.length)) E (contG N E A O k) (ge O (k + 2)) (lo (stepI E (contG N E A O k) (ge O (k + 2)))).toNat (hi (stepI E (contG N E A O k) (ge O (k + 2)))).toNat (refK N E A O k)

theorem midR_len (E : List (Int × Int)) (C : List Int) (w : Int) (p : Nat) (X : List Int) : ∀ m, (midR E C w p X m).length = X.length
  | 0 => rfl
  | m + 1 => by unfold midR; rw [List.length_set]; exact midR_len E C w p X m
theorem midR_set (E : List (Int × Int)) (C : List Int) (w : Int) (p : Nat) (X : List Int) (b : Nat) (x : Int) : ∀ m, (∀ j, j < m → (dartF E (ge C (p + 1 + j)) w).toNat ≠ b) → midR E C w p (X.set b x) m = (midR E C w p X m).set b x
  | 0, _ => rfl
  | m + 1, h => by
    unfold midR
    rw [midR_set E C w p X b x m (fun j hj => h j (by omega)), List.set_comm _ _ (h m (by omega)).symm]
theorem list_one {L : List Int} {d : Int} (hn : L.Nodup) (hd : d ∈ L) (h : ∀ x ∈ L, x = d) : L = [d] := by
  match L, hn, hd, h with
  | [x], _, _, h => rw [h x (by simp)]
  | x :: y :: L, hn, _, h =>
    have e1 := h x (by simp)
    have e2 := h y (by simp)
    rw [e1, e2] at hn
    simp at hn
theorem incr_lb {L : List Nat} (h : L.Pairwise (· < ·)) {p : Nat} (hp : ∀ x ∈ L, p ≤ x) : ∀ i (hi : i < L.length), p + i ≤ L[i]
  | 0, hi => hp _ (List.getElem_mem hi)
  | i + 1, hi => by
    have h1 := incr_lb h hp i (by omega)
    have := (List.pairwise_iff_getElem.1 h) i (i + 1) (by omega) hi (by omega)
    omega
theorem incr_ub {L : List Nat} (h : L.Pairwise (· < ·)) {q : Nat} (hq : ∀ x ∈ L, x ≤ q) : ∀ m i (hi : i < L.length), L.length = i + 1 + m → L[i] + m ≤ q
  | 0, i, hi, _ => hq _ (List.getElem_mem hi)
  | m + 1, i, hi, e => by
    have h1 := incr_ub h hq m (i + 1) (by omega) (by omega)
    have := (List.pairwise_iff_getElem.1 h) i (i + 1) (by omega) (by omega) (by omega)
    omega
section
variable {N : Int} {E : List (Int × Int)} {A : List (List Int)} {O : List Int}
theorem nearF_dart (hT : trgB N E A = true) {v : Nat} (hv : v < A.length) (u : Int) : nearF E (rowOf A v) u = if joinB E u v = true then [dartF E v u] else [] := by
  have hV := trg_valid hT
  by_cases h : joinB E u v = true
  · rw [if_pos h]
    obtain ⟨d, h0, h1, h2, h3⟩ := dart_nbr (join_nbr.1 h)
    have hd : isD E d := ⟨h0, h1⟩
    have e := dartF_eq hT hd h2 h3
    rw [e]
    obtain ⟨v', hv', hm, ht⟩ := row_of hV h0 h1
    have : v' = v := by omega
    subst this
    refine list_one ((row_nodup hV hv).sublist List.filter_sublist) (List.mem_filter.2 ⟨hm, by simpa using h3⟩) fun x hx => ?_
    obtain ⟨x1, x2⟩ := List.mem_filter.1 hx
    obtain ⟨m0, m1, m2⟩ := mem_row hV hv x1
    rw [← e]
    exact (dartF_eq hT ⟨m0, m1⟩ m2 (by simpa using x2)).symm
  · rw [if_neg h]
    unfold nearF
    rw [List.filter_eq_nil_iff]
    intro x hx k
    obtain ⟨m0, m1, m2⟩ := mem_row hV hv hx
    apply h
    rw [join_nbr]
    have := nbr_dart (E := E) m0 m1
    rw [m2, (by simpa using k : tailE E (oth x) = u)] at this
    exact this
theorem nearB_dart (hT : trgB N E A = true) {v : Nat} (hv : v < A.length) (C : List Int) : nearB E (rowOf A v) C = (stepI E C v).map (fun i => dartF E v (ge C i.toNat)) := by
  have key : ∀ j, j ≤ C.length → nearB E (rowOf A v) (C.take j) = (stepIk E C v j).map (fun i => dartF E v (ge C i.toNat)) := by
    intro j
    induction j with
    | zero => intro _; rfl
    | succ j ih =>
      intro hj
      rw [nearB_succ (by omega), ih (by omega), stepIk_succ, List.map_append, nearF_dart hT hv]
      congr 1
      split <;> simp
  have := key C.length (Nat.le_refl _)
  rw [List.take_length] at this
  exact this
theorem stepI_all {C : List Int} {w : Int} {p q : Nat} (hpq : p < q) (hin : ∀ i ∈ stepI E C w, (p : Int) ≤ i ∧ i ≤ q) (hl : (stepI E C w).length = q - p + 1) {i : Nat} (hi : i < (stepI E C w).length) : (stepI E C w)[i] = ((p + i : Nat) : Int) := by
  unfold stepI at hin hl hi ⊢
  rw [List.length_map] at hl
  rw [List.getElem_map]
  have hs : ((List.range C.length).filter fun i => joinB E (ge C i) w).Pairwise (· < ·) := List.Pairwise.sublist List.filter_sublist List.pairwise_lt_range
  have hi' : i < ((List.range C.length).filter fun i => joinB E (ge C i) w).length := by rw [List.length_map] at hi; exact hi
  have h1 := incr_lb hs (p := p) (fun x hx => by have := hin x (List.mem_map.2 ⟨x, hx, rfl⟩); omega) i hi'
  have h2 := incr_ub hs (q := q) (fun x hx => by have := hin x (List.mem_map.2 ⟨x, hx, rfl⟩); omega) (q - p - i) i hi' (by omega)
  omega

/-- A step of the peeling: what the contour is, and the darts of the new vertex. -/
structure NewV (N : Int) (E : List (Int × Int)) (A : List (List Int)) (O : List Int) (k : Nat) (C : List Int) (v p q : Nat) : Prop where
  hv : ge O (k + 2) = (v : Int)
  vl : v < A.length
  con : contP N E A O k = some C
  gos : Goes N E O k C
  new : (v : Int) ∉ C
  pq : p < q
  ql : q < C.length
  lo : lo (stepI E C v) = p
  hi : hi (stepI E C v) = q
  nxt : contP N E A O (k + 1) = some (C.take (p + 1) ++ (v : Int) :: C.drop q)
  len : (nearB E (rowOf A v) C).length = q - p + 1
  at_ : ∀ i, i < q - p + 1 → ge (nearB E (rowOf A v) C) i = dartF E v (ge C (p + i))
  drt : ∀ i, i < q - p + 1 → isD E (dartF E v (ge C (p + i))) ∧ tailE E (dartF E v (ge C (p + i))) = v ∧ tailE E (oth (dartF E v (ge C (p + i)))) = ge C (p + i) ∧ dartF E (ge C (p + i)) v = oth (dartF E v (ge C (p + i)))
theorem new_v (h : chkO N E A O = true) {k : Nat} (hk : k + 2 < O.length) : ∃ C v p q, NewV N E A O k C v p q := by
  obtain ⟨hT, hl, ⟨h0, h1, h2⟩, hc⟩ := chkO_iff.1 h
  have hV := trg_valid hT
  have hal := hV.al
  have hF := (chkR_iff.1 (chk_same.trans h)).2.2.1
  obtain ⟨C, hC, hG⟩ := cont_goes h (j := k) (by omega)
  obtain ⟨D, hD, _⟩ := cont_goes h (j := k + 1) (by omega)
  have g1 := cont_same h (j := k) (by omega)
  have g2 := cont_same h (j := k + 1) (by omega)
  obtain ⟨_, _, hin, _⟩ := cont_fwd hT (head_fine hT (by omega) h0 h1) (by omega) hC
  have hfk := hF.mono (show k + 2 + 1 ≤ O.length by omega)
  obtain ⟨_, f0, f1, f2⟩ := hfk.pred (by omega)
  obtain ⟨v, hv⟩ : ∃ v : Nat, ge O (k + 2) = (v : Int) := ⟨(ge O (k + 2)).toNat, by omega⟩
  rw [hD] at g2
  unfold contR at g2
  rw [g1, hC] at g2
  have hs : spanF C v (stepI E C v) = some D := by rw [← hv]; exact step_span g2
  obtain ⟨p, q, hpq, hq, hlo, hhi, rfl, hp, hq', hil⟩ := span_inv (fun i hi => stepI_pos hi) hs
  have hvl : v < A.length := by omega
  have hne : stepI E C v ≠ [] := fun e => by rw [e] at hp; cases hp
  have hin2 : ∀ i ∈ stepI E C v, (p : Int) ≤ i ∧ i ≤ q := fun i hi => by
    have a := (lo_mem (fun i hi => (stepI_pos hi).1) hne).2 i hi
    have b := (hi_mem (fun i hi => (stepI_pos hi).1) hne).2 i hi
    omega
  have hal2 := fun i hi => stepI_all hpq hin2 hil (i := i) hi
  refine ⟨C, v, p, q, hv, hvl, hC, hG, fun hm => f2 (hv ▸ hin _ hm), hpq, hq, hlo, hhi, hD, ?_, fun i hi => ?_, fun i hi => ?_⟩
  · rw [nearB_dart hT hvl, List.length_map]; exact hil
  · rw [nearB_dart hT hvl, ge_eq _ (by rw [List.length_map]; omega), List.getElem_map, hal2 i (by omega)]
    rfl
  · have hm : ((p + i : Nat) : Int) ∈ stepI E C v := by rw [← hal2 i (by omega)]; exact List.getElem_mem _
    have hj := stepI_join hm
    obtain ⟨d, d0, d1, d2, d3⟩ := dart_nbr (join_nbr.1 hj)
    have hd : isD E d := ⟨d0, d1⟩
    rw [dartF_eq hT hd d2 d3]
    exact ⟨hd, d2, d3, dartF_eq hT hd.oth d3 (by rw [oth_oth]; exact d2)⟩

theorem tailF_eq (hV : vRot N E A) {d : Int} (hd : isD E d) : tailF N E A d = tailE E d := by
  unfold tailF; rw [if_pos ⟨vRotB_iff.2 hV, hd.1, hd.2⟩]
theorem rts_ord (hT : trgB N E A = true) (h : chkO N E A O = true) : rts E A = [ge O 0, ge O 1, ge O (O.length - 1)] := by
  obtain ⟨_, hl, ⟨h0, h1, h2⟩, _⟩ := chkO_iff.1 h
  have hV := trg_valid hT
  have hE := trg_pos hT
  have e0 : isD E 0 := ⟨by omega, by omega⟩
  have e1 : isD E 1 := ⟨by omega, by omega⟩
  have f0 := nxF_in hV e0.1 e0.2
  have f1 := nxF_in hV f0.1 f0.2
  have n0 : nextF N E A 0 = nxF A 0 := by unfold nextF; rw [if_pos ⟨vRotB_iff.2 hV, e0.1, e0.2⟩]; rfl
  have n1 : nextF N E A (nxF A 0) = nxF A (nxF A 0) := by unfold nextF; rw [if_pos ⟨vRotB_iff.2 hV, f0.1, f0.2⟩]; rfl
  rw [rts_eq, h0, h1, show O.length - 1 = (N - 1).toNat by omega, h2, tailF_eq hV e0, tailF_eq hV e1]
  unfold thirdF
  rw [n0, n1, tailF_eq hV ⟨f1.1, f1.2⟩]
theorem fine_inj {i j : Nat} (h : Fine N O O.length) (hi : i < O.length) (hj : j < O.length) (e : ge O i = ge O j) : i = j := by
  have hn := h.1
  rw [List.take_length] at hn
  rw [ge_eq O hi, ge_eq O hj] at e
  exact (List.getElem_inj hn).1 e
theorem put_eq (h : chkO N E A O = true) {k : Nat} {C : List Int} {v p q : Nat} (hk : k + 2 < O.length) (hN : NewV N E A O k C v p q) (X : List Int) :
    putK A (nearB E (rowOf A v) C) X (nearB E (rowOf A v) C).length = putR (decide (k + 3 = O.length)) E C v p q X := by
  have hT := (chkO_iff.1 h).1
  have hro := rts_ord hT h
  have hF := (chkR_iff.1 (chk_same.trans h)).2.2.1
  have hpq := hN.pq
  have hv := hN.hv
  have hdd : ∀ i, i < q - p + 1 → outB A (ge (nearB E (rowOf A v) C) i) = decide ((v : Int) ∈ rts E A ∧ ge C (p + i) ∈ rts E A) := fun i hi => by
    obtain ⟨d1, d2, d3, d4⟩ := hN.drt i hi
    rw [hN.at_ i hi, Bool.eq_iff_iff, outB_iff hT d1, d2, d3, decide_eq_true_iff]
  have hmid : ∀ i, i < q - p → 0 < i → (dartF E (ge C (p + i)) v).toNat = (oth (ge (nearB E (rowOf A v) C) i)).toNat := fun i hi _ => by
    rw [hN.at_ i (by omega), (hN.drt i (by omega)).2.2.2]
  by_cases hfin : k + 3 = O.length
  · unfold putR
    rw [if_pos (decide_eq_true hfin)]
    have hvr : (v : Int) ∈ rts E A := by rw [hro, ← hv, show k + 2 = O.length - 1 by omega]; simp
    obtain ⟨hT', hl, ⟨h0, h1, h2⟩, hc⟩ := chkO_iff.1 h
    have tj := third_join hT
    rw [← h0, ← h1, ← h2, show (N - 1).toNat = k + 2 by omega, hv] at tj
    have hm0 : ((0 : Nat) : Int) ∈ stepI E C v := stepI_of (by have := hN.gos.two; omega) (by rw [hN.gos.fst]; exact tj.1)
    have hm1 : ((C.length - 1 : Nat) : Int) ∈ stepI E C v := stepI_of (by have := hN.gos.two; omega) (by rw [hN.gos.lst]; exact tj.2.1)
    have a := (lo_mem (fun i hi => (stepI_pos hi).1) (List.ne_nil_of_mem hm0)).2 _ hm0
    have b := (hi_mem (fun i hi => (stepI_pos hi).1) (List.ne_nil_of_mem hm0)).2 _ hm1
    rw [hN.lo] at a
    rw [hN.hi] at b
    have hql := hN.ql
    obtain rfl : p = 0 := by omega
    have hqe : q = C.length - 1 := by omega
    have o0 : outB A (ge (nearB E (rowOf A v) C) 0) = true := by
      rw [hdd 0 (by omega), decide_eq_true_iff]
      refine ⟨hvr, ?_⟩
      rw [Nat.add_zero, hN.gos.fst, hro]; simp
    have o1 : outB A (ge (nearB E (rowOf A v) C) q) = true := by
      rw [hdd q (by omega), decide_eq_true_iff]
      refine ⟨hvr, ?_⟩
      rw [Nat.zero_add, hqe, hN.gos.lst, hro]; simp
    have om : ∀ i, 0 < i → i < q → outB A (ge (nearB E (rowOf A v) C) i) = false := fun i h0 h1 => by
      rw [hdd i (by omega), decide_eq_false_iff_not]
      rintro ⟨_, hm⟩
      rw [Nat.zero_add, hro] at hm
      simp only [List.mem_cons, List.not_mem_nil, or_false] at hm
      have hnd := hN.gos.nd
      rcases hm with e | e | e
      · rw [← hN.gos.fst, ge_eq C (by omega), ge_eq C (by omega)] at e
        have := (List.getElem_inj hnd).1 e
        omega
      · rw [← hN.gos.lst, ge_eq C (by omega), ge_eq C (by omega)] at e
        have := (List.getElem_inj hnd).1 e
        omega
      · rw [show O.length - 1 = k + 2 by omega, hv] at e
        exact hN.new (by rw [← e]; exact ge_mem (by omega))
    have key : ∀ i, i < q → putK A (nearB E (rowOf A v) C) X (i + 1) = midR E C v 0 X i := by
      intro i
      induction i with
      | zero => intro _; unfold putK; rw [if_pos o0]; rfl
      | succ i ih =>
        intro hi
        unfold putK
        rw [om (i + 1) (by omega) (by omega), if_neg (by simp), if_neg (by omega), if_neg (by rw [hN.len]; omega), ih (by omega)]
        show _ = (midR E C v 0 X i).set _ 2
        rw [show 0 + 1 + i = 0 + (i + 1) by omega, hmid (i + 1) (by omega) (by omega)]
    rw [hN.len, Nat.sub_zero]
    show (if outB A (ge _ q) = true then putK A _ X q else _) = _
    rw [if_pos o1]
    have := key (q - 1) (by omega)
    rw [show q - 1 + 1 = q by omega] at this
    exact this
  · unfold putR
    rw [if_neg (by simpa using hfin)]
    have hvr : (v : Int) ∉ rts E A := by
      rw [hro, ← hv]
      simp only [List.mem_cons, List.not_mem_nil, or_false]
      rintro (e | e | e)
      · have := fine_inj hF (by omega) (by omega) e; omega
      · have := fine_inj hF (by omega) (by omega) e; omega
      · have := fine_inj hF (by omega) (by omega) e; omega
    have om : ∀ i, i < q - p + 1 → outB A (ge (nearB E (rowOf A v) C) i) = false := fun i hi => by
      rw [hdd i hi, decide_eq_false_iff_not]
      exact fun k => hvr k.1
    have key : ∀ i, i < q - p → putK A (nearB E (rowOf A v) C) X (i + 1) = midR E C v p (X.set (dartF E v (ge C p)).toNat 0) i := by
      intro i
      induction i with
      | zero =>
        intro _
        unfold putK
        rw [om 0 (by omega), if_neg (by simp), if_pos rfl, hN.at_ 0 (by omega)]
        rfl
      | succ i ih =>
        intro hi
        unfold putK
        rw [om (i + 1) (by omega), if_neg (by simp), if_neg (by omega), if_neg (by rw [hN.len]; omega), ih (by omega)]
        show _ = (midR E C v p _ i).set _ 2
        rw [show p + 1 + i = p + (i + 1) by omega, hmid (i + 1) (by omega) (by omega)]
    rw [hN.len]
    show (if outB A (ge _ (q - p)) = true then putK A _ X (q - p) else if q - p = 0 then _ else if q - p + 1 = _ then _ else _) = _
    have h2 := key (q - p - 1) (by omega)
    rw [show q - p - 1 + 1 = q - p by omega] at h2
    rw [om (q - p) (by omega), if_neg (by simp), if_neg (by omega), if_pos (by rw [hN.len]), h2, hN.at_ (q - p) (by omega), show p + (q - p) = q by omega]
    refine (midR_set E C v p _ _ 1 _ fun j hj e => ?_).symm
    obtain ⟨a1, a2, a3, a4⟩ := hN.drt (j + 1) (by omega)
    obtain ⟨b1, b2, b3, b4⟩ := hN.drt (q - p) (by omega)
    rw [show p + (q - p) = q by omega] at b1 b2 b3 b4
    rw [show p + 1 + j = p + (j + 1) by omega, a4] at e
    have e2 : oth (dartF E v (ge C (p + (j + 1)))) = dartF E v (ge C q) := by
      have := a1.oth.1
      have := b1.1
      omega
    rw [e2, b2] at a3
    exact hN.new (by rw [a3]; exact ge_mem (by have := hN.ql; omega))
theorem refK_eq (h : chkO N E A O = true) : ∀ k, k + 2 ≤ O.length → refK N E A O k = buildK N E A O k
  | 0, _ => rfl
  | k + 1, hk => by
    obtain ⟨C, v, p, q, hN⟩ := new_v h (k := k) (by omega)
    have ih := refK_eq h k (by omega)
    have hc : contG N E A O k = C := by unfold contG; rw [hN.con]; rfl
    unfold refK buildK
    rw [hc, hN.hv, Int.toNat_natCast, ih, put_eq h (by omega) hN, hN.lo, hN.hi]
    rfl
end
end Go.Proofs.YtlealdicoceekaaDoor

/- The labels of a canonical order, plain: which darts get them. -/
namespace Go.Proofs.YtlealdicoceekaaDoor
open Go.RowKit

theorem lab_set_eq {X : List Int} {d : Int} {i : Nat} (hi : i < X.length) (h : d.toNat = i) (x : Int) : lab (X.set i x) d = x := by
  unfold lab; rw [h, ge_set_same _ hi]
theorem lab_set_ne {X : List Int} {d : Int} {i : Nat} (h : d.toNat ≠ i) (x : Int) : lab (X.set i x) d = lab X d := by
  unfold lab; rw [ge_set_other _ (fun e => h e.symm)]
section
variable {N : Int} {E : List (Int × Int)} {A : List (List Int)} {O : List Int}
theorem midR_hit {C : List Int} {v p : Nat} {X : List Int} {d : Int} (hd : isD E d) (hX : X.length = 2 * E.length) : ∀ m, (∃ j, j < m ∧ d = dartF E (ge C (p + 1 + j)) v) → lab (midR E C v p X m) d = 2
  | 0, ⟨j, hj, _⟩ => by omega
  | m + 1, ⟨j, hj, e⟩ => by
    show lab ((midR E C v p X m).set (dartF E (ge C (p + 1 + m)) v).toNat 2) d = 2
    by_cases h : d.toNat = (dartF E (ge C (p + 1 + m)) v).toNat
    · exact lab_set_eq (by rw [midR_len, hX, ← h]; have := hd.1; have := hd.2; omega) h 2
    · rw [lab_set_ne h]
      exact midR_hit hd hX m ⟨j, by
        rcases Nat.lt_or_ge j m with k | k
        · exact k
        · obtain rfl : j = m := by omega
          exact absurd (by rw [e]) h, e⟩
theorem midR_mis {C : List Int} {v p : Nat} {X : List Int} {d : Int} : ∀ m, (∀ j, j < m → d.toNat ≠ (dartF E (ge C (p + 1 + j)) v).toNat) → lab (midR E C v p X m) d = lab X d
  | 0, _ => rfl
  | m + 1, h => by
    show lab ((midR E C v p X m).set (dartF E (ge C (p + 1 + m)) v).toNat 2) d = _
    rw [lab_set_ne (h m (by omega))]
    exact midR_mis m fun j hj => h j (by omega)

/-- The darts of an earlier neighbour of a new vertex. -/
theorem nbr_at (h : chkO N E A O = true) {k : Nat} {C : List Int} {v p z : Nat} (hk : k + 2 < O.length) (hN : NewV N E A O k C v p z) {u : Int} (hu : u ∈ O.take (k + 2)) (hj : joinB E u v = true) : ∃ i, i < z - p + 1 ∧ u = ge C (p + i) := by
  obtain ⟨hT, hl, ⟨h0, h1, h2⟩, hc⟩ := chkO_iff.1 h
  have hF := (chkR_iff.1 (chk_same.trans h)).2.2.1
  obtain ⟨hCR, hnd, hin, _⟩ := cont_fwd hT (head_fine hT (by omega) h0 h1) (by omega) hN.con
  have g2 := cont_same h (j := k + 1) (by omega)
  rw [hN.nxt] at g2
  unfold contR at g2
  rw [hCR, Option.bind_some, hN.hv] at g2
  have hsp := step_span g2
  have hcnt : (O.take (k + 2)).countP (fun u => joinB E u v) = (stepI E C v).length := by
    unfold stepF at g2
    split at g2
    · cases g2
    · rename_i hn; exact Classical.byContradiction fun hh => hn hh
  have hSn : (O.take (k + 2)).Nodup := (hF.mono (by omega)).1
  -- all earlier neighbours lie on the contour
  have hall : ∀ u ∈ (O.take (k + 2)).filter (fun u => joinB E u v), u ∈ C.filter (fun u => joinB E u v) := by
    have hsub : ∀ u ∈ C.filter (fun u => joinB E u v), u ∈ (O.take (k + 2)).filter (fun u => joinB E u v) := fun u hu => by
      rw [List.mem_filter] at hu ⊢
      exact ⟨hin u hu.1, hu.2⟩
    have hlen : ((O.take (k + 2)).filter (fun u => joinB E u v)).length ≤ (C.filter (fun u => joinB E u v)).length := by
      rw [← List.countP_eq_length_filter, hcnt]
      have e : (C.filter (fun u => joinB E u v)).length = (stepI E C v).length := by
        have key : ∀ j, j ≤ C.length → ((C.take j).filter (fun u => joinB E u v)).length = (stepIk E C v j).length := by
          intro j
          induction j with
          | zero => intro _; rfl
          | succ j ih =>
            intro hj
            rw [List.take_succ_eq_append_getElem (by omega), List.filter_append, List.length_append, ih (by omega), stepIk_succ, List.length_append, ← ge_eq C (by omega)]
            congr 1
            by_cases hb : joinB E (ge C j) v = true
            · simp [hb]
            · simp [hb]
        have := key C.length (Nat.le_refl _)
        rw [List.take_length] at this
        exact this
      omega
    intro u hu
    have hCn : (C.filter (fun u => joinB E u v)).Nodup := hnd.sublist List.filter_sublist
    apply Classical.byContradiction
    intro hno
    have h3 := List.Nodup.length_le_of_subset (List.nodup_cons.2 ⟨hno, hCn⟩) (l₂ := (O.take (k + 2)).filter (fun u => joinB E u v)) (fun x hx => by
      rcases List.mem_cons.1 hx with rfl | hx
      · exact hu
      · exact hsub x hx)
    simp only [List.length_cons] at h3
    omega
  obtain ⟨huC, _⟩ := List.mem_filter.1 (hall u (List.mem_filter.2 ⟨hu, hj⟩))
  obtain ⟨i, hi, rfl⟩ := mem_ge.1 huC
  have hmI := stepI_of hi hj
  have hne := List.ne_nil_of_mem hmI
  have a := (lo_mem (fun i hi => (stepI_pos hi).1) hne).2 _ hmI
  have b := (hi_mem (fun i hi => (stepI_pos hi).1) hne).2 _ hmI
  rw [hN.lo] at a
  rw [hN.hi] at b
  exact ⟨i - p, by omega, by congr 1; omega⟩

/-- What a step does to the label of a dart at the new vertex that had none, and to the others. -/
theorem put_lab (hT : trgB N E A = true) {k : Nat} {C : List Int} {v p z : Nat} (hN : NewV N E A O k C v p z) {fin : Bool} {X : List Int} (hX : X.length = 2 * E.length) {d : Int} (hd : isD E d) :
    (∃ i, p < i ∧ i < z ∧ d = dartF E (ge C i) v ∧ lab (putR fin E C v p z X) d = 2) ∨
    ((∀ i, p < i → i < z → d ≠ dartF E (ge C i) v) ∧ ((fin = false ∧ d = dartF E v (ge C p) ∧ lab (putR fin E C v p z X) d = 0) ∨ (fin = false ∧ d = dartF E v (ge C z) ∧ lab (putR fin E C v p z X) d = 1) ∨
      ((fin = false → d ≠ dartF E v (ge C p) ∧ d ≠ dartF E v (ge C z)) ∧ lab (putR fin E C v p z X) d = lab X d))) := by
  have hpz := hN.pq
  have hA : ∀ i, p ≤ i → i ≤ z → isD E (dartF E v (ge C i)) ∧ tailE E (dartF E v (ge C i)) = v ∧ tailE E (oth (dartF E v (ge C i))) = ge C i ∧ dartF E (ge C i) v = oth (dartF E v (ge C i)) := fun i h1 h2 => by
    have := hN.drt (i - p) (by omega)
    rwa [show p + (i - p) = i by omega] at this
  by_cases h1 : ∃ i, p < i ∧ i < z ∧ d = dartF E (ge C i) v
  · obtain ⟨i, hi1, hi2, e⟩ := h1
    refine Or.inl ⟨i, hi1, hi2, e, ?_⟩
    unfold putR
    refine midR_hit hd ?_ _ ⟨i - p - 1, by omega, by rw [show p + 1 + (i - p - 1) = i by omega]; exact e⟩
    split
    · exact hX
    · rw [List.length_set, List.length_set]; exact hX
  · have hno : ∀ i, p < i → i < z → d ≠ dartF E (ge C i) v := fun i a b e => h1 ⟨i, a, b, e⟩
    refine Or.inr ⟨hno, ?_⟩
    have hm : lab (putR fin E C v p z X) d = lab (if fin = true then X else (X.set (dartF E v (ge C p)).toNat 0).set (dartF E v (ge C z)).toNat 1) d := by
      unfold putR
      refine midR_mis _ fun j hj e => hno (p + 1 + j) (by omega) (by omega) ?_
      have a := (hA (p + 1 + j) (by omega) (by omega))
      have := a.1.oth.1
      rw [← a.2.2.2] at this
      have := hd.1
      omega
    have hpp := hA p (Nat.le_refl _) (by omega)
    have hzz := hA z (by omega) (Nat.le_refl _)
    have hne : dartF E v (ge C p) ≠ dartF E v (ge C z) := fun e => by
      have e2 : ge C p = ge C z := by rw [← hpp.2.2.1, e, hzz.2.2.1]
      rw [ge_eq C (by have := hN.ql; omega), ge_eq C hN.ql] at e2
      have := (List.getElem_inj hN.gos.nd).1 e2
      omega
    rw [hm]
    cases fin
    · rw [if_neg (by simp)]
      by_cases hz : d = dartF E v (ge C z)
      · refine Or.inr (Or.inl ⟨rfl, hz, lab_set_eq ?_ (by rw [hz]) 1⟩)
        rw [List.length_set, hX]
        have := hzz.1.1; have := hzz.1.2
        omega
      · have hz2 : d.toNat ≠ (dartF E v (ge C z)).toNat := fun e => hz (by have := hd.1; have := hzz.1.1; omega)
        rw [lab_set_ne hz2]
        by_cases hp : d = dartF E v (ge C p)
        · refine Or.inl ⟨rfl, hp, lab_set_eq ?_ (by rw [hp]) 0⟩
          rw [hX]
          have := hpp.1.1; have := hpp.1.2
          omega
        · have hp2 : d.toNat ≠ (dartF E v (ge C p)).toNat := fun e => hp (by have := hd.1; have := hpp.1.1; omega)
          exact Or.inr (Or.inr ⟨fun _ => ⟨hp, hz⟩, lab_set_ne hp2 0⟩)
    · rw [if_pos rfl]
      exact Or.inr (Or.inr ⟨(fun h => by cases h), rfl⟩)
/-- A step leaves the labels of the darts away from the new vertex. -/
theorem put_keep (hT : trgB N E A = true) {k : Nat} {C : List Int} {v p z : Nat} (hN : NewV N E A O k C v p z) {fin : Bool} {X : List Int} (hX : X.length = 2 * E.length) {d : Int} (hd : isD E d) (h1 : tailE E d ≠ v ∨ tailE E (oth d) ∉ C) (h2 : tailE E (oth d) ≠ v ∨ tailE E d ∉ C) :
    lab (putR fin E C v p z X) d = lab X d := by
  have hpz := hN.pq
  have hql := hN.ql
  have hA : ∀ i, p ≤ i → i ≤ z → isD E (dartF E v (ge C i)) ∧ tailE E (dartF E v (ge C i)) = v ∧ tailE E (oth (dartF E v (ge C i))) = ge C i ∧ dartF E (ge C i) v = oth (dartF E v (ge C i)) := fun i h1 h2 => by
    have := hN.drt (i - p) (by omega)
    rwa [show p + (i - p) = i by omega] at this
  have hv1 : ∀ i, p ≤ i → i ≤ z → d ≠ dartF E v (ge C i) := fun i a b e => by
    have hh := hA i a b
    rw [← e] at hh
    rcases h1 with k | k
    · exact k hh.2.1
    · exact k (by rw [hh.2.2.1]; exact ge_mem (by omega))
  rcases put_lab hT hN (fin := fin) hX hd with ⟨i, a, b, e, _⟩ | ⟨_, ⟨_, e, _⟩ | ⟨_, e, _⟩ | ⟨_, e⟩⟩
  · exfalso
    have hh := hA i (by omega) (by omega)
    rw [hh.2.2.2] at e
    have e2 : oth d = dartF E v (ge C i) := by rw [e, oth_oth]
    rw [← e2, oth_oth] at hh
    rcases h2 with k | k
    · exact k hh.2.1
    · exact k (by rw [hh.2.2.1]; exact ge_mem (by omega))
  · exact absurd e (hv1 p (Nat.le_refl _) (by omega))
  · exact absurd e (hv1 z (by omega) (Nat.le_refl _))
  · exact e
theorem refK_succ (h : chkO N E A O = true) {k : Nat} {C : List Int} {v p z : Nat} (hN : NewV N E A O k C v p z) : refK N E A O (k + 1) = putR (decide (k + 3 = O.length)) E C v p z (refK N E A O k) := by
  have hc : contG N E A O k = C := by unfold contG; rw [hN.con]; rfl
  show putR _ E (contG N E A O k) (ge O (k + 2)) _ _ _ = _
  rw [hc, hN.hv, hN.lo, hN.hi]
  rfl
theorem refK_len2 (N : Int) (E : List (Int × Int)) (A : List (List Int)) (O : List Int) : ∀ k, (refK N E A O k).length = 2 * E.length
  | 0 => by unfold refK; simp
  | k + 1 => by
    unfold refK putR
    rw [midR_len]
    split
    · exact refK_len2 N E A O k
    · rw [List.length_set, List.length_set]; exact refK_len2 N E A O k
theorem con_sub (h : chkO N E A O = true) {k : Nat} {C : List Int} (hk : k + 2 ≤ O.length) (hC : contP N E A O k = some C) : ∀ u ∈ C, u ∈ O.take (k + 2) := by
  obtain ⟨hT, hl, ⟨h0, h1, h2⟩, hc⟩ := chkO_iff.1 h
  exact (cont_fwd hT (head_fine hT (by omega) h0 h1) (by omega) hC).2.2.1
theorem new_out (h : chkO N E A O = true) {k : Nat} (hk : k + 2 < O.length) : ge O (k + 2) ∉ O.take (k + 2) := by
  have hF := (chkR_iff.1 (chk_same.trans h)).2.2.1
  exact ((hF.mono (show k + 2 + 1 ≤ O.length by omega)).pred hk).2.2.2
/-- Darts with an end that is not there yet have no label. -/
theorem lab_none (h : chkO N E A O = true) : ∀ k, k + 2 ≤ O.length → ∀ d, isD E d → (tailE E d ∉ O.take (k + 2) ∨ tailE E (oth d) ∉ O.take (k + 2)) → lab (refK N E A O k) d = -1
  | 0, _, d, hd, _ => by
    unfold refK lab
    rw [ge_eq _ (by rw [List.length_replicate]; have := hd.1; have := hd.2; omega)]
    simp
  | k + 1, hk, d, hd, hn => by
    have hT := (chkO_iff.1 h).1
    obtain ⟨C, v, p, z, hN⟩ := new_v h (k := k) (by omega)
    have hsub := con_sub h (by omega) hN.con
    have hm : ∀ u, u ∈ O.take (k + 1 + 2) ↔ u ∈ O.take (k + 2) ∨ u = v := fun u => by
      rw [show k + 1 + 2 = (k + 2) + 1 by omega, List.take_succ_eq_append_getElem (by omega), List.mem_append, List.mem_singleton, ← ge_eq O (by omega), hN.hv]
    have hn' : (tailE E d ∉ O.take (k + 2) ∨ tailE E (oth d) ∉ O.take (k + 2)) := by
      rcases hn with k1 | k1
      · exact Or.inl fun e => k1 ((hm _).2 (Or.inl e))
      · exact Or.inr fun e => k1 ((hm _).2 (Or.inl e))
    rw [refK_succ h hN, put_keep hT hN (refK_len2 _ _ _ _ _) hd ?_ ?_]
    · exact lab_none h k (by omega) d hd hn'
    · rcases hn with k1 | k1
      · exact Or.inl fun e => k1 ((hm _).2 (Or.inr e))
      · exact Or.inr fun e => k1 ((hm _).2 (Or.inl (hsub _ e)))
    · rcases hn with k1 | k1
      · exact Or.inr fun e => k1 ((hm _).2 (Or.inl (hsub _ e)))
      · exact Or.inl fun e => k1 ((hm _).2 (Or.inr e))
/-- Labels stay. -/
theorem lab_stay (h : chkO N E A O = true) {k : Nat} {d : Int} (hd : isD E d) (h1 : tailE E d ∈ O.take (k + 2)) (h2 : tailE E (oth d) ∈ O.take (k + 2)) : ∀ j, k + j + 2 ≤ O.length → lab (refK N E A O (k + j)) d = lab (refK N E A O k) d
  | 0, _ => rfl
  | j + 1, hj => by
    have hT := (chkO_iff.1 h).1
    obtain ⟨C, v, p, z, hN⟩ := new_v h (k := k + j) (by omega)
    have hv : ∀ u, u ∈ O.take (k + 2) → u ≠ v := fun u hu e => by
      have := new_out h (k := k + j) (by omega)
      rw [hN.hv] at this
      exact this (by rw [← e]; exact List.take_subset_take_left O (by omega) hu)
    rw [show k + (j + 1) = (k + j) + 1 by omega, refK_succ h hN, put_keep hT hN (refK_len2 _ _ _ _ _) hd (Or.inl (hv _ h1)) (Or.inl (hv _ h2))]
    exact lab_stay h hd h1 h2 j (by omega)
/-- The labels of the darts between a new vertex and earlier ones. -/
theorem lab_at (h : chkO N E A O = true) {k : Nat} {C : List Int} {v p z : Nat} (hk : k + 2 < O.length) (hN : NewV N E A O k C v p z) :
    (k + 3 < O.length → lab (refK N E A O (O.length - 2)) (dartF E v (ge C p)) = 0 ∧ lab (refK N E A O (O.length - 2)) (dartF E v (ge C z)) = 1) ∧
    (∀ i, p < i → i < z → lab (refK N E A O (O.length - 2)) (dartF E (ge C i) v) = 2) ∧
    ∀ d, isD E d → (tailE E d = v ∧ tailE E (oth d) ∈ O.take (k + 2) ∨ tailE E (oth d) = v ∧ tailE E d ∈ O.take (k + 2)) →
      lab (refK N E A O (O.length - 2)) d = -1 ∨ (k + 3 < O.length ∧ d = dartF E v (ge C p) ∧ lab (refK N E A O (O.length - 2)) d = 0) ∨ (k + 3 < O.length ∧ d = dartF E v (ge C z) ∧ lab (refK N E A O (O.length - 2)) d = 1) ∨ ∃ i, p < i ∧ i < z ∧ d = dartF E (ge C i) v ∧ lab (refK N E A O (O.length - 2)) d = 2 := by
  have hT := (chkO_iff.1 h).1
  have hpz := hN.pq
  have hql := hN.ql
  have hsub := con_sub h (by omega) hN.con
  have hvo := new_out h hk
  rw [hN.hv] at hvo
  have hA : ∀ i, p ≤ i → i ≤ z → isD E (dartF E v (ge C i)) ∧ tailE E (dartF E v (ge C i)) = v ∧ tailE E (oth (dartF E v (ge C i))) = ge C i ∧ dartF E (ge C i) v = oth (dartF E v (ge C i)) := fun i h1 h2 => by
    have := hN.drt (i - p) (by omega)
    rwa [show p + (i - p) = i by omega] at this
  have hm : ∀ u, u ∈ O.take (k + 1 + 2) ↔ u ∈ O.take (k + 2) ∨ u = v := fun u => by
    rw [show k + 1 + 2 = (k + 2) + 1 by omega, List.take_succ_eq_append_getElem (by omega), List.mem_append, List.mem_singleton, ← ge_eq O (by omega), hN.hv]
  have hmC : ∀ i, p ≤ i → i ≤ z → ge C i ∈ O.take (k + 2) := fun i a b => hsub _ (ge_mem (by omega))
  -- the label at the end is that after the step
  have hst : ∀ d, isD E d → (tailE E d = v ∧ tailE E (oth d) ∈ O.take (k + 2) ∨ tailE E (oth d) = v ∧ tailE E d ∈ O.take (k + 2)) → lab (refK N E A O (O.length - 2)) d = lab (putR (decide (k + 3 = O.length)) E C v p z (refK N E A O k)) d ∧ lab (refK N E A O k) d = -1 := fun d hd hor => by
    have hb : tailE E d ∈ O.take (k + 1 + 2) ∧ tailE E (oth d) ∈ O.take (k + 1 + 2) := by
      rcases hor with ⟨a, b⟩ | ⟨a, b⟩
      · exact ⟨(hm _).2 (Or.inr a), (hm _).2 (Or.inl b)⟩
      · exact ⟨(hm _).2 (Or.inl b), (hm _).2 (Or.inr a)⟩
    constructor
    · have := lab_stay h hd hb.1 hb.2 (O.length - 2 - (k + 1)) (by omega)
      rw [show k + 1 + (O.length - 2 - (k + 1)) = O.length - 2 by omega] at this
      rw [this, refK_succ h hN]
    · refine lab_none h k (by omega) d hd ?_
      rcases hor with ⟨a, b⟩ | ⟨a, b⟩
      · exact Or.inl (by rw [a]; exact hvo)
      · exact Or.inr (by rw [a]; exact hvo)
  have hnepz : dartF E v (ge C p) ≠ dartF E v (ge C z) := fun e => by
    have e2 : ge C p = ge C z := by rw [← (hA p (Nat.le_refl _) (by omega)).2.2.1, e, (hA z (by omega) (Nat.le_refl _)).2.2.1]
    rw [ge_eq C (by omega), ge_eq C hql] at e2
    have := (List.getElem_inj hN.gos.nd).1 e2
    omega
  have hnev : ∀ i j, p ≤ i → i ≤ z → p < j → j < z → dartF E v (ge C i) ≠ dartF E (ge C j) v := fun i j a b c d e => by
    have h1 := hA i a b
    have h2 := hA j (by omega) (by omega)
    rw [h2.2.2.2] at e
    have : (v : Int) = ge C j := by rw [← h1.2.1, e, h2.2.2.1]
    exact hN.new (by rw [this]; exact ge_mem (by omega))
  refine ⟨fun hk3 => ?_, fun i a b => ?_, fun d hd hor => ?_⟩
  · have hfin : decide (k + 3 = O.length) = false := decide_eq_false (by omega)
    have hpp := hA p (Nat.le_refl _) (by omega)
    have hzz := hA z (by omega) (Nat.le_refl _)
    obtain ⟨s1, _⟩ := hst _ hpp.1 (Or.inl ⟨hpp.2.1, by rw [hpp.2.2.1]; exact hmC p (Nat.le_refl _) (by omega)⟩)
    obtain ⟨s2, _⟩ := hst _ hzz.1 (Or.inl ⟨hzz.2.1, by rw [hzz.2.2.1]; exact hmC z (by omega) (Nat.le_refl _)⟩)
    rw [s1, s2, hfin]
    constructor
    · rcases put_lab hT hN (fin := false) (refK_len2 N E A O k) hpp.1 with ⟨i, a, b, e, _⟩ | ⟨_, ⟨_, e, e2⟩ | ⟨_, e, _⟩ | ⟨e, _⟩⟩
      · exact absurd e (hnev p i (Nat.le_refl _) (by omega) a b)
      · exact e2
      · exact absurd e hnepz
      · exact absurd rfl (e rfl).1
    · rcases put_lab hT hN (fin := false) (refK_len2 N E A O k) hzz.1 with ⟨i, a, b, e, _⟩ | ⟨_, ⟨_, e, _⟩ | ⟨_, e, e2⟩ | ⟨e, _⟩⟩
      · exact absurd e (hnev z i (by omega) (Nat.le_refl _) a b)
      · exact absurd e.symm hnepz
      · exact e2
      · exact absurd rfl (e rfl).2
  · have hi := hA i (by omega) (by omega)
    have hdi : isD E (dartF E (ge C i) v) := by rw [hi.2.2.2]; exact hi.1.oth
    have ht : tailE E (dartF E (ge C i) v) = ge C i ∧ tailE E (oth (dartF E (ge C i) v)) = v := by rw [hi.2.2.2, oth_oth]; exact ⟨hi.2.2.1, hi.2.1⟩
    obtain ⟨s1, _⟩ := hst _ hdi (Or.inr ⟨ht.2, by rw [ht.1]; exact hmC i (by omega) (by omega)⟩)
    rw [s1]
    rcases put_lab hT hN (fin := decide (k + 3 = O.length)) (refK_len2 N E A O k) hdi with ⟨_, _, _, _, e⟩ | ⟨e, _⟩
    · exact e
    · exact absurd rfl (e i a b)
  · obtain ⟨s1, s2⟩ := hst d hd hor
    rw [s1]
    rcases put_lab hT hN (fin := decide (k + 3 = O.length)) (refK_len2 N E A O k) hd with ⟨i, a, b, e, e2⟩ | ⟨_, ⟨f, e, e2⟩ | ⟨f, e, e2⟩ | ⟨_, e⟩⟩
    · exact Or.inr (Or.inr (Or.inr ⟨i, a, b, e, e2⟩))
    · have := of_decide_eq_false f
      exact Or.inr (Or.inl ⟨by omega, e, e2⟩)
    · have := of_decide_eq_false f
      exact Or.inr (Or.inr (Or.inl ⟨by omega, e, e2⟩))
    · rw [e]; exact Or.inl s2
end
end Go.Proofs.YtlealdicoceekaaDoor

/- Schnyder labelings of canonical orders, plain: the labels around the vertices of a peeling. -/
namespace Go.Proofs.YtlealdicoceekaaDoor
open Go.RowKit

/-- A row can be read from any place of a reading. -/
theorem rot_any {r p q S T : List Int} (hr : r = p ++ q) (hl : q ++ p = S ++ T) : ∃ p' q', r = p' ++ q' ∧ q' ++ p' = T ++ S := by
  rcases List.append_eq_append_iff.1 hl with ⟨a, h1, h2⟩ | ⟨a, h1, h2⟩
  · exact ⟨a, T ++ q, by rw [hr, h2, List.append_assoc], by rw [h1, List.append_assoc]⟩
  · exact ⟨p ++ S, a, by rw [hr, h1, List.append_assoc], by rw [h2, List.append_assoc]⟩
/-- The gone neighbours of an inner vertex of the contour: those that enter with 0, the parent in the tree 2, those that enter with 1. -/
def Gon (L : List Int) (G : List Int) : Prop := ∃ I0 o2 I1, G = I0 ++ o2 :: I1 ∧ lab L o2 = 2 ∧ (∀ d ∈ I0, lab L (oth d) = 0) ∧ ∀ d ∈ I1, lab L (oth d) = 1
def LabP (E : List (Int × Int)) (A : List (List Int)) (L : List Int) (a b : Int) : Prop :=
  tailE E b ∉ rts E A → ∀ X G p q, rowOf A (tailE E b).toNat = p ++ q → q ++ p = oth a :: (X ++ b :: G) → Gon L G
section
variable {N : Int} {E : List (Int × Int)} {A : List (List Int)} {O L : List Int}
/-- What comes next in a row. -/
theorem row_next (hV : vRot N E A) {b x y : Int} {p q X G : List Int} (hb : isD E b) (hr : rowOf A (tailE E b).toNat = p ++ q) (hl : q ++ p = x :: (X ++ y :: G)) : (G = [] ∧ sucF A y = x) ∨ ∃ c G', G = c :: G' ∧ sucF A y = c := by
  obtain ⟨hc, _, _⟩ := rot_row hV hb hr hl (by simp)
  have h2 := (Ch.app.1 (show Ch (sucF A) x (X ++ y :: G) x from hc)).2
  cases G with
  | nil => exact Or.inl ⟨rfl, h2⟩
  | cons c G' => exact Or.inr ⟨c, G', rfl, h2.1⟩
theorem lab_left (hT : trgB N E A = true) {go : Int → Prop} {e a y : Int} (hea : Fan E A go e a) (hP : LabP E A L e a) (hy : isD E y) (hs : sucF A y = a) (ht : tailE E y = tailE E a) (h0 : tailE E a ∉ rts E A → lab L (oth a) = 0) : LabP E A L e y := by
  have hV := trg_valid hT
  intro hi X G p q hr hl
  rw [ht] at hi
  obtain ⟨_, hn, _⟩ := rot_row hV hy hr hl (by simp)
  obtain ⟨he, ha, hea', X0, G0, p0, q0, hr0, hl0, _⟩ := hea
  obtain ⟨_, hn0, _⟩ := rot_row hV ha hr0 hl0 (by simp)
  rcases row_next hV hy hr hl with ⟨_, k⟩ | ⟨c, G', rfl, k⟩
  · exfalso
    rw [hs] at k
    rw [← k] at hn0
    simp at hn0
  · rw [hs] at k
    subst k
    obtain ⟨I0, o2, I1, e1, e2, e3, e4⟩ := hP hi (X ++ [y]) G' p q (by rw [← ht]; exact hr) (by rw [hl]; simp)
    refine ⟨a :: I0, o2, I1, by rw [e1]; rfl, e2, fun d hd => ?_, e4⟩
    rcases List.mem_cons.1 hd with rfl | hd
    · exact h0 hi
    · exact e3 d hd
theorem lab_right (hT : trgB N E A = true) {go : Int → Prop} {b f z : Int} (hbf : Fan E A go b f) (hP : LabP E A L b f) (hs : sucF A (oth b) = oth z) (h1 : tailE E f ∉ rts E A → lab L b = 1) : LabP E A L z f := by
  have hV := trg_valid hT
  intro hi X G p q hr hl
  obtain ⟨hb, hf, hbf', X0, G0, p0, q0, hr0, hl0, _⟩ := hbf
  obtain ⟨hc, hn, hm⟩ := rot_row hV hf hr hl (by simp)
  obtain ⟨_, hn0, _⟩ := rot_row hV hf hr0 hl0 (by simp)
  obtain ⟨T, w, hw⟩ := snoc_ex (oth z) (X ++ f :: G)
  have hwm : w ∈ oth z :: (X ++ f :: G) := by rw [hw]; simp
  have hwd := (hm w).1 hwm
  have hsw : sucF A w = oth z := by
    have hcc : Cyc (sucF A) (w :: T) := by
      have : Cyc (sucF A) (T ++ [w]) := by rw [← hw]; exact hc
      exact this.rot
    cases T with
    | nil =>
      have e1 : oth z = w := by simp at hw
      have : sucF A w = w := hcc
      rw [this, ← e1]
    | cons t T' =>
      have e1 : oth z = t := by simpa using (List.cons.inj hw).1
      have : sucF A w = t := hcc.1
      rw [this, e1]
  have hob : w = oth b := suc_inj hV hwd.1 hb.oth (by rw [hsw, hs])
  have hne : f ≠ oth b := fun k => by
    rw [← k] at hn0
    simp at hn0
  -- the dart back is the last one
  have hG : ∃ G', G = G' ++ [oth b] := by
    rcases List.eq_nil_or_concat G with k | ⟨G', c, k⟩
    · exfalso
      subst k
      have : (oth z :: X) ++ [f] = T ++ [w] := by rw [← hw]; simp
      have := (List.append_inj' this rfl).2
      simp at this
      exact hne (this.trans hob)
    · refine ⟨G', ?_⟩
      have k' : G = G' ++ [c] := by simpa using k
      subst k'
      have : (oth z :: (X ++ f :: G')) ++ [c] = T ++ [w] := by rw [← hw]; simp
      have := (List.append_inj' this rfl).2
      simp at this
      rw [this, hob]
  obtain ⟨G', rfl⟩ := hG
  obtain ⟨p', q', hr', hl'⟩ := rot_any (S := oth z :: (X ++ f :: G')) (T := [oth b]) hr (by rw [hl]; simp)
  obtain ⟨I0, o2, I1, e1, e2, e3, e4⟩ := hP hi (oth z :: X) G' p' q' hr' (by rw [hl']; simp)
  refine ⟨I0, o2, I1 ++ [oth b], by rw [e1]; simp, e2, e3, fun d hd => ?_⟩
  rcases List.mem_append.1 hd with hd | hd
  · exact e4 d hd
  · rw [List.mem_singleton.1 hd, oth_oth]; exact h1 hi
theorem lab_mid (hT : trgB N E A = true) {d y z : Int} (hd : isD E d) (hy : isD E y) (hs : sucF A y = oth d) (hs2 : sucF A (oth d) = oth z) (h2 : lab L (oth d) = 2) : LabP E A L z y := by
  have hV := trg_valid hT
  intro hi X G p q hr hl
  obtain ⟨hc, hn, hm⟩ := rot_row hV hy hr hl (by simp)
  rcases row_next hV hy hr hl with ⟨k0, k⟩ | ⟨c, G', rfl, k⟩
  · exfalso
    have : y = oth d := suc_inj hV hy hd.oth (by rw [k, hs2])
    rw [hs, ← this] at k
    rw [← k] at hn
    simp at hn
  · rw [hs] at k
    subst k
    rcases row_next hV hy (x := oth z) (X := X ++ [y]) (y := oth d) (G := G') hr (by rw [hl]; simp) with ⟨rfl, _⟩ | ⟨c, G2, rfl, k⟩
    · exact ⟨[], oth d, [], rfl, h2, (fun x hx => by cases hx), fun x hx => by cases hx⟩
    · exfalso
      rw [hs2] at k
      rw [← k] at hn
      simp at hn
theorem labs_mid (hT : trgB N E A = true) {v : Int} : ∀ {t : List Int} {x z : Int}, Ch (sucF A) x t z → (∀ d ∈ x :: t, isD E d ∧ tailE E d = v) → (∀ d ∈ t, lab L (oth d) = 2) → Fans (LabP E A L) (thd A x) (t.map (thd A))
  | [], _, _, _, _, _ => trivial
  | d :: t, x, z, hc, hD, h2 => by
    obtain ⟨c1, c2⟩ : sucF A x = d ∧ Ch (sucF A) d t z := hc
    have hx := hD x (by simp)
    have hd := hD d (by simp)
    obtain ⟨x1, x2, x3, x4, x5⟩ := thd_ok hT hx.1
    obtain ⟨d1, d2, d3, d4, d5⟩ := thd_ok hT hd.1
    rw [c1] at x3
    exact ⟨lab_mid hT hd.1 d1 d2 x3 (h2 d (by simp)), labs_mid hT c2 (fun f hf => hD f (List.mem_cons_of_mem _ hf)) (fun f hf => h2 f (List.mem_cons_of_mem _ hf))⟩
theorem take_lab (hT : trgB N E A = true) {go : Int → Prop} {L1 M : List Int} {a b f : Int} (h : Pee E A go (L1 ++ a :: b :: f :: M)) {X G p q : List Int} (hS : Spot E A go L1 a b f M X G p q)
    (hL : Fans (LabP E A L) 1 (L1 ++ a :: b :: f :: M)) (l0 : tailE E a ∉ rts E A → lab L (oth a) = 0) (l1 : tailE E f ∉ rts E A → lab L b = 1) (l2 : ∀ d ∈ X, lab L (oth d) = 2) : Fans (LabP E A L) 1 (L1 ++ ((oth a :: X).map (thd A) ++ f :: M)) := by
  have hV := trg_valid hT
  obtain ⟨hc, hn, hm⟩ := rot_row hV hS.db hS.row hS.rot (by simp)
  have hc' : Ch (sucF A) (oth a) (X ++ b :: G) (oth a) := hc
  obtain ⟨z, Z, hZ, hz⟩ := Ch.snd hc'
  obtain ⟨F1, F2⟩ := Fans.app.1 h.fans
  obtain ⟨hab, hbf, hfM⟩ := F2
  obtain ⟨K1, K2⟩ := Fans.app.1 hL
  obtain ⟨kab, kbf, kfM⟩ := K2
  obtain ⟨W, e, hW⟩ := snoc_ex 1 L1
  obtain ⟨F1', hea⟩ := (Fans.snoc hW).1 F1
  obtain ⟨K1', kea⟩ := (Fans.snoc hW).1 K1
  obtain ⟨y1, y2, y3, y4, y5⟩ := thd_ok hT hS.da.oth
  rw [oth_oth] at y2 y4
  have hzm : z ∈ oth a :: X := by rw [hZ]; simp
  have hzd := (hm z).1 (by rcases List.mem_cons.1 hzm with k | k <;> simp [k])
  obtain ⟨z1, z2, z3, z4, z5⟩ := thd_ok hT hzd.1
  rw [hz] at z3
  show Fans (LabP E A L) 1 (L1 ++ thd A (oth a) :: (X.map (thd A) ++ f :: M))
  refine Fans.app.2 ⟨(Fans.snoc hW).2 ⟨K1', lab_left hT hea kea y1 y2 y4 l0⟩, Fans.app.2 ⟨(Fans.snoc (W := Z.map (thd A)) (e := thd A z) (by have := congrArg (List.map (thd A)) hZ; simpa using this)).2 ⟨labs_mid hT (z := b) (v := tailE E b) (Ch.app.1 hc').1 (fun d hd => ?_) l2, lab_right hT hbf kbf z3 l1⟩, kfM⟩⟩
  have hd' : d = oth a ∨ d ∈ X := by simpa using hd
  exact (hm d).1 (by rcases hd' with k | k <;> simp [k])

/-- A peeling, from the vertices ord and the contour D on: it takes R. -/
inductive Peels (E : List (Int × Int)) (A : List (List Int)) : List Int → List Int → List Int → Prop
  | fin {ord : List Int} {a b f : Int} {G p q : List Int} : Pee E A (fun x => x ∈ ord) [a, b, f] → Spot E A (fun x => x ∈ ord) [] a b f [] [] G p q → Peels E A ord [a, b, f] [tailE E b]
  | take {ord L1 M X G p q R : List Int} {a b f : Int} : Pee E A (fun x => x ∈ ord) (L1 ++ a :: b :: f :: M) → (∀ d, isD E d → tailE E d = tailE E b → ∀ x, x ∈ L1 ∨ x ∈ M → tailE E (oth d) ≠ tailE E x) → Spot E A (fun x => x ∈ ord) L1 a b f M X G p q →
      (L1 ≠ [] ∨ M ≠ [] ∨ X ≠ []) → Peels E A (ord ++ [tailE E b]) (L1 ++ ((oth a :: X).map (thd A) ++ f :: M)) R → Peels E A ord (L1 ++ a :: b :: f :: M) (tailE E b :: R)
theorem fin_rest (hT : trgB N E A = true) {ord : List Int} {a b f : Int} {G p q : List Int} (hP : Pee E A (fun x => x ∈ ord) [a, b, f]) (hS : Spot E A (fun x => x ∈ ord) [] a b f [] [] G p q) (hn : ord.Nodup) (hr : ∀ u ∈ ord, 0 ≤ u ∧ u < (A.length : Int)) :
    Rest E A ord [tailE E b] ([a, b, f].map (tailE E)) ∧ tailE E a = tailE E 0 ∧ f = 1 ∧ [tailE E a, tailE E f] = [tailE E 0, tailE E 1] := by
  have hV := trg_valid hT
  have hends := ends_in (L1 := []) (M := []) hP
  have he1 : f = 1 := hends.2.2.2.2.2 rfl
  subst he1
  have hta := hends.2.2.2.2.1 rfl
  have hbo : tailE E b ∉ ord := hP.ng b (by simp)
  have hn' : (ord ++ [tailE E b]).Nodup := List.nodup_append.2 ⟨hn, by simp, fun x hx y hy k => by rw [List.mem_singleton.1 hy] at k; exact hbo (k ▸ hx)⟩
  have hr' : ∀ u ∈ ord ++ [tailE E b], 0 ≤ u ∧ u < (A.length : Int) := fun u hu => by
    rcases List.mem_append.1 hu with k | k
    · exact hr u k
    · rw [List.mem_singleton.1 k]; exact head_in hV hS.db
  refine ⟨?_, hta, rfl, by rw [hta]⟩
  have hC : ([] ++ ((oth a :: []).map (thd A) ++ (1 : Int) :: [])).map (tailE E) = [tailE E 0, tailE E 1] := by
    rw [new_tails hT hS]
    simp [hta]
  refine Rest.back (L1 := []) (M := []) hT hP (fun d hd ht x hx => by rcases hx with k | k <;> cases k) hS ?_
  rw [hC]
  have hall := fin_all hT hP hS
  refine ⟨by rw [List.append_nil]; exact hn', by rw [List.append_nil]; exact hr', ?_, ?_, ?_, rfl⟩
  · rw [List.append_nil, List.mem_append, List.mem_singleton]
    rintro (k | k)
    · rw [← hta] at k; exact hP.ng a (by simp) k
    · exact hends.2.2.1 k
  · rw [List.append_nil, List.mem_append, List.mem_singleton]
    rintro (k | k)
    · exact hP.ng 1 (by simp) k
    · exact hends.2.2.2.1 k
  · intro u u0 u1
    rw [List.append_nil, List.mem_append, List.mem_singleton]
    rcases hall u u0 u1 with k | k | k | k
    · exact Or.inr (Or.inr (Or.inl k))
    · exact Or.inl (k.trans hta)
    · exact Or.inr (Or.inr (Or.inr k))
    · exact Or.inr (Or.inl k)
theorem take_nd (hT : trgB N E A = true) {ord L1 M X G p q : List Int} {a b f : Int} (hP : Pee E A (fun x => x ∈ ord) (L1 ++ a :: b :: f :: M)) (hS : Spot E A (fun x => x ∈ ord) L1 a b f M X G p q) (hn : ord.Nodup) (hr : ∀ u ∈ ord, 0 ≤ u ∧ u < (A.length : Int)) :
    (ord ++ [tailE E b]).Nodup ∧ ∀ u ∈ ord ++ [tailE E b], 0 ≤ u ∧ u < (A.length : Int) := by
  have hbo : tailE E b ∉ ord := hP.ng b (by simp)
  refine ⟨List.nodup_append.2 ⟨hn, by simp, fun x hx y hy k => by rw [List.mem_singleton.1 hy] at k; exact hbo (k ▸ hx)⟩, fun u hu => ?_⟩
  rcases List.mem_append.1 hu with k | k
  · exact hr u k
  · rw [List.mem_singleton.1 k]; exact head_in (trg_valid hT) hS.db
theorem peels_rest (hT : trgB N E A = true) {ord D R : List Int} (h : Peels E A ord D R) : ord.Nodup → (∀ u ∈ ord, 0 ≤ u ∧ u < (A.length : Int)) → Rest E A ord R (D.map (tailE E)) := by
  induction h with
  | fin hP hS => exact fun hn hr => (fin_rest hT hP hS hn hr).1
  | take hP hfr hS hne _ ih =>
    intro hn hr
    obtain ⟨n1, n2⟩ := take_nd hT hP hS hn hr
    exact Rest.back hT hP hfr hS (ih n1 n2)
theorem peels_head {ord D R : List Int} (h : Peels E A ord D R) : ∃ w R', R = w :: R' ∧ w ∈ D.map (tailE E) := by
  cases h with
  | fin hP hS => exact ⟨_, _, rfl, by simp⟩
  | take hP _ _ _ _ => exact ⟨_, _, rfl, by simp⟩
/-- What a peeling takes, read from the end, is a canonical order. -/
theorem peels_chk (hT : trgB N E A = true) {D R : List Int} (h : Peels E A [] D R) (hD : D.map (tailE E) = peel0 N E A) : chkO N E A (tailE E 0 :: tailE E 1 :: R.reverse) = true := by
  have hV := trg_valid hT
  have hal := hV.al
  have hN3 := trg_three hT
  obtain ⟨r1, r2, r3, r4, r5, r6⟩ := peels_rest hT h (by simp) (fun u hu => by cases hu)
  obtain ⟨w, R', rfl, hw⟩ := peels_head h
  rw [hD] at hw
  rw [List.nil_append] at r1 r2 r3 r4
  simp only [List.nil_append] at r5
  obtain ⟨i0, i1⟩ := dart01 hT
  have e0 : tailF N E A 0 = tailE E 0 := tailF_eq hV i0
  have e1 : tailF N E A 1 = tailE E 1 := tailF_eq hV i1
  have hw2 : w = thirdF N E A := by
    unfold peel0 at hw
    simp only [List.mem_cons, List.not_mem_nil, or_false] at hw
    rcases hw with k | k | k
    · exact absurd (by rw [← e0, ← k]; simp) r3
    · exact k
    · exact absurd (by rw [← e1, ← k]; simp) r4
  have h01 := ends_01 hT
  obtain ⟨O, hO'⟩ : ∃ O, O = tailE E 0 :: tailE E 1 :: (w :: R').reverse := ⟨_, rfl⟩
  have hnd : O.Nodup := by
    rw [hO']
    refine List.nodup_cons.2 ⟨fun k => ?_, List.nodup_cons.2 ⟨fun k => ?_, ((List.reverse_perm (w :: R')).nodup_iff).2 r1⟩⟩
    · rcases List.mem_cons.1 k with k | k
      · exact h01 k
      · exact r3 (List.mem_reverse.1 k)
    · exact r4 (List.mem_reverse.1 k)
  have hmem : ∀ u, u ∈ O ↔ 0 ≤ u ∧ u < (A.length : Int) := fun u => by
    rw [hO', List.mem_cons, List.mem_cons, List.mem_reverse]
    constructor
    · rintro (k | k | k)
      · rw [k]; exact head_in hV i0
      · rw [k]; exact head_in hV i1
      · exact r2 u k
    · rintro ⟨k1, k2⟩
      exact r5 u k1 k2
  have hOl : O.length = A.length := Nat.le_antisymm (nodup_len hnd (fun u hu => (hmem u).1 hu)) (by
    have := List.Nodup.length_le_of_subset (idL_nodup A.length) (l₂ := O) (fun u hu => (hmem u).2 (mem_idL.1 hu))
    rwa [idL_len] at this)
  rw [← chk_same, ← hO', chkR_iff]
  have hRl : R'.length + 3 = A.length := by rw [← hOl, hO']; simp
  refine ⟨hT, by omega, ⟨by rw [List.take_length]; exact hnd, fun u hu => by rw [List.take_length] at hu; have := (hmem u).1 hu; omega⟩, ⟨by rw [hO', e0]; rfl, by rw [hO', e1]; rfl, ?_⟩, ?_⟩
  · rw [third_same hT, ← hw2, hO', show (N - 1).toNat = (tailE E 0 :: tailE E 1 :: R'.reverse).length by simp; omega, List.reverse_cons, ← List.cons_append, ← List.cons_append]
    exact ge_mid _ [] _
  · rw [hO', show (N - 2).toNat = (w :: R').length by simp; omega, r6]
    rfl
end
end Go.Proofs.YtlealdicoceekaaDoor

/- The labels of a canonical order that comes from a peeling are a Schnyder labeling, plain; what is one passes the check. -/
namespace Go.Proofs.YtlealdicoceekaaDoor
open Go.RowKit

section
variable {N : Int} {E : List (Int × Int)} {A : List (List Int)} {O : List Int}
/-- The labels at the vertex that is taken. -/
theorem node_data (h : chkO N E A O = true) {go : Int → Prop} {L1 M X G p q : List Int} {a b f : Int} (hP : Pee E A go (L1 ++ a :: b :: f :: M)) (hS : Spot E A go L1 a b f M X G p q) {k : Nat} (hk : k + 2 < O.length) (hv : ge O (k + 2) = tailE E b)
    (hC : contP N E A O k = some (L1.map (tailE E) ++ (tailE E a :: (X.map (fun d => tailE E (oth d)) ++ (f :: M).map (tailE E))))) (hC1 : contP N E A O (k + 1) = some ((L1 ++ a :: b :: f :: M).map (tailE E))) :
    (tailE E a ∉ rts E A ∨ tailE E f ∉ rts E A → k + 3 < O.length) ∧ (k + 3 < O.length → lab (refK N E A O (O.length - 2)) (oth a) = 0 ∧ lab (refK N E A O (O.length - 2)) b = 1) ∧ ∀ d ∈ X, lab (refK N E A O (O.length - 2)) (oth d) = 2 := by
  obtain ⟨hT, hl, ⟨h0, h1, h2⟩, hc⟩ := chkO_iff.1 h
  have hV := trg_valid hT
  obtain ⟨C, v, p', z, hN⟩ := new_v h hk
  have hvb : tailE E b = (v : Int) := by rw [← hv, hN.hv]
  have hCe : C = L1.map (tailE E) ++ (tailE E a :: (X.map (fun d => tailE E (oth d)) ++ (f :: M).map (tailE E))) := by
    have := hN.con
    rw [hC] at this
    exact (Option.some.inj this).symm
  have hD : (L1 ++ a :: b :: f :: M).map (tailE E) = C.take (p' + 1) ++ (v : Int) :: C.drop z := by
    have := hN.nxt
    rw [hC1] at this
    exact Option.some.inj this
  have hvC : (v : Int) ∉ C := hN.new
  have hsp := split_uniq (b := (v : Int)) (X := L1.map (tailE E) ++ [tailE E a]) (X' := C.take (p' + 1)) (G := (f :: M).map (tailE E)) (G' := C.drop z) (by
    rw [← hD, ← hvb]; simp) (fun hm => hvC (by
    rw [hCe]
    rcases List.mem_append.1 hm with k | k
    · exact List.mem_append_left _ k
    · rw [List.mem_singleton.1 k]; simp)) (fun hm => hvC (List.mem_of_mem_take hm))
  have hCl : C.length = L1.length + X.length + M.length + 2 := by rw [hCe]; simp; omega
  have hp : p' = L1.length := by
    have := congrArg List.length hsp.1
    rw [List.length_take, List.length_append, List.length_map, List.length_singleton] at this
    have := hN.ql; have := hN.pq
    omega
  have hz : z = L1.length + 1 + X.length := by
    have := congrArg List.length hsp.2
    rw [List.length_drop, List.length_map, List.length_cons] at this
    have := hN.ql
    omega
  have ga : ge C p' = tailE E a := by
    rw [hCe, hp, ← List.length_map (f := tailE E)]
    exact ge_mid _ _ _
  have gf : ge C z = tailE E f := by
    have e : C = (L1.map (tailE E) ++ (tailE E a :: X.map (fun d => tailE E (oth d)))) ++ tailE E f :: M.map (tailE E) := by rw [hCe]; simp
    have e2 : z = (L1.map (tailE E) ++ (tailE E a :: X.map (fun d => tailE E (oth d)))).length := by rw [hz]; simp; omega
    rw [e2, e]
    exact ge_mid _ _ _
  have gx : ∀ j, j < X.length → ge C (p' + 1 + j) = tailE E (oth (ge X j)) := fun j hj => by
    have e : C = (L1.map (tailE E) ++ [tailE E a]) ++ (X.map (fun d => tailE E (oth d)) ++ (f :: M).map (tailE E)) := by rw [hCe]; simp
    have e2 : p' + 1 + j = (L1.map (tailE E) ++ [tailE E a]).length + j := by rw [hp]; simp
    rw [e2, e, geA_r, geA_l _ (by rw [List.length_map]; exact hj), ge_eq _ (by rw [List.length_map]; exact hj), List.getElem_map, ← ge_eq X hj]
  obtain ⟨hc', hn', hm⟩ := rot_row hV hS.db hS.row hS.rot (by simp)
  obtain ⟨l1, l2, _⟩ := lab_at h hk hN
  have da : dartF E v (ge C p') = oth a := by
    rw [ga, ← hvb]
    exact dartF_eq hT hS.da.oth hS.ta (by rw [oth_oth])
  have df : dartF E v (ge C z) = b := by
    rw [gf, ← hvb]
    exact dartF_eq hT hS.db rfl hS.tf
  refine ⟨fun hor => ?_, fun hk3 => ?_, fun d hd => ?_⟩
  · apply Classical.byContradiction
    intro hn3
    obtain ⟨D, hD1, hG⟩ := cont_goes h (j := k + 1) (by omega)
    rw [hC1] at hD1
    have hDe := Option.some.inj hD1
    have hfin := hG.fin (by omega)
    have hro := rts_ord hT h
    have hlen : (L1 ++ a :: b :: f :: M).length = 3 := by rw [← hfin.1, ← hDe, List.length_map]
    have hL0 : L1 = [] := List.length_eq_zero_iff.1 (by simp at hlen; omega)
    have hM0 : M = [] := List.length_eq_zero_iff.1 (by simp at hlen; omega)
    subst hL0 hM0
    have e0 := hG.fst
    have e1 := hG.lst
    rw [← hDe] at e0 e1
    have e0' : tailE E a = ge O 0 := e0
    have e1' : tailE E f = ge O 1 := e1
    rcases hor with k | k
    · exact k (by rw [e0', hro]; simp)
    · exact k (by rw [e1', hro]; simp)
  · have := l1 hk3
    rw [da, df] at this
    exact this
  · obtain ⟨j, hj, rfl⟩ := mem_ge.1 hd
    have hdd := (hm (ge X j)).1 (by simp [ge_mem hj])
    have := l2 (p' + 1 + j) (by omega) (by omega)
    rw [gx j hj, ← hvb, dartF_eq hT hdd.1.oth rfl (by rw [oth_oth]; exact hdd.2)] at this
    exact this
theorem ord_mem (h : chkO N E A O = true) {u : Int} (h0 : 0 ≤ u) (h1 : u < (A.length : Int)) : ∃ i, i < O.length ∧ ge O i = u := by
  obtain ⟨hT, hl, _, _⟩ := chkO_iff.1 h
  have hal := (trg_valid hT).al
  have hF := (chkR_iff.1 (chk_same.trans h)).2.2.1
  have hn := hF.1
  have hr := hF.2
  rw [List.take_length] at hn hr
  have hm : u ∈ O := by
    apply Classical.byContradiction
    intro hno
    have := nodup_len (n := A.length) (List.nodup_cons.2 ⟨hno, hn⟩) (fun x hx => by
      rcases List.mem_cons.1 hx with rfl | hx
      · exact ⟨h0, h1⟩
      · have := hr x hx; omega)
    simp only [List.length_cons] at this
    omega
  obtain ⟨i, hi, e⟩ := mem_ge.1 hm
  exact ⟨i, hi, e⟩
theorem ord_take (h : chkO N E A O = true) {i k : Nat} (hi : i < O.length) (hk : k ≤ O.length) : ge O i ∈ O.take k ↔ i < k := by
  have hF := (chkR_iff.1 (chk_same.trans h)).2.2.1
  constructor
  · intro hm
    obtain ⟨j, hj, e⟩ := mem_ge.1 hm
    rw [List.length_take] at hj
    have e2 : ge (O.take k) j = ge O j := by
      unfold ge
      simp only [List.getD_eq_getElem?_getD]
      rw [List.getElem?_take, if_pos (by omega)]
    rw [e2] at e
    have := fine_inj hF (by omega) hi e
    omega
  · intro hik
    have e2 : ge (O.take k) i = ge O i := by
      unfold ge
      simp only [List.getD_eq_getElem?_getD]
      rw [List.getElem?_take, if_pos (by omega)]
    rw [← e2]
    exact ge_mem (by rw [List.length_take]; omega)
/-- A contour's places: the first two vertices of the order stand at its ends only, the last one nowhere. -/
theorem con_ends (h : chkO N E A O = true) {k : Nat} {C : List Int} {v p z : Nat} (hk : k + 2 < O.length) (hN : NewV N E A O k C v p z) {i : Nat} (hi : i < C.length) :
    (ge C i = ge O 0 → i = 0) ∧ (ge C i = ge O 1 → i + 1 = C.length) ∧ ge C i ≠ ge O (O.length - 1) := by
  have hnd := hN.gos.nd
  have h2 := hN.gos.two
  refine ⟨fun e => ?_, fun e => ?_, fun e => ?_⟩
  · rw [← hN.gos.fst, ge_eq C hi, ge_eq C (by omega)] at e
    exact (List.getElem_inj hnd).1 e
  · rw [← hN.gos.lst, ge_eq C hi, ge_eq C (by omega)] at e
    have := (List.getElem_inj hnd).1 e
    omega
  · have hm := con_sub h (by omega) hN.con _ (ge_mem hi)
    rw [e, ord_take h (by omega) (by omega)] at hm
    omega
theorem new_last (h : chkO N E A O = true) {k : Nat} {C : List Int} {v p z : Nat} (hk : k + 3 = O.length) (hN : NewV N E A O k C v p z) : ge C p = ge O 0 ∧ ge C z = ge O 1 := by
  have hl := (chkO_iff.1 h).2.1
  obtain ⟨D, hD, hG⟩ := cont_goes h (j := k + 1) (by omega)
  rw [hN.nxt] at hD
  have hDe := Option.some.inj hD
  have hfin := hG.fin (by omega)
  have hpz := hN.pq
  have hzl := hN.ql
  have hlen : (C.take (p + 1) ++ (v : Int) :: C.drop z).length = 3 := by rw [← hfin.1, ← hDe]
  rw [List.length_append, List.length_take, List.length_cons, List.length_drop] at hlen
  have hp0 : p = 0 := by omega
  have hzc : z = C.length - 1 := by omega
  exact ⟨by rw [hp0]; exact hN.gos.fst, by rw [hzc]; exact hN.gos.lst⟩
/-- The labels of the two darts of an edge. -/
structure EdL (N : Int) (E : List (Int × Int)) (A : List (List Int)) (O : List Int) (d : Int) : Prop where
  opp : lab (refK N E A O (O.length - 2)) (oth d) = -1
  ex : ∃ k C v p z, k + 2 < O.length ∧ NewV N E A O k C v p z ∧ ((k + 3 < O.length ∧ d = dartF E v (ge C p) ∧ tailE E d = v ∧ tailE E (oth d) = ge C p ∧ lab (refK N E A O (O.length - 2)) d = 0) ∨
    (k + 3 < O.length ∧ d = dartF E v (ge C z) ∧ tailE E d = v ∧ tailE E (oth d) = ge C z ∧ lab (refK N E A O (O.length - 2)) d = 1) ∨ ∃ i, p < i ∧ i < z ∧ d = dartF E (ge C i) v ∧ tailE E d = ge C i ∧ tailE E (oth d) = v ∧ lab (refK N E A O (O.length - 2)) d = 2)
theorem edl_new (h : chkO N E A O = true) {k : Nat} {d : Int} (hd : isD E d) (hk : k + 2 < O.length) (ht : tailE E d = ge O (k + 2)) (hh : tailE E (oth d) ∈ O.take (k + 2)) (hn : ¬ (tailE E d ∈ rts E A ∧ tailE E (oth d) ∈ rts E A)) : EdL N E A O d ∨ EdL N E A O (oth d) := by
  obtain ⟨hT, hl, ⟨h0, h1, h2⟩, hc⟩ := chkO_iff.1 h
  have hro := rts_ord hT h
  obtain ⟨C, v, p, z, hN⟩ := new_v h hk
  have hpz := hN.pq
  have hzl := hN.ql
  rw [hN.hv] at ht
  obtain ⟨i, hi, hu⟩ := nbr_at h hk hN hh (by
    rw [join_nbr, ← ht]
    exact nbr_dart hd.1 hd.2)
  obtain ⟨a1, a2, a3, a4⟩ := hN.drt i hi
  have hde : dartF E v (ge C (p + i)) = d := dartF_eq hT hd ht hu
  rw [hde] at a1 a2 a3 a4
  obtain ⟨l1, l2, l3⟩ := lab_at h hk hN
  have hvC : ∀ j, j < C.length → ge C j ≠ v := fun j hj e => hN.new (by rw [← e]; exact ge_mem hj)
  have hinj : ∀ i j, i < C.length → j < C.length → ge C i = ge C j → i = j := fun i j hi hj e => by
    rw [ge_eq C hi, ge_eq C hj] at e
    exact (List.getElem_inj hN.gos.nd).1 e
  have hA : ∀ i, p ≤ i → i ≤ z → isD E (dartF E v (ge C i)) ∧ tailE E (dartF E v (ge C i)) = v ∧ tailE E (oth (dartF E v (ge C i))) = ge C i ∧ dartF E (ge C i) v = oth (dartF E v (ge C i)) := fun i h1 h2 => by
    have := hN.drt (i - p) (by omega)
    rwa [show p + (i - p) = i by omega] at this
  by_cases hmid : 0 < i ∧ i < z - p
  · right
    have e2 : dartF E (ge C (p + i)) v = oth d := a4
    refine ⟨?_, k, C, v, p, z, hk, hN, Or.inr (Or.inr ⟨p + i, by omega, by omega, e2.symm, hu, by rw [oth_oth]; exact ht, ?_⟩)⟩
    · rw [oth_oth]
      rcases l3 d hd (Or.inl ⟨ht, hh⟩) with k1 | ⟨_, k1, _⟩ | ⟨_, k1, _⟩ | ⟨j, j1, j2, k1, _⟩
      · exact k1
      · exfalso
        have := (hA p (Nat.le_refl _) (by omega)).2.2.1
        rw [← k1, a3] at this
        have := hinj _ _ (by omega) (by omega) this
        omega
      · exfalso
        have := (hA z (by omega) (Nat.le_refl _)).2.2.1
        rw [← k1, a3] at this
        have := hinj _ _ (by omega) (by omega) this
        omega
      · exfalso
        have hj := hA j (by omega) (by omega)
        rw [hj.2.2.2] at k1
        have : tailE E d = ge C j := by rw [k1]; exact hj.2.2.1
        exact hvC j (by omega) (by rw [← this, ht])
    · rw [← e2]; exact l2 (p + i) (by omega) (by omega)
  · left
    have hk3 : k + 3 < O.length := by
      apply Classical.byContradiction
      intro hk3
      obtain ⟨n1, n2⟩ := new_last h (k := k) (by omega) hN
      apply hn
      constructor
      · rw [ht, ← hN.hv, hro, show k + 2 = O.length - 1 by omega]; simp
      · rw [hu, hro]
        rcases (by omega : i = 0 ∨ i = z - p) with e | e
        · rw [e, Nat.add_zero, n1]; simp
        · rw [e, show p + (z - p) = z by omega, n2]; simp
    have hopp : lab (refK N E A O (O.length - 2)) (oth d) = -1 := by
      rcases l3 (oth d) hd.oth (Or.inr ⟨by rw [oth_oth]; exact ht, hh⟩) with k1 | ⟨_, k1, _⟩ | ⟨_, k1, _⟩ | ⟨j, j1, j2, k1, _⟩
      · exact k1
      · exfalso
        have := (hA p (Nat.le_refl _) (by omega)).2.1
        rw [← k1, hu] at this
        exact hvC _ (by omega) this
      · exfalso
        have := (hA z (by omega) (Nat.le_refl _)).2.1
        rw [← k1, hu] at this
        exact hvC _ (by omega) this
      · exfalso
        have hj := hA j (by omega) (by omega)
        rw [hj.2.2.2] at k1
        have e3 : tailE E (oth d) = ge C j := by rw [k1]; exact hj.2.2.1
        rw [hu] at e3
        have := hinj _ _ (by omega) (by omega) e3
        omega
    obtain ⟨m1, m2⟩ := l1 hk3
    rcases (by omega : i = 0 ∨ i = z - p) with e | e
    · rw [e, Nat.add_zero] at hde hu
      exact ⟨hopp, k, C, v, p, z, hk, hN, Or.inl ⟨hk3, hde.symm, ht, hu, by rw [← hde]; exact m1⟩⟩
    · rw [e, show p + (z - p) = z by omega] at hde hu
      exact ⟨hopp, k, C, v, p, z, hk, hN, Or.inr (Or.inl ⟨hk3, hde.symm, ht, hu, by rw [← hde]; exact m2⟩)⟩
theorem edl_or (h : chkO N E A O = true) {d : Int} (hd : isD E d) (hn : ¬ (tailE E d ∈ rts E A ∧ tailE E (oth d) ∈ rts E A)) : EdL N E A O d ∨ EdL N E A O (oth d) := by
  have hT := (chkO_iff.1 h).1
  have hV := trg_valid hT
  have hro := rts_ord hT h
  have r1 := head_in hV hd
  have r2 := head_in hV hd.oth
  obtain ⟨i, hi, ei⟩ := ord_mem h r1.1 r1.2
  obtain ⟨j, hj, ej⟩ := ord_mem h r2.1 r2.2
  have hne : i ≠ j := fun e => by
    subst e
    exact cho_ne hV (c := fun _ => tailE E d) (s := 0) (t := 0) ⟨d, hd, rfl, ej.symm.trans ei⟩ rfl
  have hle : ∀ i : Nat, i ≤ 1 → ge O i ∈ rts E A := fun i hi => by
    rw [hro]
    rcases (by omega : i = 0 ∨ i = 1) with rfl | rfl <;> simp
  by_cases hb : i ≤ 1 ∧ j ≤ 1
  · exact absurd ⟨by rw [← ei]; exact hle i hb.1, by rw [← ej]; exact hle j hb.2⟩ hn
  · rcases Nat.lt_or_ge j i with hlt | hge
    · obtain ⟨k, rfl⟩ : ∃ k, i = k + 2 := ⟨i - 2, by omega⟩
      exact edl_new h hd hi ei.symm (by rw [← ej]; exact (ord_take h hj (by omega)).2 hlt) hn
    · obtain ⟨k, rfl⟩ : ∃ k, j = k + 2 := ⟨j - 2, by omega⟩
      have := edl_new h hd.oth hj ej.symm (by rw [oth_oth, ← ei]; exact (ord_take h hi (by omega)).2 (by omega)) (by rw [oth_oth]; exact fun k => hn ⟨k.2, k.1⟩)
      rw [oth_oth] at this
      exact this.symm
theorem EdL.pos {d : Int} (h : EdL N E A O d) : 0 ≤ lab (refK N E A O (O.length - 2)) d := by
  obtain ⟨_, k, C, v, p, z, _, _, ⟨_, _, _, _, e⟩ | ⟨_, _, _, _, e⟩ | ⟨_, _, _, _, _, _, e⟩⟩ := h <;> omega
theorem lab_one (h : chkO N E A O = true) {d : Int} (hd : isD E d) (hn : ¬ (tailE E d ∈ rts E A ∧ tailE E (oth d) ∈ rts E A)) : lab (refK N E A O (O.length - 2)) d = -1 ↔ lab (refK N E A O (O.length - 2)) (oth d) ≠ -1 := by
  rcases edl_or h hd hn with k | k
  · have h1 := k.opp
    have h2 := k.pos
    omega
  · have h1 := k.opp
    rw [oth_oth] at h1
    have h2 := k.pos
    omega
theorem lab_out (h : chkO N E A O = true) {d : Int} (hd : isD E d) (ha : tailE E d ∈ rts E A) (hb : tailE E (oth d) ∈ rts E A) : lab (refK N E A O (O.length - 2)) d = -1 := by
  obtain ⟨hT, hl, _, _⟩ := chkO_iff.1 h
  have hV := trg_valid hT
  have hN3 := trg_three hT
  have hro := rts_ord hT h
  have hne : tailE E d ≠ tailE E (oth d) := fun e => cho_ne hV (c := fun _ => tailE E d) (s := 0) (t := 0) ⟨d, hd, rfl, e.symm⟩ rfl
  have hix : ∀ u, u ∈ rts E A → ∃ i, (i = 0 ∨ i = 1 ∨ i = O.length - 1) ∧ ge O i = u := fun u hu => by
    rw [hro] at hu
    simp only [List.mem_cons, List.not_mem_nil, or_false] at hu
    rcases hu with rfl | rfl | rfl
    · exact ⟨0, by simp, rfl⟩
    · exact ⟨1, by simp, rfl⟩
    · exact ⟨O.length - 1, by simp, rfl⟩
  obtain ⟨i, hi, ei⟩ := hix _ ha
  obtain ⟨j, hj, ej⟩ := hix _ hb
  have hij : i ≠ j := fun e => hne (by rw [← ei, ← ej, e])
  by_cases h2 : i ≤ 1 ∧ j ≤ 1
  · have := lab_stay h (k := 0) hd (by rw [← ei]; exact (ord_take h (by omega) (by omega)).2 (by omega)) (by rw [← ej]; exact (ord_take h (by omega) (by omega)).2 (by omega)) (O.length - 2) (by omega)
    rw [Nat.zero_add] at this
    rw [this]
    unfold refK lab
    rw [ge_eq _ (by rw [List.length_replicate]; have := hd.1; have := hd.2; omega)]
    simp
  · obtain ⟨k, hk⟩ : ∃ k, k + 3 = O.length := ⟨O.length - 3, by omega⟩
    obtain ⟨C, v, p, z, hN⟩ := new_v h (k := k) (by omega)
    have hv := hN.hv
    have hpz := hN.pq
    have hzl := hN.ql
    have hA : ∀ i, p ≤ i → i ≤ z → isD E (dartF E v (ge C i)) ∧ tailE E (dartF E v (ge C i)) = v ∧ tailE E (oth (dartF E v (ge C i))) = ge C i ∧ dartF E (ge C i) v = oth (dartF E v (ge C i)) := fun i h1 h2 => by
      have := hN.drt (i - p) (by omega)
      rwa [show p + (i - p) = i by omega] at this
    have hcase : (tailE E d = v ∧ tailE E (oth d) ∈ O.take (k + 2)) ∨ (tailE E (oth d) = v ∧ tailE E d ∈ O.take (k + 2)) := by
      by_cases hi1 : i ≤ 1
      · right
        refine ⟨by rw [← ej, ← hv]; congr 1; omega, by rw [← ei]; exact (ord_take h (by omega) (by omega)).2 (by omega)⟩
      · left
        refine ⟨by rw [← ei, ← hv]; congr 1; omega, by rw [← ej]; exact (ord_take h (by omega) (by omega)).2 (by omega)⟩
    obtain ⟨_, _, l3⟩ := lab_at h (by omega) hN
    rcases l3 d hd hcase with k1 | ⟨k1, _⟩ | ⟨k1, _⟩ | ⟨s, s1, s2, k1, _⟩
    · exact k1
    · omega
    · omega
    · exfalso
      have hs := hA s (by omega) (by omega)
      rw [hs.2.2.2] at k1
      have e3 : tailE E d = ge C s := by rw [k1]; exact hs.2.2.1
      have ce := con_ends h (by omega) hN (i := s) (by omega)
      rw [← e3, ← ei] at ce
      rcases hi with rfl | rfl | rfl
      · have := ce.1 rfl; omega
      · have := ce.2.1 rfl; omega
      · exact ce.2.2 rfl
theorem lab_sch (h : chkO N E A O = true) (hvx : ∀ v : Nat, v < A.length → (v : Int) ∉ rts E A → ∃ p q, rowOf A v = p ++ q ∧ Turn (refK N E A O (O.length - 2)) (q ++ p)) : Sch E A (refK N E A O (O.length - 2)) := by
  obtain ⟨hT, hl, _, _⟩ := chkO_iff.1 h
  have hN3 := trg_three hT
  have hro := rts_ord hT h
  have hF := (chkR_iff.1 (chk_same.trans h)).2.2.1
  have h01 : ge O 0 ≠ ge O 1 := fun e => by have := fine_inj hF (by omega) (by omega) e; omega
  have h02 : ge O 0 ≠ ge O (O.length - 1) := fun e => by have := fine_inj hF (by omega) (by omega) e; omega
  have h12 : ge O 1 ≠ ge O (O.length - 1) := fun e => by have := fine_inj hF (by omega) (by omega) e; omega
  have hvr : ∀ k, k + 3 < O.length → ge O (k + 2) ∉ rts E A := fun k hk hm => by
    rw [hro] at hm
    simp only [List.mem_cons, List.not_mem_nil, or_false] at hm
    rcases hm with e | e | e
    · have := fine_inj hF (by omega) (by omega) e; omega
    · have := fine_inj hF (by omega) (by omega) e; omega
    · have := fine_inj hF (by omega) (by omega) e; omega
  have hedge : ∀ d, isD E d → 0 ≤ lab (refK N E A O (O.length - 2)) d → EdL N E A O d := fun d hd h0 => by
    have hn : ¬ (tailE E d ∈ rts E A ∧ tailE E (oth d) ∈ rts E A) := fun k => by have := lab_out h hd k.1 k.2; omega
    rcases edl_or h hd hn with k | k
    · exact k
    · have := k.opp
      rw [oth_oth] at this
      omega
  have hrng : ∀ d, isD E d → -1 ≤ lab (refK N E A O (O.length - 2)) d ∧ lab (refK N E A O (O.length - 2)) d ≤ 2 := fun d hd => by
    have hl2 := refK_len2 N E A O (O.length - 2)
    unfold lab
    refine buildK_rng N E A O (O.length - 2) _ ?_
    rw [← refK_eq h _ (by omega)]
    exact ge_mem (by rw [hl2]; have := hd.1; have := hd.2; omega)
  refine ⟨refK_len2 _ _ _ _ _, hrng, fun d hd ha hb => lab_out h hd ha hb, fun d hd hn => lab_one h hd hn, fun d hd ht => ?_, fun d hd hh h0 => ?_, hvx⟩
  · have hr := hrng d hd
    apply Classical.byContradiction
    intro hne
    obtain ⟨_, k, C, v, p, z, hk, hN, hc⟩ := hedge d hd (by omega)
    have hpz := hN.pq
    have hzl := hN.ql
    rcases hc with ⟨k3, _, e, _⟩ | ⟨k3, _, e, _⟩ | ⟨i, i1, i2, _, e, _⟩
    · exact hvr k k3 (by rw [hN.hv, ← e]; exact ht)
    · exact hvr k k3 (by rw [hN.hv, ← e]; exact ht)
    · have ce := con_ends h hk hN (i := i) (by omega)
      rw [e, hro] at ht
      simp only [List.mem_cons, List.not_mem_nil, or_false] at ht
      rcases ht with e2 | e2 | e2
      · have := ce.1 e2; omega
      · have := ce.2.1 e2; omega
      · exact ce.2.2 e2
  · obtain ⟨_, k, C, v, p, z, hk, hN, hc⟩ := hedge d hd h0
    have hpz := hN.pq
    have hzl := hN.ql
    rw [hro] at hh ⊢
    simp only [List.mem_cons, List.not_mem_nil, or_false] at hh
    rcases hc with ⟨k3, _, _, e, l0⟩ | ⟨k3, _, _, e, l0⟩ | ⟨i, i1, i2, _, _, e, l0⟩
    · have ce := con_ends h hk hN (i := p) (by omega)
      rw [l0]
      rw [← e] at ce
      rcases hh with e2 | e2 | e2
      · rw [e2]; unfold idx; rw [if_pos rfl]
      · have := ce.2.1 e2; omega
      · exact absurd e2 ce.2.2
    · have ce := con_ends h hk hN (i := z) (by omega)
      rw [l0]
      rw [← e] at ce
      rcases hh with e2 | e2 | e2
      · have := ce.1 e2; omega
      · rw [e2]; simp [idx, h01.symm]
      · exact absurd e2 ce.2.2
    · rw [l0]
      rcases hh with e2 | e2 | e2
      · exfalso
        rw [e, ← hN.hv] at e2
        have := fine_inj hF (by omega) (by omega) e2; omega
      · exfalso
        rw [e, ← hN.hv] at e2
        have := fine_inj hF (by omega) (by omega) e2; omega
      · rw [e2]; simp [idx, h02.symm, h12.symm]
end
end Go.Proofs.YtlealdicoceekaaDoor

/- The labels of a peeling's order are a Schnyder labeling, and the program accepts them (plain). -/
namespace Go.Proofs.YtlealdicoceekaaDoor
open Go.RowKit

theorem runB_skip {L : List Int} {last lv : Nat} : ∀ {I ds : List Int}, (∀ d ∈ I, lab L d = -1 ∧ lab L (oth d) = ((last : Int) + 2) % 3) → runB L last lv (I ++ ds) = runB L last lv ds
  | [], _, _ => rfl
  | d :: I, ds, h => by
    have hd := h d (by simp)
    rw [List.cons_append]
    show (if 0 ≤ lab L d then _ else if lab L (oth d) = ((last : Int) + 2) % 3 then runB L last lv (I ++ ds) else false) = _
    rw [if_neg (by omega), if_pos hd.2]
    exact runB_skip fun x hx => h x (List.mem_cons_of_mem _ hx)
theorem runB_out {L : List Int} {last lv : Nat} {d : Int} {ds : List Int} (h : lab L d = (lv : Int)) : runB L last lv (d :: ds) = runB L lv (lv + 1) ds := by
  show (if 0 ≤ lab L d then (if lab L d = (lv : Int) then runB L lv (lv + 1) ds else false) else _) = _
  rw [if_pos (by omega), if_pos h]
theorem turn_run {L l : List Int} (h : Turn L l) : ∃ o0 T, l = o0 :: T ∧ lab L o0 = 0 ∧ (∀ d ∈ T, lab L d ≠ 0) ∧ runB L 0 0 l = true := by
  obtain ⟨o0, I2, o1, I0, o2, I1, rfl, l0, l1, l2, h2, h0, h1⟩ := h
  refine ⟨o0, _, rfl, l0, fun d hd => ?_, ?_⟩
  · simp only [List.mem_append, List.mem_cons] at hd
    rcases hd with k | rfl | k | rfl | k
    · have := (h2 d k).1; omega
    · omega
    · have := (h0 d k).1; omega
    · omega
    · have := (h1 d k).1; omega
  · rw [runB_out (by rw [l0]; rfl), runB_skip (fun d hd => ⟨(h2 d hd).1, by rw [(h2 d hd).2]; rfl⟩), runB_out (by rw [l1]; rfl), runB_skip (fun d hd => ⟨(h0 d hd).1, by rw [(h0 d hd).2]; rfl⟩), runB_out (by rw [l2]; rfl)]
    have := runB_skip (L := L) (last := 2) (lv := 3) (I := I1) (ds := []) (fun d hd => ⟨(h1 d hd).1, by rw [(h1 d hd).2]; rfl⟩)
    rw [List.append_nil] at this
    exact this.trans rfl
theorem turn_turns {A : List (List Int)} {L p q : List Int} {v : Nat} (hr : rowOf A v = p ++ q) (h : Turn L (q ++ p)) : turnsB A L v = true := by
  obtain ⟨p, q, hr, h, hq⟩ : ∃ p q, rowOf A v = p ++ q ∧ Turn L (q ++ p) ∧ q ≠ [] := by
    by_cases hq : q = []
    · subst hq
      obtain ⟨o0, T, e, _⟩ := turn_run h
      exact ⟨[], p, by simpa using hr, by simpa using h, by intro k; rw [k] at e; simp at e⟩
    · exact ⟨p, q, hr, h, hq⟩
  obtain ⟨o0, T, e, l0, hT, hrun⟩ := turn_run h
  obtain ⟨q', rfl, hT'⟩ : ∃ q', q = o0 :: q' ∧ T = q' ++ p := by
    cases q with
    | nil => exact absurd rfl hq
    | cons c q' =>
      rw [List.cons_append] at e
      obtain ⟨e1, e2⟩ := List.cons.inj e
      exact ⟨q', by rw [e1], e2.symm⟩
  have hat : atF L 0 (rowOf A v) = (p.length : Int) := by
    rw [hr]
    refine atF_first p.length (by simp) (fun j hj => ?_) (by rw [ge_mid]; exact l0)
    rw [geA_l _ hj]
    exact hT _ (by rw [hT']; exact List.mem_append_right _ (ge_mem hj))
  unfold turnsB
  rw [hat, if_neg (by omega), Int.toNat_natCast, hr, List.drop_left, List.take_left]
  exact hrun
section
variable {N : Int} {E : List (Int × Int)} {A : List (List Int)} {O L : List Int}
/-- A Schnyder labeling is accepted. -/
theorem fit_of (hT : trgB N E A = true) (hS : Sch E A L) : fitB E A L = true := by
  have hV := trg_valid hT
  have hside : ∀ d, isD E d → sideB E A L d = true := fun d hd => by
    unfold sideB
    by_cases h0 : lab L d < 0
    · rw [decide_eq_true h0]; rfl
    · have ht : tailE E d ∉ rts E A := fun k => by have := hS.rt d hd k; omega
      rw [idx_no ht]
      by_cases hh : tailE E (oth d) ∈ rts E A
      · rw [decide_eq_true (show idx (tailE E (oth d)) (rts E A) = lab L d from (hS.ld d hd hh (by omega)).symm)]
        simp
      · rw [idx_no hh]
        simp
  unfold fitB
  rw [Bool.and_eq_true, Bool.and_eq_true, decide_eq_true_iff, List.all_eq_true, List.all_eq_true]
  refine ⟨⟨hS.len, fun i hi => ?_⟩, fun v hv => ?_⟩
  · have hi := List.mem_range.1 hi
    have hd : isD E (2 * (i : Int)) := ⟨by omega, by omega⟩
    unfold endsB
    by_cases ho : outB A (2 * (i : Int)) = true
    · rw [if_pos ho]
      obtain ⟨a, b⟩ := (outB_iff hT hd).1 ho
      rw [hS.out _ hd a b, hS.out _ hd.oth b (by rw [oth_oth]; exact a)]
      rfl
    · rw [if_neg ho]
      have hn : ¬ (tailE E (2 * (i : Int)) ∈ rts E A ∧ tailE E (oth (2 * (i : Int))) ∈ rts E A) := fun k => ho ((outB_iff hT hd).2 k)
      have h1 := hS.one _ hd hn
      have r1 := hS.rng _ hd
      have r2 := hS.rng _ hd.oth
      rw [hside _ hd, hside _ hd.oth]
      have e1 : rngB (lab L (2 * (i : Int))) = true := by unfold rngB; rw [decide_eq_true r1.1, decide_eq_true r1.2]; rfl
      have e2 : rngB (lab L (oth (2 * (i : Int)))) = true := by unfold rngB; rw [decide_eq_true r2.1, decide_eq_true r2.2]; rfl
      rw [e1, e2]
      by_cases hm : lab L (2 * (i : Int)) = -1
      · have hm2 := h1.1 hm
        rw [hm, beq_eq_false_iff_ne.2 hm2]
        rfl
      · have hm2 : lab L (oth (2 * (i : Int))) = -1 := Classical.byContradiction fun k => hm (h1.2 k)
        rw [hm2, beq_eq_false_iff_ne.2 hm]
        rfl
  · have hv := List.mem_range.1 hv
    by_cases hi : (v : Int) ∈ rts E A
    · have := idx_yes hi
      rw [decide_eq_true (by omega)]
      rfl
    · obtain ⟨p, q, hr, ht⟩ := hS.vx v hv hi
      rw [turn_turns hr ht]
      simp
theorem can_con (h : chkO N E A O = true) {ord R C : List Int} (hO : O = tailE E 0 :: tailE E 1 :: (ord ++ R).reverse) (hR : Rest E A ord R C) : contP N E A O R.length = some C := by
  have e : O = (tailE E 0 :: tailE E 1 :: R.reverse) ++ ord.reverse := by rw [hO]; simp
  rw [← cont_same h (by rw [e]; simp), e, contR_app (by simp)]
  exact hR.can
theorem peels_turn (h : chkO N E A O = true) {ord D R : List Int} (hP : Peels E A ord D R) : O = tailE E 0 :: tailE E 1 :: (ord ++ R).reverse → ord.Nodup → (∀ u ∈ ord, 0 ≤ u ∧ u < (A.length : Int)) → Fans (LabP E A (refK N E A O (O.length - 2))) 1 D →
    ∀ u ∈ R, u ∉ rts E A → ∃ p q, rowOf A u.toNat = p ++ q ∧ Turn (refK N E A O (O.length - 2)) (q ++ p) := by
  obtain ⟨hT, hl, _, _⟩ := chkO_iff.1 h
  have hV := trg_valid hT
  have hro := rts_ord hT h
  -- the row of the vertex that is taken
  have hturn : ∀ {go : Int → Prop} {L1 M X G p q : List Int} {a b f : Int}, Spot E A go L1 a b f M X G p q → LabP E A (refK N E A O (O.length - 2)) a b → lab (refK N E A O (O.length - 2)) (oth a) = 0 → lab (refK N E A O (O.length - 2)) b = 1 →
      (∀ d ∈ X, lab (refK N E A O (O.length - 2)) (oth d) = 2) → tailE E b ∉ rts E A → ∃ p q, rowOf A (tailE E b).toNat = p ++ q ∧ Turn (refK N E A O (O.length - 2)) (q ++ p) := by
    intro go L1 M X G p q a b f hS hab l0 l1 l2 hi
    obtain ⟨_, _, hm⟩ := rot_row hV hS.db hS.row hS.rot (by simp)
    obtain ⟨I0, o2, I1, rfl, g2, g0, g1⟩ := hab hi X G p q hS.row hS.rot
    have hmin : ∀ d, d ∈ oth a :: (X ++ b :: (I0 ++ o2 :: I1)) → lab (refK N E A O (O.length - 2)) (oth d) ≠ -1 → lab (refK N E A O (O.length - 2)) d = -1 := fun d hd hne => by
      have hdd := (hm d).1 hd
      exact (lab_one h hdd.1 (fun k => hi (by rw [← hdd.2]; exact k.1))).2 hne
    exact ⟨p, q, hS.row, oth a, X, b, I0, o2, I1, hS.rot, l0, l1, g2, fun d hd => ⟨hmin d (by simp [hd]) (by rw [l2 d hd]; omega), l2 d hd⟩, fun d hd => ⟨hmin d (by simp [hd]) (by rw [g0 d hd]; omega), g0 d hd⟩, fun d hd => ⟨hmin d (by simp [hd]) (by rw [g1 d hd]; omega), g1 d hd⟩⟩
  have hlast : ∀ k, k + 2 < O.length → ge O (k + 2) ∉ rts E A → k + 3 < O.length := fun k hk hi => by
    apply Classical.byContradiction
    intro hn
    apply hi
    rw [hro, show k + 2 = O.length - 1 by omega]
    simp
  induction hP with
  | @fin ord a b f G p q hP hS =>
    intro hO hn hr hL u hu hi
    obtain ⟨hR, hta, hf, hab⟩ := fin_rest hT hP hS hn hr
    have hv : ge O 2 = tailE E b := by
      rw [hO, List.reverse_append]
      rfl
    have hOl : 2 < O.length := by rw [hO]; simp
    rw [List.mem_singleton.1 hu] at hi ⊢
    have hk3 := hlast 0 hOl (by rw [hv]; exact hi)
    have hC0 : contP N E A O 0 = some (([] : List Int).map (tailE E) ++ (tailE E a :: (([] : List Int).map (fun d => tailE E (oth d)) ++ (f :: []).map (tailE E)))) := by
      show contP N E A O 0 = some [tailE E a, tailE E f]
      rw [hab]
      unfold contP
      rw [hO]
      rfl
    have hd := node_data (L1 := []) (M := []) (X := []) h hP hS (k := 0) hOl hv hC0 (by
      have := can_con h hO hR
      exact this)
    exact hturn hS hL.2.1 (hd.2.1 hk3).1 (hd.2.1 hk3).2 hd.2.2 hi
  | @take ord L1 M X G p q R a b f hP hfr hS hne hPs ih =>
    intro hO hn hr hL u hu hi
    obtain ⟨n1, n2⟩ := take_nd hT hP hS hn hr
    have hR' := peels_rest hT hPs n1 n2
    have hR := Rest.back hT hP hfr hS hR'
    have hO' : O = tailE E 0 :: tailE E 1 :: ((ord ++ [tailE E b]) ++ R).reverse := by rw [hO]; simp
    have hC := can_con h hO' hR'
    rw [new_tails hT hS] at hC
    have hC1 := can_con h hO hR
    have hOe : O = (tailE E 0 :: tailE E 1 :: R.reverse) ++ tailE E b :: ord.reverse := by rw [hO]; simp
    have hv : ge O (R.length + 2) = tailE E b := by
      have e2 : R.length + 2 = (tailE E 0 :: tailE E 1 :: R.reverse).length := by simp
      rw [e2, hOe]
      exact ge_mid _ _ _
    have hk : R.length + 2 < O.length := by rw [hOe]; simp
    obtain ⟨d1, d2, d3⟩ := node_data h hP hS hk hv hC hC1
    have hL' := take_lab hT hP hS hL (fun k => (d2 (d1 (Or.inl k))).1) (fun k => (d2 (d1 (Or.inr k))).2) d3
    rcases List.mem_cons.1 hu with rfl | hu
    · have hk3 := hlast _ hk (by rw [hv]; exact hi)
      exact hturn hS (Fans.app.1 hL).2.1 (d2 hk3).1 (d2 hk3).2 d3 hi
    · exact ih hO' n1 n2 hL' u hu hi
/-- The labels of a peeling's order. -/
theorem peels_sch (hT : trgB N E A = true) {R : List Int} (hP : Peels E A [] [oth (nxF A (nxF A 0)), oth (nxF A 0), 1] R) :
    chkO N E A (tailE E 0 :: tailE E 1 :: R.reverse) = true ∧ Sch E A (refK N E A (tailE E 0 :: tailE E 1 :: R.reverse) ((tailE E 0 :: tailE E 1 :: R.reverse).length - 2)) := by
  have hst := pee_start hT
  have h := peels_chk hT hP hst.2
  refine ⟨h, lab_sch h fun v hv hi => ?_⟩
  have hV := trg_valid hT
  have hro := rts_ord hT h
  have hR := peels_rest hT hP (by simp) (fun u hu => by cases hu)
  have hm : (v : Int) ∈ R := by
    rcases hR.all v (by omega) (by omega) with k | k | k
    · exact absurd (by rw [rts_eq, k]; simp) hi
    · exact absurd (by rw [rts_eq, k]; simp) hi
    · simpa using k
  have hin : ∀ d, d ∈ [oth (nxF A (nxF A 0)), oth (nxF A 0), 1] → tailE E d ∈ rts E A := fun d hd => by
    have hmm : tailE E d ∈ peel0 N E A := by rw [← hst.2]; exact mem_tails hd
    obtain ⟨i0, i1⟩ := dart01 hT
    have e3 : thirdF N E A = tailE E (nxF A (nxF A 0)) := by
      obtain ⟨_, hl, ⟨_, _, h2⟩, _⟩ := chkO_iff.1 h
      have := rts_ord hT h
      rw [rts_eq] at this
      have e := congrArg (fun l => ge l 2) this
      have e' : tailE E (nxF A (nxF A 0)) = ge (tailE E 0 :: tailE E 1 :: R.reverse) ((tailE E 0 :: tailE E 1 :: R.reverse).length - 1) := e
      rw [e', ← h2]
      congr 1
      omega
    unfold peel0 at hmm
    rw [tailF_eq hV i0, tailF_eq hV i1, e3] at hmm
    rw [rts_eq]
    simp only [List.mem_cons, List.not_mem_nil, or_false] at hmm ⊢
    rcases hmm with k | k | k <;> simp [k]
  have hF : Fans (LabP E A (refK N E A (tailE E 0 :: tailE E 1 :: R.reverse) ((tailE E 0 :: tailE E 1 :: R.reverse).length - 2))) 1 [oth (nxF A (nxF A 0)), oth (nxF A 0), 1] :=
    ⟨fun hi => absurd (hin _ (by simp)) hi, fun hi => absurd (hin _ (by simp)) hi, fun hi => absurd (hin _ (by simp)) hi, trivial⟩
  have := peels_turn h hP (by simp) (by simp) (fun u hu => by cases hu) hF v hm hi
  rwa [Int.toNat_natCast] at this
end
end Go.Proofs.YtlealdicoceekaaDoor

/- Regions, plain: the inside of the contours of a peeling along a labeling. -/
namespace Go.Proofs.YtlealdicoceekaaDoor
open Go.RowKit

/-- A state of the peeling along a labeling. -/
structure Pst (E : List (Int × Int)) (A : List (List Int)) (L ord D : List Int) : Prop where
  pee : Pee E A (fun x => x ∈ ord) D
  lev : Lev E A L (fun x => x ∈ ord) D
  len : 3 ≤ D.length
  nd : ord.Nodup
  rng : ∀ u ∈ ord, 0 ≤ u ∧ u < (A.length : Int)
  two : ∀ d, isD E d → tailE E d ∈ ord → lab L d = 2 → tailE E (oth d) ∈ ord
/-- The darts of the faces without a gone vertex. -/
def Ins (E : List (Int × Int)) (A : List (List Int)) (ord : List Int) (d : Int) : Prop :=
  isD E d ∧ tailE E d ∉ ord ∧ tailE E (nxF A d) ∉ ord ∧ tailE E (nxF A (nxF A d)) ∉ ord
section
variable {N : Int} {E : List (Int × Int)} {A : List (List Int)} {L : List Int}
theorem isD.nx (hV : vRot N E A) {d : Int} (h : isD E d) : isD E (nxF A d) := nxF_in hV h.1 h.2
theorem tail_nx (hV : vRot N E A) {d : Int} (h : isD E d) : tailE E (nxF A d) = tailE E (oth d) := suc_tail hV h.oth.1 h.oth.2
theorem Ins.nx (hT : trgB N E A = true) {ord : List Int} {d : Int} (h : Ins E A ord d) : Ins E A ord (nxF A d) := by
  have hV := trg_valid hT
  exact ⟨h.1.nx hV, h.2.2.1, h.2.2.2, by rw [tri_at hT h.1]; exact h.2.1⟩
theorem Ins.mono {ord ord' : List Int} (h : ∀ u ∈ ord, u ∈ ord') {d : Int} (hi : Ins E A ord' d) : Ins E A ord d :=
  ⟨hi.1, fun k => hi.2.1 (h _ k), fun k => hi.2.2.1 (h _ k), fun k => hi.2.2.2 (h _ k)⟩
/-- The inner face of a contour's edge. -/
theorem fan_ins (hT : trgB N E A = true) {ord : List Int} {e b : Int} (h : Fan E A (fun x => x ∈ ord) e b) (he : tailE E e ∉ ord) (hb : tailE E b ∉ ord) (hh : tailE E (oth b) ∉ ord) : Ins E A ord e := by
  have hV := trg_valid hT
  obtain ⟨e1, b1, heb, X, G, p, q, hr, hl, hX, hG⟩ := h
  obtain ⟨hc, hn, hm⟩ := rot_row hV b1 hr hl (by simp)
  refine ⟨e1, he, by rw [tail_nx hV e1, heb]; exact hb, ?_⟩
  rw [tail_nx hV (e1.nx hV)]
  show tailE E (oth (sucF A (oth e))) ∉ ord
  have hc' : Ch (sucF A) (oth e) (X ++ b :: G) (oth e) := hc
  cases X with
  | nil => rw [show sucF A (oth e) = b from hc'.1]; exact hh
  | cons x X => rw [show sucF A (oth e) = x from hc'.1]; exact hX x (by simp)
/-- A contour vertex's fan. -/
theorem fans_at {P : Int → Int → Prop} : ∀ {l : List Int} {a b : Int}, Fans P a l → b ∈ l → ∃ e, P e b ∧ (e = a ∨ e ∈ l)
  | [], _, _, _, h => by cases h
  | c :: l, a, b, ⟨h1, h2⟩, hb => by
    rcases List.mem_cons.1 hb with rfl | hb
    · exact ⟨a, h1, Or.inl rfl⟩
    · obtain ⟨e, h3, h4⟩ := fans_at h2 hb
      refine ⟨e, h3, Or.inr ?_⟩
      rcases h4 with rfl | h4
      · simp
      · exact List.mem_cons_of_mem _ h4
theorem fans_next {P : Int → Int → Prop} : ∀ {l : List Int} {a e : Int}, Fans P a l → e ∈ a :: l → (∃ b, b ∈ l ∧ P e b) ∨ ∃ T, a :: l = T ++ [e]
  | [], a, e, _, h => Or.inr ⟨[], by simp at h; rw [h]; rfl⟩
  | c :: l, a, e, ⟨h1, h2⟩, he => by
    rcases List.mem_cons.1 he with rfl | he
    · exact Or.inl ⟨c, by simp, h1⟩
    · rcases fans_next h2 he with ⟨b, hb, h3⟩ | ⟨T, hT⟩
      · exact Or.inl ⟨b, List.mem_cons_of_mem _ hb, h3⟩
      · exact Or.inr ⟨a :: T, by rw [hT]; rfl⟩
/-- Every dart of the contour is followed by another one. -/
theorem pee_fan {ord D : List Int} (h : Pee E A (fun x => x ∈ ord) D) {e : Int} (he : e ∈ D) : ∃ b, b ∈ D ∧ Fan E A (fun x => x ∈ ord) e b := by
  obtain ⟨T, hD⟩ := h.last
  rcases fans_next h.fans (List.mem_cons_of_mem _ he) with k | ⟨T', hT'⟩
  · exact k
  · have e1 : e = 1 := by
      rw [hD] at hT'
      have : (1 :: T) ++ [1] = T' ++ [e] := by rw [← hT']; rfl
      have := (List.append_inj' this rfl).2
      simpa using this.symm
    subst e1
    cases D with
    | nil => cases he
    | cons c D => exact ⟨c, by simp, h.fans.1⟩
theorem pee_head {ord D : List Int} (h : Pee E A (fun x => x ∈ ord) D) {e : Int} (he : e ∈ D) : tailE E (oth e) ∉ ord := by
  obtain ⟨b, hb, hf⟩ := pee_fan h he
  rw [hf.2.2.1]
  exact h.ng b hb
theorem con_ins (hT : trgB N E A = true) {ord D : List Int} (h : Pee E A (fun x => x ∈ ord) D) {e : Int} (he : e ∈ D) : Ins E A ord e := by
  obtain ⟨b, hb, hf⟩ := pee_fan h he
  exact fan_ins hT hf (h.ng e he) (h.ng b hb) (pee_head h hb)
/-- A face inside whose neighbour is outside lies at the contour. -/
theorem ins_out (hT : trgB N E A = true) {ord D : List Int} (h : Pee E A (fun x => x ∈ ord) D) {d : Int} (hi : Ins E A ord d) (ho : ¬ Ins E A ord (oth d)) : d ∈ D := by
  have hV := trg_valid hT
  have hd := hi.1
  have t1 : tailE E (oth d) ∉ ord := by rw [← tail_nx hV hd]; exact hi.2.2.1
  have t2 : tailE E (nxF A (oth d)) ∉ ord := by rw [tail_nx hV hd.oth, oth_oth]; exact hi.2.1
  have hz : tailE E (nxF A (nxF A (oth d))) ∈ ord := Classical.byContradiction fun k => ho ⟨hd.oth, t1, t2, k⟩
  have hsd : isD E (sucF A d) := hd.suc hV
  have hs : nxF A (oth d) = sucF A d := by unfold nxF; rw [oth_oth]
  rw [hs, tail_nx hV hsd] at hz
  have hts : tailE E (sucF A d) = tailE E d := suc_tail hV hd.1 hd.2
  have hc : tailE E d ∈ D.map (tailE E) := Classical.byContradiction fun k => h.inn (sucF A d) hsd (by rw [hts]; exact hi.2.1) (by rw [hts]; exact k) hz
  obtain ⟨b, hb, hbt⟩ := List.mem_map.1 hc
  obtain ⟨e, hf, hea⟩ := fans_at h.fans hb
  have heD : e ∈ D := by
    rcases hea with rfl | k
    · obtain ⟨T, hD⟩ := h.last
      rw [hD]; simp
    · exact k
  obtain ⟨e1, b1, heb, X, G, p, q, hr, hl, hX, hG⟩ := hf
  obtain ⟨hcy, hn, hm⟩ := rot_row hV b1 hr hl (by simp)
  have hch : Ch (sucF A) (oth e) (X ++ b :: G) (oth e) := hcy
  have hsG : sucF A d ∈ G := by
    have hmem : sucF A d = oth e ∨ sucF A d ∈ X ∨ sucF A d = b ∨ sucF A d ∈ G := by simpa using (hm (sucF A d)).2 ⟨hsd, by rw [hts, hbt]⟩
    rcases hmem with k | k | k | k
    · exfalso
      rw [k, oth_oth] at hz
      exact h.ng e heD hz
    · exact absurd hz (hX _ k)
    · rw [k] at hz; exact absurd hz (pee_head h hb)
    · exact k
  obtain ⟨G1, G2, hG12⟩ := List.append_of_mem hsG
  obtain ⟨w, W, hw, hsw⟩ := Ch.snd (t := X ++ b :: G1) (a := sucF A d) (u := G2) (z := oth e) (x := oth e) (by rw [hG12] at hch; simpa using hch)
  have hwm : w ∈ oth e :: (X ++ b :: G1) := by rw [hw]; simp
  have hwd := (hm w).1 (by rw [hG12]; simp only [List.mem_cons, List.mem_append] at hwm ⊢; rcases hwm with k | k | k | k <;> simp [k])
  have hdw : d = w := suc_inj hV hd hwd.1 hsw.symm
  rcases List.eq_nil_or_concat G1 with k | ⟨G1', c, k⟩
  · subst k
    have : (oth e :: X) ++ [b] = W ++ [w] := by rw [← hw]; simp
    have := (List.append_inj' this rfl).2
    simp at this
    rw [hdw, ← this]
    exact hb
  · exfalso
    have k' : G1 = G1' ++ [c] := by simpa using k
    have : (oth e :: (X ++ b :: G1')) ++ [c] = W ++ [w] := by rw [← hw, k']; simp
    have := (List.append_inj' this rfl).2
    simp at this
    have hcG : w ∈ G := by rw [hG12, k', ← this]; simp
    exact t1 (by rw [hdw]; exact hG w hcG)
/-- No dart of the inside has an end in what is gone: in particular none at the third root. -/
theorem Ins.tail {ord : List Int} {d : Int} (h : Ins E A ord d) : tailE E d ∉ ord := h.2.1
theorem Ins.head (hT : trgB N E A = true) {ord : List Int} {d : Int} (h : Ins E A ord d) : tailE E (oth d) ∉ ord := by
  rw [← tail_nx (trg_valid hT) h.1]; exact h.2.2.1
/-- What one walks through inside. -/
inductive Rin (E : List (Int × Int)) (A : List (List Int)) (ord : List Int) : Int → Prop
  | base : Rin E A ord 1
  | nx {d : Int} : Rin E A ord d → Rin E A ord (nxF A d)
  | op {d : Int} : Rin E A ord d → Ins E A ord (oth d) → Rin E A ord (oth d)
theorem Rin.mono {ord ord' : List Int} (h : ∀ u ∈ ord, u ∈ ord') {d : Int} (hr : Rin E A ord' d) : Rin E A ord d := by
  induction hr with
  | base => exact .base
  | nx _ ih => exact .nx ih
  | op _ hi ih => exact .op ih (hi.mono h)
/-- A dart of the inside at the vertex that is taken stands behind one that leads inside too. -/
theorem ins_pred (hT : trgB N E A = true) {ord L1 M X G p q : List Int} {a b f : Int} (hSp : Spot E A (fun x => x ∈ ord) L1 a b f M X G p q) (hG0 : G ≠ []) {d : Int} (hi : Ins E A ord d) (ht : tailE E d = tailE E b) : ∃ w, w ∈ oth a :: X ∧ sucF A w = d := by
  have hV := trg_valid hT
  obtain ⟨hcy, hn, hm⟩ := rot_row hV hSp.db hSp.row hSp.rot (by simp)
  have hch : Ch (sucF A) (oth a) (X ++ b :: G) (oth a) := hcy
  have h3 := hi.1.nx hV
  have h4 := h3.nx hV
  have hp : sucF A (oth (nxF A (nxF A d))) = d := by
    have := tri_at hT hi.1
    exact this
  have hpt : tailE E (oth (nxF A (nxF A d))) = tailE E b := by rw [← suc_tail hV h4.oth.1 h4.oth.2, hp, ht]
  have hph : tailE E (oth (oth (nxF A (nxF A d)))) ∉ ord := by rw [oth_oth]; exact hi.2.2.2
  have hmem := (hm (oth (nxF A (nxF A d)))).2 ⟨h4.oth, hpt⟩
  have hmem' : oth (nxF A (nxF A d)) = oth a ∨ oth (nxF A (nxF A d)) ∈ X ∨ oth (nxF A (nxF A d)) = b ∨ oth (nxF A (nxF A d)) ∈ G := by simpa using hmem
  rcases hmem' with k | k | k | k
  · exact ⟨_, by rw [k]; simp, hp⟩
  · exact ⟨_, List.mem_cons_of_mem _ k, hp⟩
  · exfalso
    rw [k] at hp
    have h5 := (Ch.app.1 hch).2
    cases hGe : G with
    | nil => exact hG0 hGe
    | cons g G' =>
      rw [hGe] at h5
      have e : sucF A b = g := h5.1
      have := hSp.out g (by rw [hGe]; simp)
      rw [← e, hp] at this
      exact hi.head hT this
  · exact absurd (hSp.out _ k) hph
/-- The next state. -/
theorem pst_take (hT : trgB N E A = true) (hS : Sch E A L) {ord L1 M : List Int} {a b f : Int} (h : Pst E A L ord (L1 ++ a :: b :: f :: M)) (h0 : lab L (oth a) = 0) (h1 : lab L b = 1) :
    ∃ X G p q, Spot E A (fun x => x ∈ ord) L1 a b f M X G p q ∧ G ≠ [] ∧ ((L1 ≠ [] ∨ M ≠ [] ∨ X ≠ []) → Pst E A L (ord ++ [tailE E b]) (L1 ++ ((oth a :: X).map (thd A) ++ f :: M))) ∧ (¬ (L1 ≠ [] ∨ M ≠ [] ∨ X ≠ []) → f = 1 ∧ tailE E a = tailE E 0 ∧ ∀ u, 0 ≤ u → u < (A.length : Int) → u ∈ ord ∨ u = tailE E a ∨ u = tailE E b ∨ u = tailE E f) := by
  have hV := trg_valid hT
  have hfr := lev_free hT hS h.pee h.lev h0 h1
  obtain ⟨X, G, p, q, hSp⟩ := spot_ex hT h.pee hfr
  obtain ⟨n1, n2⟩ := take_nd hT h.pee hSp h.nd h.rng
  obtain ⟨_, I0, o2, I1, hG, l2, _⟩ := lab_row hT hS hSp.db (lev_inner h.pee h.lev) hSp.row hSp.rot h0 h1
  obtain ⟨_, _, hm⟩ := rot_row hV hSp.db hSp.row hSp.rot (by simp)
  refine ⟨X, G, p, q, hSp, by rw [hG]; simp, fun hne => ?_, fun hne => ?_⟩
  · have hgo : ∀ x, x ∈ ord ++ [tailE E b] ↔ x ∈ ord ∨ x = tailE E b := fun x => by simp
    refine ⟨pee_take (go' := fun x => x ∈ ord ++ [tailE E b]) hT h.pee hfr hSp hgo hne, lev_take (go' := fun x => x ∈ ord ++ [tailE E b]) hT hS h.pee h.lev h0 h1 hSp hgo hne, ?_, n1, n2, fun d hd ht hl => ?_⟩
    · simp only [List.length_append, List.length_cons, List.length_map]
      rcases hne with k | k | k <;> have := List.length_pos_iff.2 k <;> omega
    · rcases (hgo _).1 ht with k | k
      · exact (hgo _).2 (Or.inl (h.two d hd k hl))
      · have ho2 := (hm o2).1 (by rw [hG]; simp)
        have : d = o2 := trn_uniq hT hS hd ho2.1 (by rw [k]; exact lev_inner h.pee h.lev) (by rw [ho2.2, k]) (by omega) (by omega)
        rw [this]
        exact (hgo _).2 (Or.inl (hSp.out o2 (by rw [hG]; simp)))
  · simp only [not_or, Classical.not_not] at hne
    obtain ⟨rfl, rfl, rfl⟩ := hne
    have hends := ends_in h.pee
    have hf1 : f = 1 := hends.2.2.2.2.2 rfl
    subst hf1
    exact ⟨rfl, hends.2.2.2.2.1 rfl, fin_all hT h.pee hSp⟩
/-- The inside is connected. -/
theorem ins_rin (hT : trgB N E A = true) (hS : Sch E A L) : ∀ (n : Nat) {ord D : List Int}, Pst E A L ord D → A.length ≤ ord.length + n → ∀ d, Ins E A ord d → Rin E A ord d := by
  intro n
  induction n with
  | zero =>
    intro ord D h hl d hi
    exfalso
    have hV := trg_valid hT
    have := nodup_len (l := ord ++ [tailE E d]) (n := A.length) (List.nodup_append.2 ⟨h.nd, by simp, fun a ha b hb e => by rw [List.mem_singleton.1 hb] at e; exact hi.2.1 (e ▸ ha)⟩) (fun u hu => by
      rcases List.mem_append.1 hu with k | k
      · exact h.rng u k
      · rw [List.mem_singleton.1 k]; exact head_in hV hi.1)
    simp at this
    omega
  | succ n ih =>
    intro ord D h hl d hi
    have hV := trg_valid hT
    obtain ⟨L1, a, b, f, M, rfl, h0, h1⟩ := lev_pick hT hS h.pee h.lev h.len
    obtain ⟨X, G, p, q, hSp, hG0, hnext, hfin⟩ := pst_take hT hS h h0 h1
    obtain ⟨_, _, hm⟩ := rot_row hV hSp.db hSp.row hSp.rot (by simp)
    -- the faces at the vertex that is taken
    have hat : ∀ d, Ins E A ord d → tailE E d = tailE E b → Rin E A ord (nxF A d) := fun d hi ht => by
      obtain ⟨w, hw, hsw⟩ := ins_pred hT hSp hG0 hi ht
      have hwd : isD E w ∧ tailE E w = tailE E b := (hm w).1 (by rcases List.mem_cons.1 hw with k | k <;> simp [k])
      have hth : thd A w = oth (nxF A d) := by unfold thd nxF; rw [hsw]
      obtain ⟨y1, y2, y3, y4, y5⟩ := thd_ok hT hwd.1
      by_cases hne : L1 ≠ [] ∨ M ≠ [] ∨ X ≠ []
      · have hst := hnext hne
        have hin : Ins E A (ord ++ [tailE E b]) (thd A w) := con_ins hT hst.pee (by
          rw [List.mem_append, List.mem_append]
          exact Or.inr (Or.inl (List.mem_map_of_mem hw)))
        have hr := (ih hst (by rw [List.length_append, List.length_singleton]; omega) _ hin).mono (ord := ord) (fun u hu => List.mem_append_left _ hu)
        have := Rin.op hr (by rw [hth, oth_oth]; exact hi.nx hT)
        rwa [hth, oth_oth] at this
      · obtain ⟨e1, e2, _⟩ := hfin hne
        simp only [not_or, Classical.not_not] at hne
        obtain ⟨rfl, rfl, rfl⟩ := hne
        have hwa : w = oth a := by simpa using hw
        have hone : nxF A d = 1 := by
          obtain ⟨i0, i1⟩ := dart01 hT
          refine dart_uniq hT (hi.1.nx hV) i1 ?_ ?_
          · have h5 := tail_nx hV hi.1
            rw [h5]
            have hdb : d = b := by
              rw [← hsw, hwa]
              obtain ⟨hcy, _, _⟩ := rot_row hV hSp.db hSp.row hSp.rot (by simp)
              have hch : Ch (sucF A) (oth a) (([] : List Int) ++ b :: G) (oth a) := hcy
              exact hch.1
            rw [hdb, hSp.tf, e1]
          · have h6 : tailE E (thd A w) = tailE E (oth w) := y4
            rw [hth, hwa, oth_oth] at h6
            rw [h6, e2, oth_1]
        rw [hone]; exact Rin.base
    have hback : ∀ d, isD E d → Rin E A ord (nxF A d) → Rin E A ord d := fun d hd hr => by
      have := Rin.nx (Rin.nx hr)
      rwa [tri_at hT hd] at this
    by_cases t0 : tailE E d = tailE E b
    · exact hback d hi.1 (hat d hi t0)
    by_cases t1 : tailE E (nxF A d) = tailE E b
    · exact hback d hi.1 (hback _ (hi.1.nx hV) (hat _ (hi.nx hT) t1))
    by_cases t2 : tailE E (nxF A (nxF A d)) = tailE E b
    · have := hat _ ((hi.nx hT).nx hT) t2
      rwa [tri_at hT hi.1] at this
    by_cases hne : L1 ≠ [] ∨ M ≠ [] ∨ X ≠ []
    · have hst := hnext hne
      have hno : ∀ u, u ∉ ord → u ≠ tailE E b → u ∉ ord ++ [tailE E b] := fun u h1 h2 k => by
        rcases List.mem_append.1 k with k | k
        · exact h1 k
        · exact h2 (List.mem_singleton.1 k)
      exact (ih hst (by rw [List.length_append, List.length_singleton]; omega) d ⟨hi.1, hno _ hi.2.1 t0, hno _ hi.2.2.1 t1, hno _ hi.2.2.2 t2⟩).mono (fun u hu => List.mem_append_left _ hu)
    · exfalso
      obtain ⟨_, _, hall⟩ := hfin hne
      have hne3 : ∀ x, isD E x → tailE E x ≠ tailE E (nxF A x) := fun x hx e => by
        rw [tail_nx hV hx] at e
        exact cho_ne hV (c := fun _ => tailE E x) (s := 0) (t := 0) ⟨x, hx, rfl, e.symm⟩ rfl
      have d1 := hi.1.nx hV
      have d2 := d1.nx hV
      have n1 := hne3 d hi.1
      have n2 := hne3 _ d1
      have n3 := hne3 _ d2
      rw [tri_at hT hi.1] at n3
      have a0 := hall _ (head_in hV hi.1).1 (head_in hV hi.1).2
      have a1 := hall _ (head_in hV d1).1 (head_in hV d1).2
      have a2 := hall _ (head_in hV d2).1 (head_in hV d2).2
      rcases a0 with k | k | k | k
      · exact hi.2.1 k
      · rcases a1 with k1 | k1 | k1 | k1
        · exact hi.2.2.1 k1
        · exact n1 (k.trans k1.symm)
        · exact t1 k1
        · rcases a2 with k2 | k2 | k2 | k2
          · exact hi.2.2.2 k2
          · exact n3 (k2.trans k.symm)
          · exact t2 k2
          · exact n2 (k1.trans k2.symm)
      · exact t0 k
      · rcases a1 with k1 | k1 | k1 | k1
        · exact hi.2.2.1 k1
        · rcases a2 with k2 | k2 | k2 | k2
          · exact hi.2.2.2 k2
          · exact n2 (k1.trans k2.symm)
          · exact t2 k2
          · exact n3 (k2.trans k.symm)
        · exact t1 k1
        · exact n1 (k.trans k1.symm)
end
end Go.Proofs.YtlealdicoceekaaDoor

/- Regions, plain: the contour below a vertex is made of its paths in the trees 0 and 1. -/
namespace Go.Proofs.YtlealdicoceekaaDoor
open Go.RowKit

/-- What is reached from a dart without crossing walls. -/
inductive RW (A : List (List Int)) (W : List Int) (g : Int) : Int → Prop
  | base : RW A W g g
  | nx {d : Int} : RW A W g d → RW A W g (nxF A d)
  | op {d : Int} : RW A W g d → d / 2 ∉ W → RW A W g (oth d)
section
variable {N : Int} {E : List (Int × Int)} {A : List (List Int)} {L : List Int}
/-- The edges of a path. -/
theorem mem_pathW {t e : Int} : ∀ {n : Nat} {v : Int}, e ∈ pathW E A L t n v ↔ ∃ k, k < n ∧ endF E A L t k v ∉ rts E A ∧ e = upF A L t (endF E A L t k v) / 2
  | 0, v => by
    unfold pathW
    constructor
    · intro h; cases h
    · rintro ⟨k, hk, _⟩; omega
  | n + 1, v => by
    unfold pathW
    by_cases hv : v ∈ rts E A
    · rw [if_pos hv]
      constructor
      · intro h; cases h
      · rintro ⟨k, _, hk, _⟩
        rw [endF_root hv] at hk
        exact absurd hv hk
    · rw [if_neg hv, List.mem_cons]
      have hs : ∀ k, endF E A L t (k + 1) v = endF E A L t k (parF E A L t v) := fun k => by
        show (if v ∈ rts E A then _ else _) = _
        rw [if_neg hv]
      constructor
      · rintro (h | h)
        · exact ⟨0, by omega, hv, h⟩
        · obtain ⟨k, hk, h1, h2⟩ := mem_pathW.1 h
          exact ⟨k + 1, by omega, by rw [hs]; exact h1, by rw [hs]; exact h2⟩
      · rintro ⟨k, hk, h1, h2⟩
        cases k with
        | zero => exact Or.inl h2
        | succ k =>
          rw [hs] at h1 h2
          exact Or.inr (mem_pathW.2 ⟨k, by omega, h1, h2⟩)
theorem mem_wall {v e : Int} : e ∈ wallF E A L v ↔ (∃ s ∈ sdL A, e = s / 2) ∨ ∃ t, t < 3 ∧ ∃ k, k < A.length ∧ endF E A L ((t : Nat) : Int) k v ∉ rts E A ∧ e = upF A L (t : Int) (endF E A L (t : Int) k v) / 2 := by
  unfold wallF wallT wallT wallT wallT
  rw [List.mem_append, List.mem_append, List.mem_append, List.mem_map, mem_pathW, mem_pathW, mem_pathW]
  constructor
  · rintro (((⟨s, h1, h2⟩ | h) | h) | h)
    · exact Or.inl ⟨s, h1, h2.symm⟩
    · exact Or.inr ⟨0, by omega, h⟩
    · exact Or.inr ⟨1, by omega, h⟩
    · exact Or.inr ⟨2, by omega, h⟩
  · rintro (⟨s, h1, h2⟩ | ⟨t, ht, h⟩)
    · exact Or.inl (Or.inl (Or.inl ⟨s, h1, h2.symm⟩))
    · rcases (by omega : t = 0 ∨ t = 1 ∨ t = 2) with rfl | rfl | rfl
      · exact Or.inl (Or.inl (Or.inr h))
      · exact Or.inl (Or.inr h)
      · exact Or.inr h
theorem up_is (hT : trgB N E A = true) (hS : Sch E A L) {d : Int} {t : Nat} (hd : isD E d) (ht : t < 3) (hl : lab L d = t) (hi : tailE E d ∉ rts E A) : upF A L t (tailE E d) = d := by
  have hV := trg_valid hT
  have hr := head_in hV hd
  obtain ⟨v, hv⟩ : ∃ v : Nat, tailE E d = (v : Int) := ⟨(tailE E d).toNat, by omega⟩
  rw [hv] at hi ⊢
  have hup := up_dart hT hS (v := v) (by omega) hi ht
  have hul := (up_ok hT hS (v := v) (by omega) hi ht).2
  exact trn_uniq hT hS hup.1 hd (by rw [hup.2]; exact hi) (by rw [hup.2, hv]) (by omega) (by rw [hul, hl])
theorem par_is (hT : trgB N E A = true) (hS : Sch E A L) {d : Int} {t : Nat} (hd : isD E d) (ht : t < 3) (hl : lab L d = t) (hi : tailE E d ∉ rts E A) : parF E A L t (tailE E d) = tailE E (oth d) := by
  unfold parF; rw [up_is hT hS hd ht hl hi]
theorem endF_up {t : Int} {v : Int} (hv : v ∉ rts E A) (k : Nat) : endF E A L t (k + 1) v = endF E A L t k (parF E A L t v) := by
  show (if v ∈ rts E A then _ else _) = _
  rw [if_neg hv]
/-- A contour vertex between the ends is inner. -/
theorem con_inner {ord D : List Int} (h : Pst E A L ord D) {d : Int} (hd : d ∈ D) (h0 : tailE E d ≠ tailE E 0) (h1 : d ≠ 1) : tailE E d ∉ rts E A := by
  rw [rts_eq]
  simp only [List.mem_cons, List.not_mem_nil, or_false]
  rintro (k | k | k)
  · exact h0 k
  · obtain ⟨T, hD⟩ := h.pee.last
    have hnd := h.pee.nd
    rw [hD, List.map_append, List.nodup_append] at hnd
    rw [hD] at hd
    rcases List.mem_append.1 hd with hd | hd
    · exact hnd.2.2 _ (mem_tails hd) (tailE E 1) (by simp) k
    · exact h1 (List.mem_singleton.1 hd)
  · exact h.pee.ng d hd (by rw [k]; exact h.lev.vn)
/-- Down the left side. -/
theorem left_path (hT : trgB N E A = true) (hS : Sch E A L) {ord D : List Int} (h : Pst E A L ord D) : ∀ {S : List Int} {c : Int} {Q : List Int}, D = S ++ c :: Q → c ≠ 1 → (∀ d ∈ S ++ [c], lab L (oth d) = 0) →
    (∀ k, endF E A L ((0 : Nat) : Int) k (tailE E (oth c)) ∉ rts E A → oth (upF A L ((0 : Nat) : Int) (endF E A L ((0 : Nat) : Int) k (tailE E (oth c)))) ∈ S ++ [c]) ∧ (tailE E (oth c) ∉ rts E A → ∀ d ∈ S ++ [c], ∃ k, k ≤ S.length ∧ endF E A L ((0 : Nat) : Int) k (tailE E (oth c)) ∉ rts E A ∧ d = oth (upF A L ((0 : Nat) : Int) (endF E A L ((0 : Nat) : Int) k (tailE E (oth c)))) ) := by
  have hV := trg_valid hT
  intro S
  induction hn : S.length generalizing S with
  | zero =>
    intro c Q hD hc1 hl
    have hS0 : S = [] := List.length_eq_zero_iff.1 hn
    subst hS0
    have hcD : c ∈ D := by rw [hD]; simp
    have hcd : isD E c := Fans.dart h.pee.fans c hcD
    have hl0 := hl c (by simp)
    have hF := h.pee.fans
    rw [hD] at hF
    have ht0 : tailE E c = tailE E 0 := by have := hF.1.2.2.1; rw [oth_1] at this; exact this.symm
    have htr : tailE E c ∈ rts E A := by rw [ht0, rts_eq]; simp
    refine ⟨fun k hk => ?_, fun hi d hd => ?_⟩
    · have hi : tailE E (oth c) ∉ rts E A := fun m => hk (by rw [endF_root m]; exact m)
      cases k with
      | zero =>
        show oth (upF A L ((0 : Nat) : Int) (tailE E (oth c))) ∈ _
        rw [up_is (t := 0) hT hS hcd.oth (by decide) hl0 hi, oth_oth]; simp
      | succ k =>
        exfalso
        rw [endF_up hi, par_is (t := 0) hT hS hcd.oth (by decide) hl0 hi, oth_oth, endF_root htr] at hk
        exact hk htr
    · have hdc : d = c := by simpa using hd
      subst hdc
      exact ⟨0, Nat.le_refl _, hi, by show d = oth (upF A L ((0 : Nat) : Int) (tailE E (oth d))); rw [up_is (t := 0) hT hS hcd.oth (by decide) hl0 hi, oth_oth]⟩
  | succ n ih =>
    intro c Q hD hc1 hl
    obtain ⟨S', c', hSc⟩ : ∃ S' c', S = S' ++ [c'] := by
      rcases List.eq_nil_or_concat S with k | ⟨S', c', k⟩
      · rw [k] at hn; simp at hn
      · exact ⟨S', c', by simpa using k⟩
    subst hSc
    have hcD : c ∈ D := by rw [hD]; simp
    have hc'D : c' ∈ D := by rw [hD]; simp
    have hcd : isD E c := Fans.dart h.pee.fans c hcD
    have hl0 := hl c (by simp)
    have hD' : D = S' ++ c' :: (c :: Q) := by rw [hD]; simp
    have hF := h.pee.fans
    rw [hD'] at hF
    have hcc : tailE E (oth c') = tailE E c := (Fans.app.1 hF).2.1.2.2.1
    have hnd := h.pee.nd
    have hc'1 : c' ≠ 1 := fun e => by
      obtain ⟨T, hT1⟩ := h.pee.last
      rw [hD', e] at hT1
      rw [hD', e, List.map_append, List.map_cons, List.nodup_append, List.nodup_cons] at hnd
      have h1m : (1 : Int) ∈ c :: Q := by
        have : S' ++ 1 :: (c :: Q) = (S' ++ [1]) ++ (c :: Q) := by simp
        rw [this] at hT1
        obtain ⟨T', g, hT'⟩ := snoc_ex c Q
        rw [hT', ← List.append_assoc] at hT1
        have := (List.append_inj' hT1 rfl).2
        simp at this
        rw [hT', this]; simp
      exact hnd.2.1.1 (mem_tails h1m)
    have ht0 : tailE E c ≠ tailE E 0 := fun e => by
      cases S' with
      | nil =>
        have := hF.1.2.2.1
        rw [oth_1] at this
        rw [hD', List.nil_append, List.map_cons, List.map_cons, List.nodup_cons, List.mem_cons] at hnd
        exact hnd.1 (Or.inl (this.symm.trans e.symm))
      | cons s S' =>
        have := hF.1.2.2.1
        rw [oth_1] at this
        rw [hD', List.cons_append, List.map_cons, List.nodup_cons] at hnd
        exact hnd.1 (by rw [← this, ← e]; simp)
    have hti : tailE E c ∉ rts E A := con_inner h hcD ht0 hc1
    obtain ⟨i1, i2⟩ := ih (S := S') (by simpa using hn) hD' hc'1 (fun d hd => hl d (List.mem_append_left _ hd))
    rw [hcc] at i1 i2
    refine ⟨fun k hk => ?_, fun hi d hd => ?_⟩
    · have hi : tailE E (oth c) ∉ rts E A := fun m => hk (by rw [endF_root m]; exact m)
      cases k with
      | zero =>
        show oth (upF A L ((0 : Nat) : Int) (tailE E (oth c))) ∈ _
        rw [up_is (t := 0) hT hS hcd.oth (by decide) hl0 hi, oth_oth]; simp
      | succ k =>
        rw [endF_up hi, par_is (t := 0) hT hS hcd.oth (by decide) hl0 hi, oth_oth] at hk ⊢
        exact List.mem_append_left _ (i1 k hk)
    · rcases List.mem_append.1 hd with hd | hd
      · obtain ⟨k, k1, k2, k3⟩ := i2 hti d hd
        refine ⟨k + 1, by simp at k1 ⊢; omega, ?_, ?_⟩
        · rw [endF_up hi, par_is (t := 0) hT hS hcd.oth (by decide) hl0 hi, oth_oth]; exact k2
        · rw [endF_up hi, par_is (t := 0) hT hS hcd.oth (by decide) hl0 hi, oth_oth]; exact k3
      · have hdc : d = c := List.mem_singleton.1 hd
        subst hdc
        exact ⟨0, by omega, hi, by show d = oth (upF A L ((0 : Nat) : Int) (tailE E (oth d))); rw [up_is (t := 0) hT hS hcd.oth (by decide) hl0 hi, oth_oth]⟩
/-- Down the right side. -/
theorem right_path (hT : trgB N E A = true) (hS : Sch E A L) {ord D : List Int} (h : Pst E A L ord D) : ∀ {Q : List Int} {c : Int} {S : List Int}, D = S ++ c :: (Q ++ [1]) → (∀ d ∈ c :: Q, lab L d = 1) → tailE E c ∉ rts E A →
    (∀ k, endF E A L ((1 : Nat) : Int) k (tailE E c) ∉ rts E A → upF A L ((1 : Nat) : Int) (endF E A L ((1 : Nat) : Int) k (tailE E c)) ∈ c :: Q) ∧ ∀ d ∈ c :: Q, ∃ k, k ≤ Q.length ∧ endF E A L ((1 : Nat) : Int) k (tailE E c) ∉ rts E A ∧ d = upF A L ((1 : Nat) : Int) (endF E A L ((1 : Nat) : Int) k (tailE E c))
  | [], c, S, hD, hl, hi => by
    have hV := trg_valid hT
    have hcD : c ∈ D := by rw [hD]; simp
    have hcd : isD E c := Fans.dart h.pee.fans c hcD
    have hl0 := hl c (by simp)
    have hF := h.pee.fans
    rw [hD] at hF
    have hh : tailE E (oth c) = tailE E 1 := (Fans.app.1 hF).2.1.2.2.1
    have hhr : tailE E (oth c) ∈ rts E A := by rw [hh, rts_eq]; simp
    refine ⟨fun k hk => ?_, fun d hd => ?_⟩
    · cases k with
      | zero =>
        show upF A L ((1 : Nat) : Int) (tailE E c) ∈ _
        rw [up_is (t := 1) hT hS hcd (by decide) hl0 hi]; simp
      | succ k =>
        exfalso
        rw [endF_up hi, par_is (t := 1) hT hS hcd (by decide) hl0 hi, endF_root hhr] at hk
        exact hk hhr
    · have hdc : d = c := by simpa using hd
      subst hdc
      exact ⟨0, Nat.le_refl _, hi, (up_is (t := 1) hT hS hcd (by decide) hl0 hi).symm⟩
  | c' :: Q, c, S, hD, hl, hi => by
    have hV := trg_valid hT
    have hcD : c ∈ D := by rw [hD]; simp
    have hc'D : c' ∈ D := by rw [hD]; simp
    have hcd : isD E c := Fans.dart h.pee.fans c hcD
    have hl0 := hl c (by simp)
    have hD' : D = (S ++ [c]) ++ c' :: (Q ++ [1]) := by rw [hD]; simp
    have hF := h.pee.fans
    rw [hD] at hF
    have hcc : tailE E (oth c) = tailE E c' := (Fans.app.1 hF).2.1.2.2.1
    have hnd := h.pee.nd
    have hc'1 : c' ≠ 1 := fun e => by
      rw [hD', List.map_append, List.map_cons, List.nodup_append, List.nodup_cons] at hnd
      exact hnd.2.1.1 (by rw [e]; simp)
    have ht0 : tailE E c' ≠ tailE E 0 := fun e => by
      cases S with
      | nil =>
        have := hF.1.2.2.1
        rw [oth_1] at this
        rw [hD, List.nil_append, List.map_cons, List.nodup_cons] at hnd
        exact hnd.1 (by rw [← this, ← e]; simp)
      | cons s S =>
        have := hF.1.2.2.1
        rw [oth_1] at this
        rw [hD, List.cons_append, List.map_cons, List.nodup_cons] at hnd
        exact hnd.1 (by rw [← this, ← e]; simp)
    have hti : tailE E c' ∉ rts E A := con_inner h hc'D ht0 hc'1
    obtain ⟨i1, i2⟩ := right_path hT hS h hD' (fun d hd => hl d (List.mem_cons_of_mem _ hd)) hti
    rw [← hcc] at i1 i2
    refine ⟨fun k hk => ?_, fun d hd => ?_⟩
    · cases k with
      | zero =>
        show upF A L ((1 : Nat) : Int) (tailE E c) ∈ _
        rw [up_is (t := 1) hT hS hcd (by decide) hl0 hi]; simp
      | succ k =>
        rw [endF_up hi, par_is (t := 1) hT hS hcd (by decide) hl0 hi] at hk ⊢
        exact List.mem_cons_of_mem _ (i1 k hk)
    · rcases List.mem_cons.1 hd with rfl | hd
      · exact ⟨0, by omega, hi, (up_is (t := 1) hT hS hcd (by decide) hl0 hi).symm⟩
      · obtain ⟨k, k1, k2, k3⟩ := i2 d hd
        refine ⟨k + 1, by simp; omega, ?_, ?_⟩
        · rw [endF_up hi, par_is (t := 1) hT hS hcd (by decide) hl0 hi]; exact k2
        · rw [endF_up hi, par_is (t := 1) hT hS hcd (by decide) hl0 hi]; exact k3
/-- The state in which v is the only vertex that can be taken. -/
structure Top (E : List (Int × Int)) (A : List (List Int)) (L ord D : List Int) (v : Int) : Prop extends Pst E A L ord D where
  ex : ∃ L1 a b f M, D = L1 ++ a :: b :: f :: M ∧ tailE E b = v ∧ lab L (oth a) = 0 ∧ lab L b = 1 ∧ (∀ d ∈ L1, lab L (oth d) = 0) ∧ ∀ d ∈ f :: M, d ≠ 1 → lab L d = 1
end
end Go.Proofs.YtlealdicoceekaaDoor

/- Regions, plain: for each inner vertex the peeling can be brought to where it is the only one to be taken; then the inside is its region. -/
namespace Go.Proofs.YtlealdicoceekaaDoor
open Go.RowKit

section
variable {N : Int} {E : List (Int × Int)} {A : List (List Int)} {L : List Int}
theorem first_type (hS : Sch E A L) {ord D : List Int} (h : Pst E A L ord D) {x : Int} {l : List Int} (hD : D = x :: l) : lab L (oth x) = 0 := by
  have hF := h.pee.fans
  rw [hD] at hF
  have hx : isD E x := hF.1.2.1
  have ht : tailE E x = tailE E 0 := by have := hF.1.2.2.1; rw [oth_1] at this; exact this.symm
  have h1 := hS.rt x hx (by rw [ht, rts_eq]; simp)
  have hne : x ≠ 1 := fun e => by
    obtain ⟨T, hT⟩ := h.pee.last
    have hl := h.len
    have hnd := h.pee.nd
    rw [hD] at hT hl hnd
    cases T with
    | nil => rw [List.nil_append] at hT; rw [hT] at hl; simp at hl
    | cons c T =>
      rw [List.cons_append] at hT
      obtain ⟨_, hT2⟩ := List.cons.inj hT
      rw [hT2, e, List.map_cons, List.nodup_cons] at hnd
      exact hnd.1 (by simp)
  exact (h.lev.p1 x (by rw [hD]; simp) hne).resolve_left (by omega)
theorem last_type (hS : Sch E A L) {ord D T : List Int} {z : Int} (h : Pst E A L ord D) (hD : D = T ++ z :: [1]) : lab L z = 1 ∧ lab L (oth z) ≠ 0 := by
  have hF := h.pee.fans
  rw [hD] at hF
  have hz := (Fans.app.1 hF).2.1
  have hzd : isD E z := hz.1
  have hh : tailE E (oth z) = tailE E 1 := hz.2.2.1
  have h1 := hS.rt (oth z) hzd.oth (by rw [hh, rts_eq]; simp)
  have hne : z ≠ 1 := fun e => by
    have hnd := h.pee.nd
    rw [hD, e, List.map_append, List.map_cons, List.nodup_append, List.nodup_cons] at hnd
    exact hnd.2.1.1 (by simp)
  exact ⟨(h.lev.p1 z (by rw [hD]; simp) hne).resolve_right (by omega), by omega⟩
theorem one_last {ord D P Q : List Int} (h : Pst E A L ord D) (hD : D = P ++ 1 :: Q) : Q = [] := by
  obtain ⟨T, hT⟩ := h.pee.last
  cases Q with
  | nil => rfl
  | cons q Q =>
    exfalso
    obtain ⟨W, g, hW⟩ := snoc_ex q Q
    have hnd := h.pee.nd
    rw [hD, List.map_append, List.map_cons, List.nodup_append, List.nodup_cons] at hnd
    rw [hD, hW] at hT
    have : (P ++ 1 :: W) ++ [g] = T ++ [1] := by rw [← hT]; simp
    have := (List.append_inj' this rfl).2
    simp at this
    exact hnd.2.1.1 (by rw [hW, this]; simp)
theorem top_ex (hT : trgB N E A = true) (hS : Sch E A L) {v : Int} (hvi : v ∉ rts E A) (hv0 : 0 ≤ v) (hv1 : v < (A.length : Int)) : ∀ (n : Nat) {ord D : List Int}, Pst E A L ord D → v ∉ ord → A.length ≤ ord.length + n → ∃ ord' D', Top E A L ord' D' v ∧ ∀ u ∈ ord, u ∈ ord' := by
  intro n
  induction n with
  | zero =>
    intro ord D h hv hl
    exfalso
    have := nodup_len (l := ord ++ [v]) (n := A.length) (List.nodup_append.2 ⟨h.nd, by simp, fun a ha b hb e => by rw [List.mem_singleton.1 hb] at e; exact hv (e ▸ ha)⟩) (fun u hu => by
      rcases List.mem_append.1 hu with k | k
      · exact h.rng u k
      · rw [List.mem_singleton.1 k]; exact ⟨hv0, hv1⟩)
    simp at this
    omega
  | succ n ih =>
    intro ord D h hv hl
    by_cases hp : ∃ L1 a b f M, D = L1 ++ a :: b :: f :: M ∧ lab L (oth a) = 0 ∧ lab L b = 1 ∧ tailE E b ≠ v
    · obtain ⟨L1, a, b, f, M, rfl, h0, h1, hbv⟩ := hp
      obtain ⟨X, G, p, q, hSp, hG0, hnext, hfin⟩ := pst_take hT hS h h0 h1
      by_cases hne : L1 ≠ [] ∨ M ≠ [] ∨ X ≠ []
      · obtain ⟨ord', D', h', hsub⟩ := ih (hnext hne) (fun k => by
          rcases List.mem_append.1 k with k | k
          · exact hv k
          · exact hbv (List.mem_singleton.1 k).symm) (by rw [List.length_append, List.length_singleton]; omega)
        exact ⟨ord', D', h', fun u hu => hsub u (List.mem_append_left _ hu)⟩
      · exfalso
        obtain ⟨hf1, hta, hall⟩ := hfin hne
        rcases hall v hv0 hv1 with k | k | k | k
        · exact hv k
        · exact hvi (by rw [k, hta, rts_eq]; simp)
        · exact hbv k.symm
        · exact hvi (by rw [k, hf1, rts_eq]; simp)
    · obtain ⟨L1, a, b, f, M, rfl, h0, h1⟩ := lev_pick hT hS h.pee h.lev h.len
      have hbv : tailE E b = v := Classical.byContradiction fun k => hp ⟨L1, a, b, f, M, rfl, h0, h1, k⟩
      have hnd := h.pee.nd
      refine ⟨ord, _, ⟨h, L1, a, b, f, M, rfl, hbv, h0, h1, fun d hd => ?_, fun d hd hd1 => ?_⟩, fun u hu => hu⟩
      · apply Classical.byContradiction
        intro hne
        obtain ⟨U, V, rfl⟩ := List.append_of_mem hd
        have hmem : ∀ y ∈ U ++ [d], lab L y = 1 ∨ lab L (oth y) = 0 := fun y hy => by
          refine h.lev.p1 y (by rw [List.mem_append] at hy; rcases hy with k | k <;> simp at k ⊢ <;> simp [k]) (fun e => ?_)
          rw [e] at hy
          obtain ⟨P, Q, hPQ⟩ := List.append_of_mem hy
          have := one_last h (P := P) (Q := Q ++ V ++ a :: b :: f :: M) (by
            have e2 : U ++ d :: V ++ a :: b :: f :: M = (U ++ [d]) ++ (V ++ a :: b :: f :: M) := by simp
            rw [e2, hPQ]; simp)
          simp at this
        have hd1 : lab L d = 1 := (hmem d (by simp)).resolve_right hne
        obtain ⟨x, l, hxl⟩ : ∃ x l, U ++ [d] = x :: l := by
          cases U with
          | nil => exact ⟨d, [], rfl⟩
          | cons x U => exact ⟨x, U ++ [d], rfl⟩
        have hx0 : lab L (oth x) = 0 := first_type hS h (x := x) (l := l ++ V ++ a :: b :: f :: M) (by
          have e2 : U ++ d :: V ++ a :: b :: f :: M = (U ++ [d]) ++ (V ++ a :: b :: f :: M) := by simp
          rw [e2, hxl]; simp)
        obtain ⟨P, a', b', Q, he, g0, g1⟩ := peak_ex l x (by rw [← hxl]; exact hmem) hx0 (fun z hz => by
          rw [← hxl] at hz
          simp at hz
          rw [← hz]
          exact ⟨hd1, hne⟩)
        have e2 : U ++ d :: V ++ a :: b :: f :: M = P ++ a' :: b' :: (Q ++ V ++ a :: b :: f :: M) := by
          have e3 : U ++ d :: V ++ a :: b :: f :: M = (U ++ [d]) ++ (V ++ a :: b :: f :: M) := by simp
          rw [e3, hxl, he]; simp
        obtain ⟨f', M', hfM⟩ : ∃ f' M', Q ++ V ++ a :: b :: f :: M = f' :: M' := by
          cases hq : Q ++ V ++ a :: b :: f :: M with
          | nil => simp at hq
          | cons f' M' => exact ⟨f', M', rfl⟩
        have hb'v : tailE E b' = v := Classical.byContradiction fun k => hp ⟨P, a', b', f', M', by rw [e2, hfM], g0, g1, k⟩
        rw [e2, List.map_append, List.map_cons, List.map_cons, List.nodup_append, List.nodup_cons, List.nodup_cons] at hnd
        exact hnd.2.1.2.1 (by rw [hb'v, ← hbv]; simp)
      · apply Classical.byContradiction
        intro hne
        obtain ⟨U, V, hUV⟩ := List.append_of_mem hd
        obtain ⟨V', hV'⟩ : ∃ V', V = V' ++ [1] := by
          obtain ⟨T, hT1⟩ := h.pee.last
          rw [hUV] at hT1
          rcases List.eq_nil_or_concat V with k | ⟨V', c, k⟩
          · rw [k] at hT1
            have : (L1 ++ a :: b :: U) ++ [d] = T ++ [1] := by rw [← hT1]; simp
            have := (List.append_inj' this rfl).2
            simp at this
            exact absurd this hd1
          · have k' : V = V' ++ [c] := by simpa using k
            rw [k'] at hT1
            have : (L1 ++ a :: b :: (U ++ d :: V')) ++ [c] = T ++ [1] := by rw [← hT1]; simp
            have := (List.append_inj' this rfl).2
            simp at this
            exact ⟨V', by rw [k', this]⟩
        have eD : L1 ++ a :: b :: f :: M = (L1 ++ a :: b :: U) ++ (d :: V') ++ [1] := by rw [hUV, hV']; simp
        have hmem : ∀ y ∈ d :: V', lab L y = 1 ∨ lab L (oth y) = 0 := fun y hy => by
          refine h.lev.p1 y (by rw [eD]; exact List.mem_append_left _ (List.mem_append_right _ hy)) (fun e => ?_)
          rw [e] at hy
          obtain ⟨P, Q, hPQ⟩ := List.append_of_mem hy
          have := one_last h (P := (L1 ++ a :: b :: U) ++ P) (Q := Q ++ [1]) (by rw [eD, hPQ]; simp)
          simp at this
        have hx0 : lab L (oth d) = 0 := (hmem d (by simp)).resolve_left hne
        obtain ⟨P, a', b', Q, he, g0, g1⟩ := peak_ex V' d hmem hx0 (fun z hz => by
          obtain ⟨W, z', hW⟩ := snoc_ex d V'
          have hzz : z' = z := by rw [hW] at hz; simpa using hz
          subst hzz
          exact last_type hS h (T := (L1 ++ a :: b :: U) ++ W) (by rw [eD, hW]; simp))
        have e2 : L1 ++ a :: b :: f :: M = (L1 ++ a :: b :: U ++ P) ++ a' :: b' :: (Q ++ [1]) := by rw [eD, he]; simp
        obtain ⟨f', M', hfM⟩ : ∃ f' M', Q ++ [1] = f' :: M' := by
          cases Q with
          | nil => exact ⟨1, [], rfl⟩
          | cons f' Q => exact ⟨f', Q ++ [1], rfl⟩
        have hb'v : tailE E b' = v := Classical.byContradiction fun k => hp ⟨_, a', b', f', M', by rw [e2, hfM], g0, g1, k⟩
        have e4 : L1 ++ a :: b :: f :: M = (L1 ++ [a]) ++ b :: (U ++ P ++ a' :: b' :: (Q ++ [1])) := by rw [e2]; simp
        rw [e4, List.map_append, List.map_cons, List.nodup_append, List.nodup_cons] at hnd
        exact hnd.2.1.1 (by rw [hbv, ← hb'v]; simp)
/-- The start: the third root is taken. -/
theorem pl_start (hT : trgB N E A = true) (hS : Sch E A L) {v : Int} (hvi : v ∉ rts E A) (hv0 : 0 ≤ v) (hv1 : v < (A.length : Int)) : ∃ D, Pst E A L [tailE E (nxF A (nxF A 0))] D := by
  have hV := trg_valid hT
  obtain ⟨hP, hC⟩ := pee_start hT
  have hP' : Pee E A (· ∈ ([] : List Int)) ([] ++ oth (nxF A (nxF A 0)) :: oth (nxF A 0) :: 1 :: []) := hP
  obtain ⟨X, G, p, q, hSp⟩ := spot_ex hT hP' (fun d _ _ x hx => by rcases hx with k | k <;> cases k)
  obtain ⟨i0, i1⟩ := dart01 hT
  have hx : isD E (nxF A 0) := nxF_in hV i0.1 i0.2
  have hy : isD E (nxF A (nxF A 0)) := nxF_in hV hx.1 hx.2
  have ty : tailE E (oth (nxF A 0)) = tailE E (nxF A (nxF A 0)) := by
    show _ = tailE E (sucF A (oth (nxF A 0)))
    rw [suc_tail hV hx.oth.1 hx.oth.2]
  have tz : tailE E (oth (nxF A (nxF A 0))) = tailE E 0 := by
    have h2 : tailE E (sucF A (oth (nxF A (nxF A 0)))) = tailE E 0 := by
      show tailE E (nxF A (nxF A (nxF A 0))) = _
      rw [tri_next hT]
    rw [suc_tail hV hy.oth.1 hy.oth.2] at h2
    exact h2
  obtain ⟨hc, hn, hm⟩ := rot_row hV hSp.db hSp.row hSp.rot (by simp)
  have hc' : Ch (sucF A) (oth (oth (nxF A (nxF A 0)))) (X ++ oth (nxF A 0) :: G) (oth (oth (nxF A (nxF A 0)))) := hc
  have hvr : tailE E (oth (nxF A 0)) ∈ rts E A := by rw [ty, rts_eq]; simp
  have hnd := rts_nodup hT
  have hXd : ∀ d ∈ X, isD E d ∧ tailE E d = tailE E (oth (nxF A 0)) := fun d hd => (hm d).1 (by simp [hd])
  have hXi : ∀ d ∈ X, tailE E (oth d) ∉ rts E A := fun d hd => new_inner hP' (Or.inr (by rw [← ty]; simp)) (hSp.ins d hd).1 (hSp.ins d hd).2
  have hX2 : ∀ d ∈ X, lab L (oth d) = 2 := fun d hd => by
    have h1 := hS.rt d (hXd d hd).1 (by rw [(hXd d hd).2]; exact hvr)
    have h2 := hS.one d (hXd d hd).1 (fun k => hXi d hd k.2)
    have h3 := h2.1 h1
    have h4 := hS.rng (oth d) (hXd d hd).1.oth
    have h5 := hS.ld (oth d) (hXd d hd).1.oth (by rw [oth_oth, (hXd d hd).2]; exact hvr) (by omega)
    rw [oth_oth, (hXd d hd).2, ty] at h5
    rw [h5]
    have := idx_ge hnd (i := 2) (by rw [rts_eq]; simp)
    exact this
  have hbo := head_in hV hSp.db
  have hgo : ∀ x, x ∈ [tailE E (oth (nxF A 0))] ↔ x ∈ ([] : List Int) ∨ x = tailE E (oth (nxF A 0)) := fun x => by simp
  rw [← ty]
  have hne : X ≠ [] := by
    intro hXe
    subst hXe
    have hr := Ran.fin (L := L) (ord := []) hT hP' hSp (by simp) (fun u hu => by rw [List.nil_append, List.mem_singleton] at hu; rw [hu]; exact hbo)
    rcases hr.all v hv0 hv1 with k | k | k
    · exact hvi (by rw [k, rts_eq]; simp)
    · exact hvi (by rw [k, rts_eq]; simp)
    · simp at k
      exact hvi (by rw [k]; exact hvr)
  have hne' : ([] : List Int) ≠ [] ∨ ([] : List Int) ≠ [] ∨ X ≠ [] := Or.inr (Or.inr hne)
  have hP2 := pee_take (go' := fun x => x ∈ [tailE E (oth (nxF A 0))]) hT hP' (fun d _ _ x hx => by rcases hx with k | k <;> cases k) hSp hgo hne'
  have hL2 : Lev E A L (fun x => x ∈ [tailE E (oth (nxF A 0))]) ([] ++ ((oth (oth (nxF A (nxF A 0))) :: X).map (thd A) ++ 1 :: [])) := by
    refine ⟨fun y hy1 hy2 => ?_, fun y hy1 hyi => ?_, by rw [← ty]; simp⟩
    · rw [List.nil_append, List.map_cons, List.cons_append, List.mem_cons, List.mem_append] at hy1
      rcases hy1 with rfl | hy1 | hy1
      · obtain ⟨y1, y2, y3, y4, y5⟩ := thd_ok hT hSp.da.oth
        cases hXe : X with
        | nil => exact absurd hXe hne
        | cons x X' =>
          rw [hXe] at hc'
          rw [hc'.1] at y3
          have hxm : x ∈ X := by rw [hXe]; simp
          have := trn_succ hT hS (hXd x hxm).1.oth (hXi x hxm) y3 (Or.inl (hX2 x hxm))
          rwa [oth_oth] at this
      · obtain ⟨d, hd, rfl⟩ := List.mem_map.1 hy1
        exact lev_y hT hS (hXd d hd).1 (hX2 d hd) (hXi d hd)
      · rw [List.mem_singleton] at hy1; exact absurd hy1 hy2
    · rw [List.nil_append, List.map_cons, List.cons_append, List.mem_cons, List.mem_append] at hy1
      rcases hy1 with rfl | hy1 | hy1
      · exact absurd (by rw [(thd_ok hT hSp.da.oth).2.2.2.1, oth_oth, tz, rts_eq]; simp) hyi
      · obtain ⟨d, hd, rfl⟩ := List.mem_map.1 hy1
        exact ⟨oth d, (hXd d hd).1.oth, ((thd_ok hT (hXd d hd).1).2.2.2.1).symm, hX2 d hd, by rw [oth_oth, (hXd d hd).2]; simp⟩
      · rw [List.mem_singleton] at hy1
        exact absurd (by rw [hy1, rts_eq]; simp) hyi
  refine ⟨_, hP2, hL2, by simp only [List.length_append, List.length_cons, List.length_map, List.length_nil]; have := List.length_pos_iff.2 hne; omega, by simp, fun u hu => by rw [List.mem_singleton] at hu; rw [hu]; exact hbo, fun d hd ht hl => ?_⟩
  exfalso
  have := hS.rt d hd (by rw [List.mem_singleton] at ht; rw [ht]; exact hvr)
  omega
end
end Go.Proofs.YtlealdicoceekaaDoor

/- Regions, plain: the region below a vertex. -/
namespace Go.Proofs.YtlealdicoceekaaDoor
open Go.RowKit

section
variable {N : Int} {E : List (Int × Int)} {A : List (List Int)} {L : List Int}
theorem endF_suc (t : Int) : ∀ (k : Nat) (v : Int), endF E A L t (k + 1) v = if endF E A L t k v ∈ rts E A then endF E A L t k v else parF E A L t (endF E A L t k v)
  | 0, v => by
    show (if v ∈ rts E A then v else endF E A L t 0 (parF E A L t v)) = _
    rfl
  | k + 1, v => by
    have h1 : endF E A L t (k + 1) v = if v ∈ rts E A then v else endF E A L t k (parF E A L t v) := rfl
    show (if v ∈ rts E A then v else endF E A L t (k + 1) (parF E A L t v)) = _
    by_cases h : v ∈ rts E A
    · rw [if_pos h, h1, if_pos h, if_pos h]
    · rw [if_neg h, h1, if_neg h]
      exact endF_suc t k (parF E A L t v)
theorem outer3 (hT : trgB N E A = true) : isD E 0 ∧ isD E (nxF A 0) ∧ isD E (nxF A (nxF A 0)) ∧ tailE E (nxF A 0) = tailE E 1 ∧ tailE E (oth (nxF A 0)) = tailE E (nxF A (nxF A 0)) ∧ tailE E (oth (nxF A (nxF A 0))) = tailE E 0 := by
  have hV := trg_valid hT
  obtain ⟨i0, i1⟩ := dart01 hT
  have hx := i0.nx hV
  have hy := hx.nx hV
  refine ⟨i0, hx, hy, ?_, (tail_nx hV hx).symm, ?_⟩
  · rw [tail_nx hV i0, show oth 0 = 1 by decide]
  · rw [← tail_nx hV hy, tri_next hT]
/-- The other side of a contour's edge is not inside. -/
theorem out_con (hT : trgB N E A = true) {ord D : List Int} (h : Pst E A L ord D) {c : Int} (hc : c ∈ D) : ¬ Ins E A ord (oth c) := by
  have hV := trg_valid hT
  obtain ⟨o0, o1, o2, t1, t2, t3⟩ := outer3 hT
  obtain ⟨e, hf, hea⟩ := fans_at h.pee.fans hc
  have heD : e ∈ D := by
    rcases hea with rfl | k
    · obtain ⟨T, hD⟩ := h.pee.last
      rw [hD]; simp
    · exact k
  obtain ⟨e1, c1, hec, X, G, p, q, hr, hl, hX, hG⟩ := hf
  obtain ⟨hcy, hn, hm⟩ := rot_row hV c1 hr hl (by simp)
  have hch : Ch (sucF A) (oth e) (X ++ c :: G) (oth e) := hcy
  have hvn := h.lev.vn
  have hex : ∃ g, isD E g ∧ tailE E g = tailE E c ∧ tailE E (oth g) ∈ ord := by
    by_cases hi : tailE E c ∈ rts E A
    · rw [rts_eq] at hi
      simp only [List.mem_cons, List.not_mem_nil, or_false] at hi
      rcases hi with k | k | k
      · exact ⟨oth (nxF A (nxF A 0)), o2.oth, by rw [t3, k], by rw [oth_oth]; exact hvn⟩
      · exact ⟨nxF A 0, o1, by rw [t1, k], by rw [t2]; exact hvn⟩
      · exact absurd hvn (by rw [← k]; exact h.pee.ng c hc)
    · obtain ⟨g, g1, g2, _, g4⟩ := h.lev.p2 c hc hi
      exact ⟨g, g1, g2, g4⟩
  obtain ⟨g, g1, g2, g4⟩ := hex
  have hgG : g ∈ G := by
    have hmem : g = oth e ∨ g ∈ X ∨ g = c ∨ g ∈ G := by simpa using (hm g).2 ⟨g1, g2⟩
    rcases hmem with k | k | k | k
    · rw [k, oth_oth] at g4; exact absurd g4 (h.pee.ng e heD)
    · exact absurd g4 (hX g k)
    · rw [k] at g4; exact absurd g4 (pee_head h.pee hc)
    · exact k
  cases hGe : G with
  | nil => rw [hGe] at hgG; cases hgG
  | cons g' G' =>
    rw [hGe] at hch
    have hs : sucF A c = g' := (Ch.app.1 hch).2.1
    intro hi
    have h3 := hi.2.2.2
    have e2 : nxF A (oth c) = g' := by unfold nxF; rw [oth_oth]; exact hs
    rw [e2, tail_nx hV (by rw [← e2]; exact c1.oth.nx hV)] at h3
    exact h3 (hG g' (by rw [hGe]; simp))
/-- The ends of the path in the tree 2 are gone. -/
theorem up2_gone (hT : trgB N E A = true) (hS : Sch E A L) {ord D : List Int} {v : Int} (h : Top E A L ord D v) : ∀ k, endF E A L ((2 : Nat) : Int) k v ∉ rts E A → tailE E (oth (upF A L ((2 : Nat) : Int) (endF E A L ((2 : Nat) : Int) k v))) ∈ ord := by
  have hV := trg_valid hT
  obtain ⟨L1, a, b, f, M, hD, hb, _⟩ := h.ex
  have hbD : b ∈ D := by rw [hD]; simp
  intro k
  induction k with
  | zero =>
    intro hi
    have hi' : tailE E b ∉ rts E A := by rw [hb]; exact hi
    obtain ⟨g, g1, g2, g3, g4⟩ := h.lev.p2 b hbD hi'
    show tailE E (oth (upF A L ((2 : Nat) : Int) v)) ∈ ord
    rw [← hb, ← g2, up_is (t := 2) hT hS g1 (by decide) g3 (by rw [g2]; exact hi')]
    exact g4
  | succ k ih =>
    intro hi
    have hk : endF E A L ((2 : Nat) : Int) k v ∉ rts E A := fun m => hi (by rw [endF_suc, if_pos m]; exact m)
    have hin := ih hk
    have he : endF E A L ((2 : Nat) : Int) (k + 1) v = tailE E (oth (upF A L ((2 : Nat) : Int) (endF E A L ((2 : Nat) : Int) k v))) := by
      rw [endF_suc, if_neg hk]; rfl
    rw [← he] at hin
    obtain ⟨y, hy⟩ : ∃ y, endF E A L ((2 : Nat) : Int) (k + 1) v = y := ⟨_, rfl⟩
    rw [hy] at hin hi ⊢
    have hr := h.rng y hin
    obtain ⟨y', rfl⟩ : ∃ y' : Nat, y = (y' : Int) := ⟨y.toNat, by omega⟩
    have hup := up_dart hT hS (v := y') (t := 2) (by omega) hi (by decide)
    have hul := (up_ok hT hS (v := y') (t := 2) (by omega) hi (by decide)).2
    exact h.two _ hup.1 (by rw [hup.2]; exact hin) hul
theorem top_paths (hT : trgB N E A = true) (hS : Sch E A L) {ord D : List Int} {v : Int} (h : Top E A L ord D v) (hvi : v ∉ rts E A) :
    (∀ k, endF E A L ((0 : Nat) : Int) k v ∉ rts E A → oth (upF A L ((0 : Nat) : Int) (endF E A L ((0 : Nat) : Int) k v)) ∈ D) ∧ (∀ k, endF E A L ((1 : Nat) : Int) k v ∉ rts E A → upF A L ((1 : Nat) : Int) (endF E A L ((1 : Nat) : Int) k v) ∈ D) ∧ ∀ d ∈ D, d / 2 ∈ wallF E A L v := by
  have hV := trg_valid hT
  obtain ⟨L1, a, b, f, M, hD, hb, h0, h1, hL, hR⟩ := h.ex
  have hF := h.pee.fans
  rw [hD] at hF
  have hab := (Fans.app.1 hF).2.1
  have hat : tailE E (oth a) = v := by rw [hab.2.2.1, hb]
  have hlen : D.length ≤ A.length := by
    have := nodup_len h.pee.nd (fans_range hV h.pee)
    rwa [List.length_map] at this
  have ha1 : a ≠ 1 := fun e => by
    have := one_last h.toPst (P := L1) (Q := b :: f :: M) (by rw [hD, e])
    cases this
  obtain ⟨l1, l2⟩ := left_path hT hS h.toPst (S := L1) (c := a) (Q := b :: f :: M) hD ha1 (fun d hd => by
    rcases List.mem_append.1 hd with k | k
    · exact hL d k
    · rw [List.mem_singleton.1 k]; exact h0)
  rw [hat] at l1 l2
  obtain ⟨Q, hQ⟩ : ∃ Q, f :: M = Q ++ [1] := by
    obtain ⟨T, hT1⟩ := h.pee.last
    obtain ⟨W, g, hW⟩ := snoc_ex f M
    rw [hD, hW] at hT1
    have : (L1 ++ a :: b :: W) ++ [g] = T ++ [1] := by rw [← hT1]; simp
    have := (List.append_inj' this rfl).2
    simp at this
    exact ⟨W, by rw [hW, this]⟩
  have hQ1 : ∀ d ∈ Q, d ≠ 1 := fun d hd e => by
    rw [e] at hd
    obtain ⟨P1, P2, hP⟩ := List.append_of_mem hd
    have := one_last h.toPst (P := L1 ++ a :: b :: P1) (Q := P2 ++ [1]) (by rw [hD, hQ, hP]; simp)
    simp at this
  obtain ⟨r1, r2⟩ := right_path hT hS h.toPst (Q := Q) (c := b) (S := L1 ++ [a]) (by rw [hD, hQ]; simp) (fun d hd => by
    rcases List.mem_cons.1 hd with rfl | k
    · exact h1
    · exact hR d (by rw [hQ]; exact List.mem_append_left _ k) (hQ1 d k)) (by rw [hb]; exact hvi)
  rw [hb] at r1 r2
  have hDl : D.length = L1.length + Q.length + 3 := by rw [hD, hQ]; simp; omega
  refine ⟨fun k hk => ?_, fun k hk => ?_, fun d hd => ?_⟩
  · have := l1 k hk
    rw [hD]
    rcases List.mem_append.1 this with m | m
    · exact List.mem_append_left _ m
    · rw [List.mem_singleton.1 m]; simp
  · have := r1 k hk
    rw [hD]
    rcases List.mem_cons.1 this with m | m
    · rw [m]; simp
    · refine List.mem_append_right _ (List.mem_cons_of_mem _ (List.mem_cons_of_mem _ ?_))
      rw [hQ]; exact List.mem_append_left _ m
  · rw [mem_wall]
    have hd' : d ∈ L1 ++ [a] ∨ d ∈ b :: Q ∨ d = 1 := by
      rw [hD, hQ] at hd
      simp only [List.mem_append, List.mem_cons, List.not_mem_nil, or_false] at hd ⊢
      grind
    rcases hd' with k | k | k
    · obtain ⟨j, j1, j2, j3⟩ := l2 hvi d k
      exact Or.inr ⟨0, by omega, j, by omega, j2, by rw [j3, half_oth]⟩
    · obtain ⟨j, j1, j2, j3⟩ := r2 d k
      exact Or.inr ⟨1, by omega, j, by omega, j2, by rw [j3]⟩
    · exact Or.inl ⟨0, by unfold sdL; simp, by rw [k]; decide⟩
/-- No wall has both sides inside. -/
theorem wall_sep (hT : trgB N E A = true) (hS : Sch E A L) {ord D : List Int} {v : Int} (h : Top E A L ord D v) (hvi : v ∉ rts E A) {d : Int} (h1 : Ins E A ord d) (h2 : Ins E A ord (oth d)) : d / 2 ∉ wallF E A L v := by
  have hV := trg_valid hT
  obtain ⟨o0, o1, o2, t1, t2, t3⟩ := outer3 hT
  obtain ⟨p0, p1, _⟩ := top_paths hT hS h hvi
  have hvn := h.lev.vn
  have hno0 : ¬ Ins E A ord 0 := fun k => k.2.2.2 hvn
  have hc : ∀ c, c ∈ D → d / 2 = c / 2 → False := fun c hc he => by
    rcases half_same he with e | e
    · exact out_con hT h.toPst hc (by rw [← e]; exact h2)
    · exact out_con hT h.toPst hc (by rw [← e]; exact h1)
  rw [mem_wall]
  rintro (⟨s, hs, he⟩ | ⟨t, ht, k, hk, hi, he⟩)
  · unfold sdL at hs
    simp only [List.mem_cons, List.not_mem_nil, or_false] at hs
    rcases half_same he with e | e
    · rcases hs with rfl | rfl | rfl
      · exact hno0 (e ▸ h1)
      · exact h1.head hT (by rw [e, t2]; exact hvn)
      · exact h1.tail (by rw [e]; exact hvn)
    · have e' : oth d = s := by rw [e, oth_oth]
      rcases hs with rfl | rfl | rfl
      · exact hno0 (e' ▸ h2)
      · exact h2.head hT (by rw [e', t2]; exact hvn)
      · exact h2.tail (by rw [e']; exact hvn)
  · rcases (by omega : t = 0 ∨ t = 1 ∨ t = 2) with rfl | rfl | rfl
    · exact hc _ (p0 k hi) (by rw [half_oth]; exact he)
    · exact hc _ (p1 k hi) he
    · have hg := up2_gone hT hS h k hi
      obtain ⟨y, hy⟩ : ∃ y, upF A L ((2 : Nat) : Int) (endF E A L ((2 : Nat) : Int) k v) = y := ⟨_, rfl⟩
      rw [hy] at hg he
      rcases half_same he with e | e
      · exact h1.head hT (by rw [e]; exact hg)
      · exact h1.tail (by rw [e]; exact hg)
/-- The region below v. -/
theorem top_rw (hT : trgB N E A = true) (hS : Sch E A L) {ord D : List Int} {v : Int} (h : Top E A L ord D v) (hvi : v ∉ rts E A) (d : Int) : RW A (wallF E A L v) 1 d ↔ Ins E A ord d := by
  obtain ⟨_, _, hw⟩ := top_paths hT hS h hvi
  have h1D : (1 : Int) ∈ D := by obtain ⟨T, hD⟩ := h.pee.last; rw [hD]; simp
  have hi1 := con_ins hT h.pee h1D
  constructor
  · intro hr
    induction hr with
    | base => exact hi1
    | nx _ ih => exact ih.nx hT
    | op _ hd ih => exact Classical.byContradiction fun k => hd (hw _ (ins_out hT h.pee ih k))
  · intro hi
    have hr := ins_rin hT hS A.length h.toPst (by omega) d hi
    have key : ∀ d, Rin E A ord d → Ins E A ord d ∧ RW A (wallF E A L v) 1 d := by
      intro d hr
      induction hr with
      | base => exact ⟨hi1, .base⟩
      | nx _ ih => exact ⟨ih.1.nx hT, .nx ih.2⟩
      | op _ ho ih => exact ⟨ho, .op ih.2 (wall_sep hT hS h hvi ih.1 ho)⟩
    exact (key d hr).2
/-- What is known of the region below a vertex. -/
structure Reg2 (E : List (Int × Int)) (A : List (List Int)) (L : List Int) (v : Int) : Prop where
  p0 : ∀ k, endF E A L ((0 : Nat) : Int) k v ∉ rts E A → RW A (wallF E A L v) 1 (oth (upF A L ((0 : Nat) : Int) (endF E A L ((0 : Nat) : Int) k v)))
  p1 : ∀ k, endF E A L ((1 : Nat) : Int) k v ∉ rts E A → RW A (wallF E A L v) 1 (upF A L ((1 : Nat) : Int) (endF E A L ((1 : Nat) : Int) k v))
  no : ∀ d, RW A (wallF E A L v) 1 d → isD E d ∧ tailE E d ≠ tailE E (nxF A (nxF A 0)) ∧ tailE E (oth d) ≠ tailE E (nxF A (nxF A 0))
  lt : ∀ x, x ∉ rts E A → 0 ≤ x → x < (A.length : Int) → x ≠ v → (∃ d, RW A (wallF E A L v) 1 d ∧ tailE E d = x) → (∀ d, RW A (wallF E A L x) 1 d → RW A (wallF E A L v) 1 d) ∧ ∃ d, RW A (wallF E A L v) 1 d ∧ ¬ RW A (wallF E A L x) 1 d
theorem reg2 (hT : trgB N E A = true) (hS : Sch E A L) {v : Int} (hvi : v ∉ rts E A) (hv0 : 0 ≤ v) (hv1 : v < (A.length : Int)) : Reg2 E A L v := by
  have hV := trg_valid hT
  obtain ⟨D0, h0⟩ := pl_start hT hS hvi hv0 hv1
  obtain ⟨ord, D, h, _⟩ := top_ex hT hS hvi hv0 hv1 A.length h0 (fun k => hvi (by rw [List.mem_singleton.1 k, rts_eq]; simp)) (by omega)
  have hrw := top_rw hT hS h hvi
  obtain ⟨p0, p1, _⟩ := top_paths hT hS h hvi
  have hvn := h.lev.vn
  refine ⟨fun k hk => (hrw _).2 (con_ins hT h.pee (p0 k hk)), fun k hk => (hrw _).2 (con_ins hT h.pee (p1 k hk)), fun d hd => ?_, fun x hxi hx0 hx1 hxv hex => ?_⟩
  · have hi := (hrw d).1 hd
    exact ⟨hi.1, fun e => hi.tail (by rw [e]; exact hvn), fun e => hi.head hT (by rw [e]; exact hvn)⟩
  · obtain ⟨d, hd, hdx⟩ := hex
    have hxo : x ∉ ord := by rw [← hdx]; exact ((hrw d).1 hd).tail
    obtain ⟨L1, a, b, f, M, hD, hb, l0, l1, _⟩ := h.ex
    subst hD
    obtain ⟨X, G, p, q, hSp, _, hnext, hfin⟩ := pst_take hT hS h.toPst l0 l1
    have hne : L1 ≠ [] ∨ M ≠ [] ∨ X ≠ [] := Classical.byContradiction fun hne => by
      obtain ⟨hf1, hta, hall⟩ := hfin hne
      rcases hall x hx0 hx1 with k | k | k | k
      · exact hxo k
      · exact hxi (by rw [k, hta, rts_eq]; simp)
      · exact hxv (by rw [k, hb])
      · exact hxi (by rw [k, hf1, rts_eq]; simp)
    obtain ⟨ord', D', h', hsub⟩ := top_ex hT hS hxi hx0 hx1 A.length (hnext hne) (fun k => by
      rcases List.mem_append.1 k with k | k
      · exact hxo k
      · exact hxv (by rw [List.mem_singleton.1 k, hb])) (by omega)
    have hrx := top_rw hT hS h' hxi
    refine ⟨fun d hd => (hrw d).2 (((hrx d).1 hd).mono fun u hu => hsub u (List.mem_append_left _ hu)), b, (hrw b).2 (con_ins hT h.pee (by simp)), fun k => ?_⟩
    exact ((hrx b).1 k).tail (hsub _ (by simp))
end
end Go.Proofs.YtlealdicoceekaaDoor

/- Relabelled systems, plain: a system with its darts named anew is triangulated too. -/
namespace Go.Proofs.YtlealdicoceekaaDoor
open Go.RowKit

theorem ge_map (s : Int → Int) : ∀ {l : List Int} {k : Nat}, k < l.length → ge (l.map s) k = s (ge l k) := by
  intro l k hk
  rw [ge_eq _ (by simpa using hk), ge_eq _ hk]; simp
theorem tail_two (E : List (Int × Int)) (i : Nat) : tailE E (2 * (i : Int)) = (pr E i).1 ∧ tailE E (2 * (i : Int) + 1) = (pr E i).2 := by
  unfold tailE
  rw [if_pos (by omega), if_neg (by omega), show ((2 * (i : Int)) / 2).toNat = i by omega, show ((2 * (i : Int) + 1) / 2).toNat = i by omega]
  exact ⟨rfl, rfl⟩
theorem oth_two (i : Nat) : oth (2 * (i : Int)) = 2 * (i : Int) + 1 ∧ oth (2 * (i : Int) + 1) = 2 * (i : Int) := by
  unfold oth; rw [if_pos (by omega), if_neg (by omega)]; exact ⟨rfl, by omega⟩
theorem dart_two (d : Int) (h0 : 0 ≤ d) : (d = 2 * ((d / 2).toNat : Int)) ∨ (d = 2 * ((d / 2).toNat : Int) + 1) := by omega
/-- The darts are named anew. -/
structure Rel (E : List (Int × Int)) (A : List (List Int)) (E' : List (Int × Int)) (A' : List (List Int)) (s : Int → Int) : Prop where
  len : E'.length = E.length
  row : A' = A.map (List.map s)
  inv : ∀ d, s (s d) = d
  isd : ∀ d, isD E d → isD E (s d)
  op : ∀ d, s (oth d) = oth (s d)
  tl : ∀ d, isD E d → tailE E' (s d) = tailE E d
section
variable {N : Int} {E E' : List (Int × Int)} {A A' : List (List Int)} {s : Int → Int}
theorem Rel.isD (h : Rel E A E' A' s) {d : Int} : isD E' d ↔ isD E d := by unfold Go.Proofs.YtlealdicoceekaaDoor.isD; rw [h.len]
theorem Rel.inj (h : Rel E A E' A' s) {x y : Int} (e : s x = s y) : x = y := by rw [← h.inv x, e, h.inv]
theorem Rel.al (h : Rel E A E' A' s) : A'.length = A.length := by rw [h.row]; simp
theorem Rel.rowOf (h : Rel E A E' A' s) {v : Nat} (hv : v < A.length) : rowOf A' v = (rowOf A v).map s := by
  rw [h.row]; unfold Go.Proofs.YtlealdicoceekaaDoor.rowOf; simp [hv]
theorem Rel.tl' (h : Rel E A E' A' s) {d : Int} (hd : Go.Proofs.YtlealdicoceekaaDoor.isD E d) : tailE E' d = tailE E (s d) := by
  have := h.tl (s d) (h.isd d hd); rw [h.inv] at this; exact this
theorem Rel.pre (h : Rel E A E' A' s) : pre A' A'.length = (pre A A.length).map fun q => (q.1, s q.2) := by
  unfold Go.Proofs.YtlealdicoceekaaDoor.pre
  rw [h.al, List.map_flatMap]
  rw [List.flatMap_def, List.flatMap_def]
  congr 1
  apply List.map_congr_left
  intro v hv
  rw [h.rowOf (List.mem_range.1 hv), List.map_map, List.map_map]
  rfl
theorem okD (hV : vRot N E A) {d : Int} (hd : isD E d) : 0 ≤ tailE E d ∧ tailE E d < N ∧ tailE E d ≠ tailE E (oth d) := by
  have hi : (d / 2).toNat < E.length := by have := hd.1; have := hd.2; omega
  obtain ⟨a0, a1, b0, b1, ne⟩ := hV.ed _ hi
  have t := tail_two E (d / 2).toNat
  have o := oth_two (d / 2).toNat
  rcases dart_two d hd.1 with e | e
  · rw [e, o.1, t.1, t.2]; exact ⟨a0, a1, ne⟩
  · rw [e, o.2, t.1, t.2]; exact ⟨b0, b1, fun k => ne k.symm⟩
theorem isD_two {i : Nat} (hi : i < E.length) : isD E (2 * (i : Int)) ∧ isD E (2 * (i : Int) + 1) := ⟨⟨by omega, by omega⟩, by omega, by omega⟩
theorem Rel.valid (h : Rel E A E' A' s) (hV : vRot N E A) : vRot N E' A' := by
  refine ⟨hV.n0, hV.n1, by rw [h.len]; exact hV.e1, by rw [h.al]; exact hV.al, fun i hi => ?_, fun q hq => ?_, ?_, ?_⟩
  · rw [h.len] at hi
    obtain ⟨d0, d1⟩ := isD_two hi
    have e0 := h.tl' d0
    have e1 := h.tl' d1
    rw [← (oth_two i).1, h.op] at e1
    rw [(oth_two i).1, (tail_two E' i).2] at e1
    rw [(tail_two E' i).1] at e0
    have k0 := okD hV (h.isd _ d0)
    have k1 := okD hV (h.isd _ d0).oth
    unfold okEdge
    rw [e0, e1]
    exact ⟨k0.1, k0.2.1, k1.1, k1.2.1, k0.2.2⟩
  · rw [h.pre] at hq
    obtain ⟨p, hp, rfl⟩ := List.mem_map.1 hq
    obtain ⟨k0, k1, k2⟩ := hV.dr p hp
    have hd : Go.Proofs.YtlealdicoceekaaDoor.isD E p.2 := ⟨k0, k1⟩
    have hs := h.isd _ hd
    exact ⟨hs.1, by rw [h.len]; exact hs.2, by rw [← k2]; exact h.tl _ hd⟩
  · rw [h.pre, List.map_map]
    have e : ((fun q : Nat × Int => q.2) ∘ fun q : Nat × Int => (q.1, s q.2)) = s ∘ fun q : Nat × Int => q.2 := rfl
    rw [e, ← List.map_map]
    unfold List.Nodup
    rw [List.pairwise_map]
    exact List.Pairwise.imp (fun hne he => hne (h.inj he)) hV.nd
  · rw [h.pre, List.length_map, h.len]; exact hV.ln
theorem Rel.suc (h : Rel E A E' A' s) (hV : vRot N E A) {d : Int} (hd : Go.Proofs.YtlealdicoceekaaDoor.isD E d) : sucF A' (s d) = s (sucF A d) := by
  obtain ⟨v, k, hv, hk, e, _⟩ := dart_pos hV hd.1 hd.2
  have hV' := h.valid hV
  have hr := h.rowOf hv
  have hk' : k < (Go.Proofs.YtlealdicoceekaaDoor.rowOf A' v).length := by rw [hr]; simpa using hk
  have h1 := suc_of hV' (v := v) (k := k) (by rw [h.al]; exact hv) hk'
  have h2 := suc_of hV hv hk
  rw [hr, ge_map s hk, List.length_map, ge_map s (Nat.mod_lt _ (by omega)), e] at h1
  rw [h1, ← h2, e]
theorem Rel.nx (h : Rel E A E' A' s) (hV : vRot N E A) {d : Int} (hd : Go.Proofs.YtlealdicoceekaaDoor.isD E d) : nxF A' (s d) = s (nxF A d) := by
  unfold nxF; rw [← h.op]; exact h.suc hV hd.oth
theorem nbr_ends {u v : Int} : nbrJ E E.length u v ↔ ∃ d, isD E d ∧ tailE E d = u ∧ tailE E (oth d) = v := by
  constructor
  · rintro ⟨i, hi, ⟨e1, e2⟩ | ⟨e1, e2⟩⟩
    · exact ⟨2 * (i : Int), (isD_two hi).1, by rw [(tail_two E i).1]; exact e1, by rw [(oth_two i).1, (tail_two E i).2]; exact e2⟩
    · exact ⟨2 * (i : Int) + 1, (isD_two hi).2, by rw [(tail_two E i).2]; exact e1, by rw [(oth_two i).2, (tail_two E i).1]; exact e2⟩
  · rintro ⟨d, hd, e1, e2⟩
    have hi : (d / 2).toNat < E.length := by have := hd.1; have := hd.2; omega
    refine ⟨(d / 2).toNat, hi, ?_⟩
    have t := tail_two E (d / 2).toNat
    have o := oth_two (d / 2).toNat
    rcases dart_two d hd.1 with e | e
    · rw [e, t.1] at e1; rw [e, o.1, t.2] at e2; exact Or.inl ⟨e1, e2⟩
    · rw [e, t.2] at e1; rw [e, o.2, t.1] at e2; exact Or.inr ⟨e1, e2⟩
theorem Rel.cn (h : Rel E A E' A' s) {u v : Int} (k : Cn E E.length u v) : Cn E' E'.length u v := by
  induction k with
  | refl => exact .refl _
  | step _ hn ih =>
    obtain ⟨d, hd, e1, e2⟩ := nbr_ends.1 hn
    refine ih.step (nbr_ends.2 ⟨s d, h.isD.2 (h.isd d hd), by rw [h.tl d hd]; exact e1, by rw [← h.op, h.tl _ hd.oth]; exact e2⟩)
theorem Rel.sim (h : Rel E A E' A' s) (hT : trgB N E A = true) : simB E' = true := by
  refine sim_all fun i hi => join_none fun j hj => ?_
  rw [List.length_take] at hj
  have hji : j < i := by omega
  have hp : pr (E'.take i) j = pr E' j := by
    unfold pr
    simp only [List.getD_eq_getElem?_getD]
    rw [List.getElem?_take, if_pos hji]
  rw [hp]
  apply Classical.byContradiction
  intro hne
  have hjn : jn (pr E' i).1 (pr E' i).2 (pr E' j) = true := by simpa using hne
  rw [h.len] at hi
  have hjl : j < E.length := by omega
  have t1 := tail_two E' i
  have t2 := tail_two E' j
  have o1 := oth_two i
  have o2 := oth_two j
  have di := (isD_two hi).1
  have key : ∀ d d' : Int, Go.Proofs.YtlealdicoceekaaDoor.isD E d → Go.Proofs.YtlealdicoceekaaDoor.isD E d' → tailE E' d = tailE E' d' → tailE E' (oth d) = tailE E' (oth d') → d = d' := fun d d' hd hd' e1 e2 => by
    rw [h.tl' hd, h.tl' hd'] at e1
    rw [h.tl' hd.oth, h.tl' hd'.oth, h.op, h.op] at e2
    exact h.inj (dart_uniq hT (h.isd _ hd) (h.isd _ hd') e1 e2)
  unfold jn at hjn
  simp only [Bool.or_eq_true, Bool.and_eq_true, beq_iff_eq] at hjn
  rcases hjn with ⟨e1, e2⟩ | ⟨e1, e2⟩
  · have := key _ _ di (isD_two hjl).1 (by rw [t1.1, t2.1, e1]) (by rw [o1.1, o2.1, t1.2, t2.2, e2])
    omega
  · have := key _ _ di (isD_two hjl).2 (by rw [t1.1, t2.2, e2]) (by rw [o1.1, o2.2, t1.2, t2.1, e1])
    omega
theorem same_len {l m : List Int} (hl : l.Nodup) (hm : m.Nodup) (h : ∀ y, y ∈ l ↔ y ∈ m) : l.length = m.length :=
  Nat.le_antisymm (sub_len hl fun x hx => (h x).1 hx) (sub_len hm fun x hx => (h x).2 hx)
theorem flat_nodup {L : List (List Int)} (h : L.flatten.Nodup) {l : List Int} (hl : l ∈ L) : l.Nodup := by
  obtain ⟨P, Q, rfl⟩ := List.append_of_mem hl
  rw [List.flatten_append, List.flatten_cons, List.nodup_append] at h
  exact (List.nodup_append.1 h.2.1).1
theorem Rel.trg (h : Rel E A E' A' s) (hT : trgB N E A = true) : trgB N E' A' = true := by
  have hV := trg_valid hT
  have hV' := h.valid hV
  obtain ⟨hg, hc, _, hN⟩ := chk_all (trg_chk hT)
  have hA0 : 0 < A.length := by have := hV.al; omega
  have hone : cntL E A.length = 1 := by unfold connB at hc; exact of_decide_eq_true hc
  have hone' : cntL E' A'.length = 1 := by
    rw [h.al]
    exact (one_comp hA0).2 fun v hv => h.cn ((one_comp hA0).1 hone v hv)
  have hdec := (fac_dec hV).map (D' := fun x => 0 ≤ x ∧ x < 2 * (E'.length : Int)) (h := nxF A') (r := s) (fun y hy => h.nx hV hy) (fun x y _ _ e => h.inj e)
    (fun x => ⟨fun hx => ⟨s x, h.isd _ (h.isD.1 hx), h.inv x⟩, fun ⟨y, hy, e⟩ => by rw [← e]; exact h.isD.2 (h.isd y hy)⟩)
  have hdec' := fac_dec hV'
  have hfl : (facesF A' (2 * E'.length)).length = (facesF A (2 * E.length)).length := by
    rw [hdec'.len hdec, List.length_map]
  have hiso : isoN A' = isoN A := by
    unfold isoN
    rw [h.al]
    refine cntP_congr fun u hu => ?_
    rw [h.rowOf hu, List.length_map]
  have hgx : genX N E' A' = genX N E A := by unfold genX; rw [hfl, hiso, h.len]
  have hg' : genusF N E' A' = 0 := by
    rw [genus_eq hV', hone', hgx]
    rw [genus_eq hV, hone] at hg
    exact hg
  have hall : ∀ l ∈ facesF A (2 * E.length), l.length = 3 := fun l hl => by
    unfold trgB at hT
    rw [Bool.and_eq_true, List.all_eq_true] at hT
    have := hT.2 l (by unfold facesO; rw [if_pos (vRotB_iff.2 hV)]; exact hl)
    exact of_decide_eq_true this
  unfold trgB
  rw [Bool.and_eq_true]
  constructor
  · unfold chkC
    rw [if_pos hg', if_pos (by unfold connB; rw [hone']; rfl), if_pos (h.sim hT), if_neg (by omega)]
    rfl
  · rw [List.all_eq_true]
    intro l hl
    unfold facesO at hl
    rw [if_pos (vRotB_iff.2 hV')] at hl
    refine decide_eq_true ?_
    have hcy := hdec'.cyc l hl
    obtain ⟨x, hx⟩ : ∃ x, x ∈ l := List.exists_mem_of_ne_nil _ hcy.ne
    have hxD := (hdec'.mem x).1 (List.mem_flatten.2 ⟨l, hl, hx⟩)
    obtain ⟨m, hm, hxm⟩ := List.mem_flatten.1 ((hdec.mem x).2 hxD)
    have := same_len (flat_nodup hdec'.nd hl) (flat_nodup hdec.nd hm) (hcy.same (hdec.cyc m hm) hx hxm)
    rw [this]
    obtain ⟨m', hm', rfl⟩ := List.mem_map.1 hm
    rw [List.length_map]
    exact hall m' hm'
end
end Go.Proofs.YtlealdicoceekaaDoor
