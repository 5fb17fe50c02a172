/- Joined by a program from the texts BenG BenH BenI BenJ RepL BenK BenL BenN BenO BenP BenQ BenR BenS BenT Laid. -/
import Derived.Test.YtiihgpgpbgafiaaDoorRNd
import Derived.Laws.StructEq
import Derived.Laws.Concat
import Derived.Shelf.Strings.Repeat
import Derived.Test.YtiihgpgpbgafiaaDoorChecked
import Derived.LaidLaws
import Derived.Lib.LaidTab
import Derived.SevenTiedAt
set_option linter.unusedSimpArgs false
set_option linter.unusedVariables false
/- Net of the reference. -/
namespace Go.Proofs.YtiihgpgpbgafiaaDoor
open Go.RowKit
attribute [local go_sem ↓] Go.wp_at_zero Go.wp_at_succ

set_option maxRecDepth 8000 in
set_option maxHeartbeats 4000000 in
theorem net_r_no (N : Int) (pE pA : Option Addr) (nE nA cE cA : Nat) (E : List (Int × Int)) (A : List (List Int)) (o : Int) (w : World) (hR : RotAt w pE pA E A) (hnE : E.length = nE) (hnA : A.length = nA) (hE3 : E.length ≤ 30) (hA3 : A.length ≤ 30) (hno : netE N E A o ≠ 0 ∨ E = []) :
    Calls Tryd.prog 11 #[.agg #[.int .i64 N, .slice pE nE cE, .slice pA nA cA], .int .i64 o] w (NetPost [] [] (netE N E A o) w) := by
  subst hnE hnA
  have HR := Lib.hid hR
  obtain ⟨z, hz⟩ : ∃ z, netE N E A o = z := ⟨_, rfl⟩
  have Hr : Hid (∀ W1, Grew w W1 → Calls Tryd.prog 23 #[.agg #[.int .i64 N, .slice pE E.length cE, .slice pA A.length cA], .int .i64 o] W1 fun e w' => e = .returned (.int .i64 z) ∧ Grew W1 w') := Lib.hid (fun W1 h => by rw [← hz]; exact refused_r _ _ _ _ _ _ _ _ _ _ _ (HR.out.grew h) rfl rfl hE3 hA3)
  rw [hz] at hno ⊢
  clear hz hR
  by_cases hz0 : z = 0
  · subst hz0
    have hE : E.length = 0 := by rcases hno with h | h; exact absurd rfl h; rw [h]; rfl
    clear hno
    rw [hE] at Hr ⊢
    go_enter Tryd.func11, Tryd.ntmps11
    go_wp2_with ((go_at_call 23; apply Calls.mono; (with_reducible exact Hr.out _ (by (repeat (first | exact gR _ | refine gO ?_ _ | refine gA ?_ _ | refine gD ?_ | refine gN ?_ _)))); rintro e w' ⟨rfl, x, rfl⟩))
    refine bodyPost_ret (v := .tuple #[.agg #[.slice none 0 0, .slice none 0 0], .int .i64 0]) (by simp [results, Tryd.results11, go_sem, ↓IntWalk.iteOmega]) rfl ?_
    exact netpost_none _ (by (repeat (first | exact gR _ | refine gO ?_ _ | refine gA ?_ _ | refine gD ?_ | refine gN ?_ _)))
  · have hzb : (z != 0) = true := by simpa using hz0
    clear hno hz0
    go_enter Tryd.func11, Tryd.ntmps11
    go_wp2_with ((go_at_call 23; apply Calls.mono; (with_reducible exact Hr.out _ (by (repeat (first | exact gR _ | refine gO ?_ _ | refine gA ?_ _ | refine gD ?_ | refine gN ?_ _)))); rintro e w' ⟨rfl, x, rfl⟩))
    refine bodyPost_ret (v := .tuple #[.agg #[.slice none 0 0, .slice none 0 0], .int .i64 z]) (by simp [results, Tryd.results11, go_sem, ↓IntWalk.iteOmega]) rfl ?_
    exact netpost_none _ (by (repeat (first | exact gR _ | refine gO ?_ _ | refine gA ?_ _ | refine gD ?_ | refine gN ?_ _)))

set_option maxRecDepth 8000 in
set_option maxHeartbeats 16000000 in
theorem net_r_ok (N : Int) (pE pA : Option Addr) (nE nA cE cA : Nat) (E : List (Int × Int)) (A : List (List Int)) (o : Int) (w : World) (hR : RotAt w pE pA E A) (hnE : E.length = nE) (hnA : A.length = nA) (hE3 : E.length ≤ 30) (hA3 : A.length ≤ 30) (hok : NetOK N E A o) (hE0 : 0 < E.length) :
    Calls Tryd.prog 11 #[.agg #[.int .i64 N, .slice pE nE cE, .slice pA nA cA], .int .i64 o] w (NetPost (supL A (facesO N E A) o) (arcK A.length (facesO N E A) E (2 * E.length)) 0 w) := by
  subst hnE hnA
  have hN := hok.n
  subst hN
  have HR := Lib.hid hR
  have HO := Lib.hid hok
  have Hr : Hid (∀ W1, Grew w W1 → Calls Tryd.prog 23 #[.agg #[.int .i64 A.length, .slice pE E.length cE, .slice pA A.length cA], .int .i64 o] W1 fun e w' => e = .returned (.int .i64 0) ∧ Grew W1 w') := Lib.hid (fun W1 h => by rw [← HO.out.e]; exact refused_r _ _ _ _ _ _ _ _ _ _ _ (HR.out.grew h) rfl rfl hE3 hA3)
  have Htl : Hid (∀ (d : Nat) (W1 : World), d < 2 * E.length → Grew w W1 → Calls Tryd.prog 33 #[.agg #[.int .i64 A.length, .slice pE E.length cE, .slice pA A.length cA], .int .i64 d] W1 fun e w' => e = .returned (.int .i64 (tailE E d)) ∧ Grew W1 w') := Lib.hid (fun d W1 hd h => by
    have h1 := tailr_l (A.length : Int) pE pA E.length A.length cE cA E A d W1 (HR.out.grew h) rfl rfl
    rw [show tailF A.length E A d = tailE E d by unfold tailF; rw [if_pos ⟨vRotB_iff.2 HO.out.v, by omega, by omega⟩]] at h1
    exact h1)
  have Hff := Lib.hid (facs_ok hok.v)
  have Hsup := Lib.hid (hok.sup (by omega) (by omega))
  obtain ⟨F, hF⟩ : ∃ F, facesO A.length E A = F := ⟨_, rfl⟩
  have Hfc : Hid (∀ d : Int, 0 ≤ d → d < 2 * (E.length : Int) → ∃ i : Nat, faceF F d = i ∧ i < F.length ∧ d ∈ rowOf F i) := Lib.hid (by rw [← hF]; exact fun d => hok.fc)
  have Harc : Hid (∀ k, k ≤ 2 * E.length → ∀ i, i < (arcK A.length F E k).length → Fl.w64 (Fl.aK (arcK A.length F E k) i).fr ∧ Fl.w64 (Fl.aK (arcK A.length F E k) i).ed ∧ Fl.w64 (Fl.aK (arcK A.length F E k) i).cap ∧ Fl.w64 (Fl.aK (arcK A.length F E k) i).cost) := Lib.hid (fun k hk => by rw [← hF]; exact hok.arcs hk (by omega) (by omega))
  rw [hF] at Hff Hsup
  obtain ⟨f, hf⟩ : ∃ f, F.length = f := ⟨_, rfl⟩
  have hf2 : f ≤ 2 * E.length := by rw [← hf]; exact Hff.out.len
  have Hlf := Lib.hid hf
  have Hfl2 : Hid (∀ W1, Grew w W1 → Calls Tryd.prog 25 #[.agg #[.int .i64 A.length, .slice pE E.length cE, .slice pA A.length cA]] W1 fun e w' => Grew W1 w' ∧ ∃ q cap, e = .returned (.slice q f cap) ∧ Mat w' q F) := Lib.hid (fun W1 h => by
    have h1 := faces_r (A.length : Int) pE pA E.length A.length cE cA E A W1 (HR.out.grew h) rfl rfl
    rw [hF] at h1
    refine h1.mono fun e w' ⟨h2, q, cap, h3, h4⟩ => ⟨h2, q, cap, by rw [h3, hf], h4⟩)
  have hcl2 : 1 ≤ A.length := by rw [← hok.c]; exact cntP_le _ _
  have ho := hok.o
  obtain ⟨oN, hoN⟩ : ∃ oN : Nat, o = oN := ⟨o.toNat, by omega⟩
  subst hoN
  have ho2 : oN < 2 * E.length := by omega
  have hdeg := Lib.hid hok.d
  have Hb := Lib.hid (netB_start w A.length (.slice pE E.length cE) (.slice pA A.length cA))
  rw [hF]
  obtain ⟨bA, oA, rp, rc, rfl, lA, cA'⟩ := hR.hA.rows (by omega)
  have HcA := Lib.hid cA'
  have hEb : ((E.length : Int) == 0) = false := beq_eq_false_iff_ne.2 (by omega)
  clear hR hok ho cA' hF hf
  go_enter Tryd.func11, Tryd.ntmps11
  go_upto_region 5 with (first
    | (go_at_call 23; apply Calls.mono; (with_reducible exact Hr.out _ (by (repeat (first | exact gR _ | refine gO ?_ _ | refine gA ?_ _ | refine gD ?_ | refine gN ?_ _)))); rintro e w' ⟨rfl, x, rfl⟩)
    | (go_at_call 25; apply Calls.mono; (with_reducible exact Hfl2.out _ (by (repeat (first | exact gR _ | refine gO ?_ _ | refine gA ?_ _ | refine gD ?_ | refine gN ?_ _)))); rintro e w5 ⟨hg5, qF, cF, rfl, hM⟩; have Hw5 := Lib.hid (Grew.trans (show Grew w _ by (repeat (first | exact gR _ | refine gO ?_ _ | refine gA ?_ _ | refine gD ?_ | refine gN ?_ _))) hg5); have HM5 := Lib.hid hM; have HB5 := Lib.hid (Hb.out.grew (Grew.trans (by (repeat (first | exact gR _ | refine gO ?_ _ | refine gA ?_ _ | refine gD ?_ | refine gN ?_ _))) hg5)); clear hM hg5; have b0 := own_bx HB5.out (j := 0) rfl; have q0 := b0.2.2.2 0 _ rfl; have q1 := b0.2.2.2 1 _ rfl; have q2 := b0.2.2.2 2 _ rfl; clear b0))
  have HO6 : Hid (Owns (w5.alloc (.cells #[.slice none 0 0, .slice none 0 0] 31)) w5.heap.size [lR (.slice none 0 0) 0 (tab 0 fun v => 4 - ((rowOf A v).length : Int)), bx w5.heap.size 31 2 [.slice none 0 0, .slice none 0 0]]) :=
    Lib.hid (((Owns.nil w5 w5.heap.size).made (Nat.le_refl _) #[.slice none 0 0, .slice none 0 0] 31 2 1 w5.heap.size rfl (by decide) rfl).none 3 1)
  have HG6 : Hid (Grew w5 (w5.alloc (.cells #[.slice none 0 0, .slice none 0 0] 31))) := Lib.hid (by (repeat (first | exact gR _ | refine gO ?_ _ | refine gA ?_ _ | refine gD ?_ | refine gN ?_ _)))
  have Q0 := Lib.hid q0
  have Q1 := Lib.hid q1
  have Q2 := Lib.hid q2
  go_upto_region 6 with fail
  obtain ⟨g9, hg9⟩ : ∃ g9, w5.heap.size = g9 := ⟨_, rfl⟩
  have Hgs : Hid (w5.heap.size ≤ g9) := Lib.hid (Nat.le_of_eq hg9)
  have hgs := Hgs.out
  obtain ⟨w6, hw6⟩ : ∃ w6, w5.alloc (.cells #[.slice none 0 0, .slice none 0 0] 31) = w6 := ⟨_, rfl⟩
  rw [hw6, hg9] at HO6
  rw [hw6] at HG6
  rw [hw6, hg9]
  clear hw6 hg9 q0 q1 q2
  have Hface : Hid (∀ (d r : Int) (W1 : World), faceF F d = r → Grew w5 W1 → Calls Tryd.prog 26 #[.slice qF f cF, .int .i64 d] W1 fun e w' => e = .returned (.int .i64 r) ∧ W1 = w') := Lib.hid (fun d r W1 hr h => face_r qF f cF F d W1 (HM5.out.grew h) Hlf.out r hr)
  go_wp2
  go_loopw [9] (fun kv wr => ∃ k : Nat, k ≤ A.length ∧ kv = .int .i64 k ∧ Grew w5 wr ∧ ∃ vS, Owns wr g9 [lR vS k (tab k fun v => 4 - ((rowOf A v).length : Int)), bx g9 31 2 [vS, .slice none 0 0]]) (fun kv _ => A.length - (intOf kv).toNat)
  case atStart => exact ⟨0, Nat.zero_le _, rfl, HG6.out.trans (by (repeat (first | exact gR _ | refine gO ?_ _ | refine gA ?_ _ | refine gD ?_ | refine gN ?_ _))), _, HO6.out.grew (by (repeat (first | exact gR _ | refine gO ?_ _ | refine gA ?_ _ | refine gD ?_ | refine gN ?_ _)))⟩
  case round =>
    obtain ⟨k, hk, rfl, hgr, vS, hOk⟩ := hrel
    obtain ⟨pS, cS, rfl⟩ := own_form hOk (k := 0) rfl
    have Hgr := Lib.hid hgr
    have HOk := Lib.hid hOk
    have hszr := hgr.below.size
    have q0 := hgr.cellEq Q0.out
    have q2 := hgr.cellEq Q2.out
    have b1 := own_bx hOk (j := 1) rfl
    have g91 := b1.2.1
    have u0 := b1.2.2.2 0 _ rfl
    have u1 := b1.2.2.1 0
    clear hgr hOk b1 HO6 HG6
    by_cases hlk : k < A.length
    · obtain ⟨a1, _⟩ := HcA.out wr (Hw5.out.trans Hgr.out) k hlk
      obtain ⟨rv, hrv⟩ : ∃ rv, rp k = rv := ⟨_, rfl⟩
      rw [hrv] at a1
      obtain ⟨ln, hln⟩ : ∃ ln, (rowOf A k).length = ln := ⟨_, rfl⟩
      rw [hln] at a1
      have hl4 := hdeg.out k hlk
      rw [hln] at hl4
      have Hts : Hid (tab (k + 1) (fun v => 4 - ((rowOf A v).length : Int)) = tab k (fun v => 4 - ((rowOf A v).length : Int)) ++ [4 - (ln : Int)]) := Lib.hid (by rw [tab_succ, hln])
      have hki : (k : Int) < (A.length : Int) := by omega
      have hwl : IntKind.i64.wrap (4 - (ln : Int)) = 4 - (ln : Int) := IntWalk.i64_in _ ⟨by omega, by omega⟩
      have Hrl : Hid (rp k = rv ∧ (rowOf A k).length = ln) := Lib.hid ⟨hrv, hln⟩
      clear hrv hln
      go_upto_region 9 with fail
      refine wp_region_T (s := 12) (S := fun w' => w'.cell? ⟨g9, 0, none⟩ = some (.slice pS k cS) ∧ w'.cell? ⟨w.heap.size, 2, none⟩ = some (.slice (some ⟨bA, oA, none⟩) A.length cA) ∧ w'.cell? ⟨bA, oA + k, none⟩ = some (.slice rv ln (rc k))) (by kernel_rfl) ⟨u0, q2, a1⟩ (fun hH => ?_)
      refine wpAnyT_takeL (i := 0) (v := ?_) rfl (by kernel_rfl) (by kernel_rfl) (by kernel_rfl) (by kernel_rfl) (fun _ _ _ h => h) (Or.inl ⟨by rfl, ?_⟩) (by assumption) ?_
      rotate_left
      · (intro w hSw; (try dsimp only at hSw); go_simp; (try with_reducible rfl))
      (try simp only [Act.put, List.setIfInBounds_toArray, List.set_cons_zero, List.set_cons_succ])
      refine wpAnyT_takeL (i := 1) (v := ?_) rfl (by kernel_rfl) (by kernel_rfl) (by kernel_rfl) (by kernel_rfl) (fun _ _ _ h => h) (Or.inl ⟨by rfl, ?_⟩) (by assumption) ?_
      rotate_left
      · (intro w hSw; (try dsimp only at hSw); go_simp; (try with_reducible rfl))
      (try simp only [Act.put, List.setIfInBounds_toArray, List.set_cons_zero, List.set_cons_succ])
      refine wpAnyT_takeL (i := 2) (v := ?_) rfl (by kernel_rfl) (by kernel_rfl) (by kernel_rfl) (by kernel_rfl) (fun _ _ _ h => h) (Or.inl ⟨by rfl, ?_⟩) (by assumption) ?_
      rotate_left
      · (intro w hSw; (try dsimp only at hSw); go_simp; (try with_reducible rfl))
      (try simp only [Act.put, List.setIfInBounds_toArray, List.set_cons_zero, List.set_cons_succ])
      refine wpAnyT_takeL (i := 3) (v := ?_) rfl (by kernel_rfl) (by kernel_rfl) (by kernel_rfl) (by kernel_rfl) (fun _ _ _ h => h) (Or.inl ⟨by rfl, ?_⟩) (by assumption) ?_
      rotate_left
      · (intro w hSw; (try dsimp only at hSw); go_simp; (try with_reducible rfl))
      (try simp only [Act.put, List.setIfInBounds_toArray, List.set_cons_zero, List.set_cons_succ])
      refine wpAnyT_takeL (i := 4) (v := ?_) rfl (by kernel_rfl) (by kernel_rfl) (by kernel_rfl) (by kernel_rfl) (fun _ _ _ h => h) (Or.inl ⟨by rfl, ?_⟩) (by assumption) ?_
      rotate_left
      · (intro w hSw; (try dsimp only at hSw); go_simp; (try with_reducible rfl))
      (try simp only [Act.put, List.setIfInBounds_toArray, List.set_cons_zero, List.set_cons_succ])
      refine wpAnyT_takeL (i := 5) (v := ?_) rfl (by kernel_rfl) (by kernel_rfl) (by kernel_rfl) (by kernel_rfl) (fun _ _ _ h => h) (Or.inl ⟨by rfl, ?_⟩) (by assumption) ?_
      rotate_left
      · (intro w hSw; (try dsimp only at hSw); go_simp; (try with_reducible rfl))
      (try simp only [Act.put, List.setIfInBounds_toArray, List.set_cons_zero, List.set_cons_succ])
      refine wpAnyT_takeL (i := 6) (v := ?_) rfl (by kernel_rfl) (by kernel_rfl) (by kernel_rfl) (by kernel_rfl) (fun _ _ _ h => h) (Or.inl ⟨by rfl, ?_⟩) (by assumption) ?_
      rotate_left
      · (intro w hSw; (try dsimp only at hSw); go_simp; (try with_reducible rfl))
      (try simp only [Act.put, List.setIfInBounds_toArray, List.set_cons_zero, List.set_cons_succ])
      refine wpAnyT_takeL (i := 7) (v := ?_) rfl (by kernel_rfl) (by kernel_rfl) (by kernel_rfl) (by kernel_rfl) (fun _ _ _ h => h) (Or.inl ⟨by rfl, ?_⟩) (by assumption) ?_
      rotate_left
      · (intro w hSw; (try dsimp only at hSw); go_simp; (try with_reducible rfl))
      (try simp only [Act.put, List.setIfInBounds_toArray, List.set_cons_zero, List.set_cons_succ])
      refine wpAnyT_takeL (i := 8) (v := ?_) rfl (by kernel_rfl) (by kernel_rfl) (by kernel_rfl) (by kernel_rfl) (fun _ _ _ h => h) (Or.inl ⟨by rfl, ?_⟩) (by assumption) ?_
      rotate_left
      · (intro w hSw; (try dsimp only at hSw); go_simp; (try with_reducible rfl))
      (try simp only [Act.put, List.setIfInBounds_toArray, List.set_cons_zero, List.set_cons_succ])
      refine wpAnyT_all (rs := [9]) (by kernel_rfl) (by simp) (AllT.consL (i := 9) rfl (fun K hK => ?_) AllT.nil)
      go_simp
      refine hK.out _ _ ?_ (fun hH => ?_)
      · (first | (simp [go_sem, ↓IntWalk.iteOmega, *]; done) | go_keep)
      clear hK K
      (try simp only [Act.put, List.setIfInBounds_toArray, List.set_cons_zero, List.set_cons_succ])
      refine wpAnyT_all (rs := [10]) (by kernel_rfl) (by simp) (AllT.consL (i := 10) rfl (fun K hK => ?_) AllT.nil)
      refine step_append_owns rfl _ _ 28 (by rfl) 3 1 8 (.int .i64 0) Tryd.underlying28 Tryd.infoInt rfl (by decide) g9 _ 0 _ _ _ (HOk.out.grew (by (repeat (first | exact gR _ | refine gO ?_ _ | refine gA ?_ _ | refine gD ?_ | refine gN ?_ _)))) rfl (by rfl) _ 1 1 (by rfl) [.int .i64 (4 - (ln : Int))] rfl (fun h => by cases h) (one_news _ (by (simp [go_sem, ↓IntWalk.iteOmega]))) (by simp [Value.oneCell']) (by simp only [maxLen]; omega) (by omega) (by first | rfl | omega | (simp <;> omega)) ?_; intro v1 w1 hO1 hg1 hb1 _; obtain ⟨p1, c1, rfl⟩ := own_form hO1 (k := 0) rfl; have b1 := own_bx hO1 (j := 1) rfl; have g91' := b1.2.1; have u1 := b1.2.2.1 0; have u2 := b1.2.2.2 0 _ rfl; have HO7 := Lib.hid hO1; have Hg7 := Lib.hid (Grew.grownBy (w0 := w5) (Hgr.out.trans (by (repeat (first | exact gR _ | refine gO ?_ _ | refine gA ?_ _ | refine gD ?_ | refine gN ?_ _)))) hg1 (fun q h => by have := hb1 q h; omega)); have q2' := Hg7.out.cellEq Q2.out; have a1' := (HcA.out w1 (Hw5.out.trans Hg7.out) k hlk).1; rw [Hrl.out.1, Hrl.out.2] at a1'; clear hO1 hg1 hb1 b1
      refine hK.out _ _ ?_ (fun hH => ?_)
      · (first | (simp [go_sem, ↓IntWalk.iteOmega, *]; done) | go_keep)
      clear hK K
      (try simp only [Act.put, List.setIfInBounds_toArray, List.set_cons_zero, List.set_cons_succ])
      refine wpAnyT_takeL (i := 11) (v := ?_) rfl (by kernel_rfl) (by kernel_rfl) (by kernel_rfl) (by kernel_rfl) (fun _ _ _ h => h) (Or.inl ⟨by rfl, ?_⟩) (by assumption) ?_
      rotate_left
      · (intro w hSw; (try dsimp only at hSw); go_simp; (try with_reducible rfl))
      (try simp only [Act.put, List.setIfInBounds_toArray, List.set_cons_zero, List.set_cons_succ])
      refine wpAnyT_all (rs := [12]) (by kernel_rfl) (by simp) (AllT.lastL rfl (fun K hK => ?_))
      go_simp
      refine hK.out _ _ ?_
      clear hK K
      (try simp only [Act.put, List.setIfInBounds_toArray, List.set_cons_zero, List.set_cons_succ])
      refine wpAnyT_done (by kernel_rfl) ?_ _
      go_wp2
      go_roundw
      case rel => exact ⟨k + 1, by omega, by go_num, (Owns.setGrew HO7.out hgs Hg7.out (k := 1) rfl 0 (.slice p1 (k + 1) c1)).trans (by (repeat (first | exact gR _ | refine gO ?_ _ | refine gA ?_ _ | refine gD ?_ | refine gN ?_ _))), .slice p1 (k + 1) c1, by
        rw [Hts.out, lR, intVs_app']
        exact (HO7.out.set (k := 1) rfl 0 (.slice p1 (k + 1) c1)).grew (by (repeat (first | exact gR _ | refine gO ?_ _ | refine gA ?_ _ | refine gD ?_ | refine gN ?_ _)))⟩
      case measure => (simp [intOf] <;> omega)
    · obtain rfl : k = A.length := by omega
      have HOv : Hid (Owns wr g9 [lR (.slice pS A.length cS) (A.length + 0) (supV A ++ tab 0 fun i => if faceF F oN = i then -4 - ((rowOf F i).length : Int) else 4 - ((rowOf F i).length : Int)), bx g9 31 2 [.slice pS A.length cS, .slice none 0 0]]) := Lib.hid (by
        rw [show (supV A ++ tab 0 fun i => if faceF F oN = i then -4 - ((rowOf F i).length : Int) else 4 - ((rowOf F i).length : Int)) = supV A by unfold tab; simp]
        exact HOk.out)
      clear HOk u0 u1 q2 hlk hk
      go_wp2
      obtain ⟨fo, hfo, hfo2, _⟩ := Hfc.out oN (by omega) (by omega)
      have Hfo := Lib.hid hfo
      have hfo4 : fo < f := by rw [← Hlf.out]; exact hfo2
      clear hfo hfo2
      go_loopw [10] (fun kv wr => ∃ i : Nat, i ≤ f ∧ kv = .int .i64 i ∧ Grew w5 wr ∧ ∃ (vS : Value), Owns wr g9 [lR vS (A.length + i) (supV A ++ tab i fun i => if faceF F oN = i then -4 - ((rowOf F i).length : Int) else 4 - ((rowOf F i).length : Int)), bx g9 31 2 [vS, .slice none 0 0]]) (fun kv _ => f - (intOf kv).toNat)
      case atStart => exact ⟨0, Nat.zero_le _, rfl, Hgr.out.trans (by (repeat (first | exact gR _ | refine gO ?_ _ | refine gA ?_ _ | refine gD ?_ | refine gN ?_ _))), _, HOv.out.grew (by (repeat (first | exact gR _ | refine gO ?_ _ | refine gA ?_ _ | refine gD ?_ | refine gN ?_ _)))⟩
      case round =>
        clear HOv Hgr
        obtain ⟨i, hi, rfl, hgr, vS, hOk⟩ := hrel
        obtain ⟨pS, cS, rfl⟩ := own_form hOk (k := 0) rfl
        have Hgr := Lib.hid hgr
        have HOk := Lib.hid hOk
        have hszr := hgr.below.size
        have b1 := own_bx hOk (j := 1) rfl
        have g91 := b1.2.1
        have u0 := b1.2.2.2 0 _ rfl
        have u1 := b1.2.2.1 0
        clear hgr hOk b1
        by_cases hlk : i < f
        · have hiF : i < F.length := by rw [Hlf.out]; exact hlk
          obtain ⟨bF, oF, rpF, rcF, rfl, lF, cF'⟩ := HM5.out.rows (by omega)
          obtain ⟨a1, _⟩ := cF' wr Hgr.out i hiF
          obtain ⟨rv, hrv⟩ : ∃ rv, rpF i = rv := ⟨_, rfl⟩
          obtain ⟨ln, hln⟩ : ∃ ln, (rowOf F i).length = ln := ⟨_, rfl⟩
          have hRl : ln ≤ 2 * E.length := by rw [← hln]; exact Hff.out.row i hiF
          rw [hrv, hln] at a1
          clear hrv cF'
          by_cases heq : fo = i
          · have hbe : ((fo : Int) == (i : Int)) = true := by simp; omega
            have Hts : Hid (supV A ++ tab (i + 1) (fun i => if faceF F oN = i then -4 - ((rowOf F i).length : Int) else 4 - ((rowOf F i).length : Int)) = (supV A ++ tab i (fun i => if faceF F oN = i then -4 - ((rowOf F i).length : Int) else 4 - ((rowOf F i).length : Int))) ++ [-4 - (ln : Int)]) := Lib.hid (by
              rw [tab_succ, hln, Hfo.out, if_pos (by omega), List.append_assoc])
            clear hln heq
            go_wp2_with (first
              | ((go_at_call 26; apply Calls.mono; (with_reducible exact Hface.out _ _ _ Hfo.out (Hgr.out.trans (by (repeat (first | exact gR _ | refine gO ?_ _ | refine gA ?_ _ | refine gD ?_ | refine gN ?_ _))))); rintro e w' ⟨rfl, rfl⟩))
              | (at_builtin; refine wp_append_owns rfl _ _ 28 rfl 3 1 8 (.int .i64 0) Tryd.underlying28 Tryd.infoInt rfl (by decide) (g9) _ 0 _ _ _ (HOk.out.grew (by (repeat (first | exact gR _ | refine gO ?_ _ | refine gA ?_ _ | refine gD ?_ | refine gN ?_ _)))) rfl rfl _ 1 1 rfl [.int .i64 (-4 - (ln : Int))] rfl (fun h => by cases h) (one_news _ (by first | (go_simp; done) | (simp [go_sem, ↓IntWalk.iteOmega, *]; done))) (by simp [Value.oneCell']) (by simp only [maxLen]; omega) (by omega) (by first | rfl | omega | (simp <;> omega)) ?_; intro v1 w1 hO1 hg1 hb1 hv1; obtain ⟨p1, c1, rfl⟩ := own_form hO1 (k := 0) rfl; have b1 := own_bx hO1 (j := 1) rfl; have g91' := b1.2.1; have u1 := b1.2.2.1 0; have u2 := b1.2.2.2 0 _ rfl; have HO7 := Lib.hid hO1; have Hg7 := Lib.hid (Grew.grownBy (w0 := w5) (Hgr.out.trans (by (repeat (first | exact gR _ | refine gO ?_ _ | refine gA ?_ _ | refine gD ?_ | refine gN ?_ _)))) hg1 (fun q h => by have := hb1 q h; omega)); clear hO1 hg1 hb1 hv1 b1))
            go_roundw
            case rel => exact ⟨i + 1, by omega, by go_num, (Owns.setGrew HO7.out hgs Hg7.out (k := 1) rfl 0 (.slice p1 (A.length + i + 1) c1)).trans (by (repeat (first | exact gR _ | refine gO ?_ _ | refine gA ?_ _ | refine gD ?_ | refine gN ?_ _))), .slice p1 (A.length + i + 1) c1, by
              rw [Hts.out, lR, intVs_app']
              exact (HO7.out.set (k := 1) rfl 0 (.slice p1 (A.length + i + 1) c1)).grew (by (repeat (first | exact gR _ | refine gO ?_ _ | refine gA ?_ _ | refine gD ?_ | refine gN ?_ _)))⟩
            case measure => (simp [intOf] <;> omega)
          · have hbe : ((fo : Int) == (i : Int)) = false := by simp; omega
            have Hts : Hid (supV A ++ tab (i + 1) (fun i => if faceF F oN = i then -4 - ((rowOf F i).length : Int) else 4 - ((rowOf F i).length : Int)) = (supV A ++ tab i (fun i => if faceF F oN = i then -4 - ((rowOf F i).length : Int) else 4 - ((rowOf F i).length : Int))) ++ [4 - (ln : Int)]) := Lib.hid (by
              rw [tab_succ, hln, Hfo.out, if_neg (by omega), List.append_assoc])
            clear hln heq
            go_wp2_with (first
              | ((go_at_call 26; apply Calls.mono; (with_reducible exact Hface.out _ _ _ Hfo.out (Hgr.out.trans (by (repeat (first | exact gR _ | refine gO ?_ _ | refine gA ?_ _ | refine gD ?_ | refine gN ?_ _))))); rintro e w' ⟨rfl, rfl⟩))
              | (at_builtin; refine wp_append_owns rfl _ _ 28 rfl 3 1 8 (.int .i64 0) Tryd.underlying28 Tryd.infoInt rfl (by decide) (g9) _ 0 _ _ _ (HOk.out.grew (by (repeat (first | exact gR _ | refine gO ?_ _ | refine gA ?_ _ | refine gD ?_ | refine gN ?_ _)))) rfl rfl _ 1 1 rfl [.int .i64 (4 - (ln : Int))] rfl (fun h => by cases h) (one_news _ (by first | (go_simp; done) | (simp [go_sem, ↓IntWalk.iteOmega, *]; done))) (by simp [Value.oneCell']) (by simp only [maxLen]; omega) (by omega) (by first | rfl | omega | (simp <;> omega)) ?_; intro v1 w1 hO1 hg1 hb1 hv1; obtain ⟨p1, c1, rfl⟩ := own_form hO1 (k := 0) rfl; have b1 := own_bx hO1 (j := 1) rfl; have g91' := b1.2.1; have u1 := b1.2.2.1 0; have u2 := b1.2.2.2 0 _ rfl; have HO7 := Lib.hid hO1; have Hg7 := Lib.hid (Grew.grownBy (w0 := w5) (Hgr.out.trans (by (repeat (first | exact gR _ | refine gO ?_ _ | refine gA ?_ _ | refine gD ?_ | refine gN ?_ _)))) hg1 (fun q h => by have := hb1 q h; omega)); clear hO1 hg1 hb1 hv1 b1))
            go_roundw
            case rel => exact ⟨i + 1, by omega, by go_num, (Owns.setGrew HO7.out hgs Hg7.out (k := 1) rfl 0 (.slice p1 (A.length + i + 1) c1)).trans (by (repeat (first | exact gR _ | refine gO ?_ _ | refine gA ?_ _ | refine gD ?_ | refine gN ?_ _))), .slice p1 (A.length + i + 1) c1, by
              rw [Hts.out, lR, intVs_app']
              exact (HO7.out.set (k := 1) rfl 0 (.slice p1 (A.length + i + 1) c1)).grew (by (repeat (first | exact gR _ | refine gO ?_ _ | refine gA ?_ _ | refine gD ?_ | refine gN ?_ _)))⟩
            case measure => (simp [intOf] <;> omega)
        · obtain rfl : i = f := by omega
          have HO10 : Hid (Owns wr g9 [aR (.slice none 0 0) (2 * 0) (arcK A.length F E 0), lR (.slice pS (A.length + i) cS) (A.length + i) (supL A F oN), bx g9 31 2 [.slice pS (A.length + i) cS, .slice none 0 0]]) := Lib.hid (by
            have h := HOk.out.none 63 4
            unfold supL supF
            rw [Hlf.out]
            exact h)
          clear HOk u0 u1
          go_wp2
          go_loopw [12] (fun kv wr => ∃ d : Nat, d ≤ 2 * E.length ∧ kv = .int .i64 d ∧ Grew w5 wr ∧ ∃ vA, Owns wr g9 [aR vA (2 * d) (arcK A.length F E d), lR (.slice pS (A.length + i) cS) (A.length + i) (supL A F oN), bx g9 31 2 [.slice pS (A.length + i) cS, vA]]) (fun kv _ => 2 * E.length - (intOf kv).toNat)
          case atStart => exact ⟨0, Nat.zero_le _, rfl, Hgr.out.trans (by (repeat (first | exact gR _ | refine gO ?_ _ | refine gA ?_ _ | refine gD ?_ | refine gN ?_ _))), _, HO10.out.grew (by (repeat (first | exact gR _ | refine gO ?_ _ | refine gA ?_ _ | refine gD ?_ | refine gN ?_ _)))⟩
          case round =>
            clear HO10 Hgr hlk hi
            obtain ⟨d, hd, rfl, hgr, vA, hOd⟩ := hrel
            obtain ⟨pK, cK, rfl⟩ := own_form hOd (k := 0) rfl
            have Hgr := Lib.hid hgr
            have HOd := Lib.hid hOd
            have hszr := hgr.below.size
            have q0 := hgr.cellEq Q0.out
            have q1 := hgr.cellEq Q1.out
            have q2 := hgr.cellEq Q2.out
            have b1 := own_bx hOd (j := 2) rfl
            have g91 := b1.2.1
            have y0 := b1.2.2.2 1 _ rfl
            have u1 := b1.2.2.1 1
            have hql := World.block_lt_of_cell? wr _ q0
            dsimp only at hql
            clear hgr hOd b1
            by_cases hlt : d < 2 * E.length
            · obtain ⟨dx, hdx⟩ : ∃ dx : Nat, oth (d : Int) = (dx : Int) := ⟨(oth d).toNat, by have := oth_bd (M := E.length) (d := (d : Int)) (by omega) (by omega); omega⟩
              have hx2l : dx < 2 * E.length := by have := oth_bd (M := E.length) (d := (d : Int)) (by omega) (by omega); omega
              have hx2 : bits BinOp.xor IntKind.i64 (d : Int) 1 = (dx : Int) := by rw [← hdx]; exact xor_small d (by omega)
              obtain ⟨u, hu, hu2, _⟩ := Hfc.out d (by omega) (by omega)
              obtain ⟨v, hv, hv2, _⟩ := Hfc.out dx (by omega) (by omega)
              rw [Hlf.out] at hu2 hv2
              have Hu := Lib.hid hu
              have Hv := Lib.hid hv
              obtain ⟨tl, htl⟩ : ∃ tl, tailE E d = tl := ⟨_, rfl⟩
              have Htd : Hid (∀ W1 : World, Grew w W1 → Calls Tryd.prog 33 #[.agg #[.int .i64 A.length, .slice pE E.length cE, .slice (some ⟨bA, oA, none⟩) A.length cA], .int .i64 d] W1 fun e w' => e = .returned (.int .i64 tl) ∧ Grew W1 w') := Lib.hid (fun W1 h => by rw [← htl]; exact Htl.out d W1 hlt h)
              have Harp : Hid (akVs (arcP A.length F E d) = [.int .i64 tl, .int .i64 ((A.length : Int) + v), .int .i64 3, .int .i64 0, .int .i64 ((A.length : Int) + u), .int .i64 ((A.length : Int) + v), .int .i64 64, .int .i64 1]) := Lib.hid (by
                unfold arcP akVs ak4
                rw [htl, hdx, hu, hv]
                rfl)
              have hdi2 : (d : Int) < 2 * (E.length : Int) := by omega
              have hwu : IntKind.i64.wrap ((A.length : Int) + (u : Int)) = (A.length : Int) + u := IntWalk.i64_in _ ⟨by omega, by omega⟩
              have hwv : IntKind.i64.wrap ((A.length : Int) + (v : Int)) = (A.length : Int) + v := IntWalk.i64_in _ ⟨by omega, by omega⟩
              clear hu hv hdx htl
              go_upto_region 20 with fail
              refine wp_region_over (by kernel_rfl) (by kernel_rfl) ?_; (repeat (go_big_quiet_step (first | (go_at_call 26; apply over_callE; with_reducible exact Hface.out _ _ _ Hu.out (Hgr.out.trans (by (repeat (first | exact gR _ | refine gO ?_ _ | refine gA ?_ _ | refine gD ?_ | refine gN ?_ _))))) | (go_at_call 26; apply over_callE; with_reducible exact Hface.out _ _ _ Hv.out (Hgr.out.trans (by (repeat (first | exact gR _ | refine gO ?_ _ | refine gA ?_ _ | refine gD ?_ | refine gN ?_ _)))))))); refine wpQuiet_nil ?_; rintro _ ⟨x, rfl⟩
              go_upto_region 21 with fail
              refine wp_region_T (s := 13) (S := fun w' => w'.cell? ⟨g9, 1, none⟩ = some (.slice pK (2 * d) cK) ∧ w'.cell? ⟨w.heap.size, 0, none⟩ = some (.int .i64 A.length) ∧ w'.cell? ⟨w.heap.size, 1, none⟩ = some (.slice pE E.length cE) ∧ w'.cell? ⟨w.heap.size, 2, none⟩ = some (.slice (some ⟨bA, oA, none⟩) A.length cA)) (by kernel_rfl) (by (refine ⟨?_, ?_, ?_, ?_⟩ <;> (first | (go_simp; done) | (simp [go_sem, ↓IntWalk.iteOmega, *]; done)))) (fun hH => ?_)
              refine wpAnyT_takeL (i := 0) (v := ?_) rfl (by kernel_rfl) (by kernel_rfl) (by kernel_rfl) (by kernel_rfl) (fun _ _ _ h => h) (Or.inl ⟨by rfl, ?_⟩) (by assumption) ?_
              rotate_left
              · (intro w hSw; (try dsimp only at hSw); go_simp; (try with_reducible rfl))
              (try simp only [Act.put, List.setIfInBounds_toArray, List.set_cons_zero, List.set_cons_succ])
              refine wpAnyT_takeL (i := 1) (v := ?_) rfl (by kernel_rfl) (by kernel_rfl) (by kernel_rfl) (by kernel_rfl) (fun _ _ _ h => h) (Or.inl ⟨by rfl, ?_⟩) (by assumption) ?_
              rotate_left
              · (intro w hSw; (try dsimp only at hSw); go_simp; (try with_reducible rfl))
              (try simp only [Act.put, List.setIfInBounds_toArray, List.set_cons_zero, List.set_cons_succ])
              refine wpAnyT_takeL (i := 2) (v := ?_) rfl (by kernel_rfl) (by kernel_rfl) (by kernel_rfl) (by kernel_rfl) (fun _ _ _ h => h) (Or.inl ⟨by rfl, ?_⟩) (by assumption) ?_
              rotate_left
              · (intro w hSw; (try dsimp only at hSw); go_simp; (try with_reducible rfl))
              (try simp only [Act.put, List.setIfInBounds_toArray, List.set_cons_zero, List.set_cons_succ])
              refine wpAnyT_takeL (i := 3) (v := ?_) rfl (by kernel_rfl) (by kernel_rfl) (by kernel_rfl) (by kernel_rfl) (fun _ _ _ h => h) (Or.inl ⟨by rfl, ?_⟩) (by assumption) ?_
              rotate_left
              · (intro w hSw; (try dsimp only at hSw); go_simp; (try with_reducible rfl))
              (try simp only [Act.put, List.setIfInBounds_toArray, List.set_cons_zero, List.set_cons_succ])
              refine wpAnyT_takeL (i := 5) (v := ?_) rfl (by kernel_rfl) (by kernel_rfl) (by kernel_rfl) (by kernel_rfl) (fun _ _ _ h => h) (Or.inl ⟨by rfl, ?_⟩) (by assumption) ?_
              rotate_left
              · (intro w hSw; (try dsimp only at hSw); go_simp; (try with_reducible rfl))
              (try simp only [Act.put, List.setIfInBounds_toArray, List.set_cons_zero, List.set_cons_succ])
              refine wpAnyT_takeL (i := 7) (v := ?_) rfl (by kernel_rfl) (by kernel_rfl) (by kernel_rfl) (by kernel_rfl) (fun _ _ _ h => h) (Or.inl ⟨by rfl, ?_⟩) (by assumption) ?_
              rotate_left
              · (intro w hSw; (try dsimp only at hSw); go_simp; (try with_reducible rfl))
              (try simp only [Act.put, List.setIfInBounds_toArray, List.set_cons_zero, List.set_cons_succ])
              refine wpAnyT_takeL (i := 8) (v := ?_) rfl (by kernel_rfl) (by kernel_rfl) (by kernel_rfl) (by kernel_rfl) (fun _ _ _ h => h) (Or.inl ⟨by rfl, ?_⟩) (by assumption) ?_
              rotate_left
              · (intro w hSw; (try dsimp only at hSw); go_simp; (try with_reducible rfl))
              (try simp only [Act.put, List.setIfInBounds_toArray, List.set_cons_zero, List.set_cons_succ])
              refine wpAnyT_takeL (i := 9) (v := ?_) rfl (by kernel_rfl) (by kernel_rfl) (by kernel_rfl) (by kernel_rfl) (fun _ _ _ h => h) (Or.inl ⟨by rfl, ?_⟩) (by assumption) ?_
              rotate_left
              · (intro w hSw; (try dsimp only at hSw); go_simp; (try with_reducible rfl))
              (try simp only [Act.put, List.setIfInBounds_toArray, List.set_cons_zero, List.set_cons_succ])
              refine wpAnyT_all (rs := [4]) (by kernel_rfl) (by simp) (AllT.consL (i := 4) rfl (fun K hK => ?_) AllT.nil)
              go_simp; go_wp2_with (go_at_call 33; apply Calls.mono; (with_reducible exact Htd.out _ (Hw5.out.trans (Hgr.out.trans (by (repeat (first | exact gR _ | refine gO ?_ _ | refine gA ?_ _ | refine gD ?_ | refine gN ?_ _)))))); rintro e w3 ⟨rfl, x3, rfl⟩)
              refine hK.out _ _ ?_ (fun hH => ?_)
              · (first | (simp [go_sem, ↓IntWalk.iteOmega, *]; done) | go_keep)
              clear hK K
              (try simp only [Act.put, List.setIfInBounds_toArray, List.set_cons_zero, List.set_cons_succ])
              refine wpAnyT_takeL (i := 6) (v := ?_) rfl (by kernel_rfl) (by kernel_rfl) (by kernel_rfl) (by kernel_rfl) (fun _ _ _ h => h) (Or.inl ⟨by rfl, ?_⟩) (by assumption) ?_
              rotate_left
              · (intro w hSw; (try dsimp only at hSw); go_simp; (try with_reducible rfl))
              (try simp only [Act.put, List.setIfInBounds_toArray, List.set_cons_zero, List.set_cons_succ])
              refine wpAnyT_all (rs := [10]) (by kernel_rfl) (by simp) (AllT.consL (i := 10) rfl (fun K hK => ?_) AllT.nil)
              go_simp
              refine hK.out _ _ ?_ (fun hH => ?_)
              · (first | (simp [go_sem, ↓IntWalk.iteOmega, *]; done) | go_keep)
              clear hK K
              (try simp only [Act.put, List.setIfInBounds_toArray, List.set_cons_zero, List.set_cons_succ])
              refine wpAnyT_all (rs := [11]) (by kernel_rfl) (by simp) (AllT.consL (i := 11) rfl (fun K hK => ?_) AllT.nil)
              refine step_append_owns rfl _ _ 29 (by rfl) 63 4 32 (.agg #[.int .i64 0, .int .i64 0, .int .i64 0, .int .i64 0]) Tryd.underlying29 Tryd.infoArk rfl (by decide) g9 _ 0 _ _ _ (HOd.out.grew (by (repeat (first | exact gR _ | refine gO ?_ _ | refine gA ?_ _ | refine gD ?_ | refine gN ?_ _)))) rfl (by rfl) _ 2 2 (by rfl) [.int .i64 tl, .int .i64 ((A.length : Int) + v), .int .i64 3, .int .i64 0, .int .i64 ((A.length : Int) + u), .int .i64 ((A.length : Int) + v), .int .i64 64, .int .i64 1] rfl (fun h => by cases h) (eight_news (by (simp [go_sem, ↓IntWalk.iteOmega])) (by (simp [go_sem, ↓IntWalk.iteOmega])) (by (simp [go_sem, ↓IntWalk.iteOmega])) (by (simp [go_sem, ↓IntWalk.iteOmega])) (by (simp [go_sem, ↓IntWalk.iteOmega])) (by (simp [go_sem, ↓IntWalk.iteOmega])) (by (simp [go_sem, ↓IntWalk.iteOmega])) (by (simp [go_sem, ↓IntWalk.iteOmega]))) (by simp [Value.oneCell']) (by simp only [maxLen]; omega) (by omega) (by first | rfl | omega | (simp <;> omega)) ?_; intro v1 w1 hO1 hg1 hb1 _; obtain ⟨p1, c1, rfl⟩ := own_form hO1 (k := 0) rfl; have b1 := own_bx hO1 (j := 2) rfl; have g91' := b1.2.1; have y0 := b1.2.2.2 1 _ rfl; have u1 := b1.2.2.1 1; have HO7 := Lib.hid hO1; have Hg7 := Lib.hid (Grew.grownBy (w0 := w5) (Hgr.out.trans (by (repeat (first | exact gR _ | refine gO ?_ _ | refine gA ?_ _ | refine gD ?_ | refine gN ?_ _)))) hg1 (fun q h => by have := hb1 q h; omega)); have q0 := Hg7.out.cellEq Q0.out; have q1 := Hg7.out.cellEq Q1.out; have q2 := Hg7.out.cellEq Q2.out; clear hO1 hg1 hb1 b1
              refine hK.out _ _ ?_ (fun hH => ?_)
              · (first | (simp [go_sem, ↓IntWalk.iteOmega, *]; done) | go_keep)
              clear hK K
              (try simp only [Act.put, List.setIfInBounds_toArray, List.set_cons_zero, List.set_cons_succ])
              refine wpAnyT_takeL (i := 12) (v := ?_) rfl (by kernel_rfl) (by kernel_rfl) (by kernel_rfl) (by kernel_rfl) (fun _ _ _ h => h) (Or.inl ⟨by rfl, ?_⟩) (by assumption) ?_
              rotate_left
              · (intro w hSw; (try dsimp only at hSw); go_simp; (try with_reducible rfl))
              (try simp only [Act.put, List.setIfInBounds_toArray, List.set_cons_zero, List.set_cons_succ])
              refine wpAnyT_all (rs := [13]) (by kernel_rfl) (by simp) (AllT.lastL rfl (fun K hK => ?_))
              go_simp
              refine hK.out _ _ ?_
              clear hK K
              (try simp only [Act.put, List.setIfInBounds_toArray, List.set_cons_zero, List.set_cons_succ])
              refine wpAnyT_done (by kernel_rfl) ?_ _
              go_wp2
              go_roundw
              case rel => exact ⟨d + 1, by omega, by go_num, (Owns.setGrew HO7.out Hgs.out Hg7.out (k := 2) rfl 1 (.slice p1 (2 * d + 2) c1)).trans (by (repeat (first | exact gR _ | refine gO ?_ _ | refine gA ?_ _ | refine gD ?_ | refine gN ?_ _))), .slice p1 (2 * d + 2) c1, by
                have hz := (HO7.out.set (k := 2) rfl 1 (.slice p1 (2 * d + 2) c1))
                rw [← Harp.out, ← akVs_app, ← arcK_succ] at hz
                have hl2 : 2 * d + 2 = 2 * (d + 1) := by omega
                rw [hl2] at hz ⊢
                exact hz.grew (by (repeat (first | exact gR _ | refine gO ?_ _ | refine gA ?_ _ | refine gD ?_ | refine gN ?_ _)))⟩
              case measure => (simp [intOf] <;> omega)
            · obtain rfl : d = 2 * E.length := by omega
              have bS := own_bx (HB5.out.grew Hgr.out) (j := 1) rfl
              have r0 := bS.2.2.2 0 _ rfl
              have r1 := bS.2.2.2 1 _ rfl
              have r2 := bS.2.2.1 0
              have r3 := bS.2.2.1 1
              have b1 := own_bx HOd.out (j := 2) rfl
              have z0 := b1.2.2.2 0 _ rfl
              have z1 := b1.2.2.2 1 _ rfl
              have hall := HB5.out.join (HOd.out.base hgs) Hgr.out Hw5.out.below.size
              have HF1 := Lib.hid ((hall.set (k := 1) rfl 0 (.slice pS (A.length + i) cS)).set (k := 1) rfl 1 (.slice pK (2 * (2 * E.length)) cK))
              have HF2 := Lib.hid (Owns.setGrew (hall.set (k := 1) rfl 0 (.slice pS (A.length + i) cS)) (Nat.le_refl _) (Owns.setGrew hall (Nat.le_refl _) (Hw5.out.trans Hgr.out) (k := 1) rfl 0 (.slice pS (A.length + i) cS)) (k := 1) rfl 1 (.slice pK (2 * (2 * E.length)) cK))
              have hsl : (supL A F oN).length = A.length + i := by unfold supL; rw [List.length_append, supV_len, supF_len, Hlf.out]
              have Hsl := Lib.hid hsl
              have Hnil := Lib.hid (own_nil HOd.out (k := 1) rfl)
              clear hall bS b1 hsl
              go_wp2
              refine bodyPost_ret (v := .tuple #[.agg #[.slice pS (A.length + i) cS, .slice pK (2 * (2 * E.length)) cK], .int .i64 0]) (by simp [results, Tryd.results11, go_sem, ↓IntWalk.iteOmega, z0, z1, r0, r1, r2, r3]) rfl ?_
              have hF1 := HF1.out.grew (show Grew _ _ by (repeat (first | exact gR _ | refine gO ?_ _ | refine gA ?_ _ | refine gD ?_ | refine gN ?_ _)))
              obtain ⟨qa, ca, ea, hA⟩ := own_arks (k := 2) hF1 rfl (arcK_len _ _ _ _) (by omega) (Harc.out _ (Nat.le_refl _))
              simp only [Value.slice.injEq, true_and] at ea
              obtain ⟨rfl, rfl⟩ := ea
              refine ⟨HF2.out.trans (by (repeat (first | exact gR _ | refine gO ?_ _ | refine gA ?_ _ | refine gD ?_ | refine gN ?_ _))), pS, cS, pK, cK, by rw [Hsl.out, arcK_len], own_intsG (k := 3) hF1 rfl Hsl.out (by omega) (fun x hx => by have := Hsup.out x hx; omega), hA, fun h => by rw [Hsl.out]; exact Hnil.out h⟩

theorem net_r (N : Int) (pE pA : Option Addr) (nE nA cE cA : Nat) (E : List (Int × Int)) (A : List (List Int)) (o : Int) (w : World) (hR : RotAt w pE pA E A) (hnE : E.length = nE) (hnA : A.length = nA) (hE3 : E.length ≤ 30) (hA3 : A.length ≤ 30) :
    Calls Tryd.prog 11 #[.agg #[.int .i64 N, .slice pE nE cE, .slice pA nA cA], .int .i64 o] w (NetPost (netS N E A o) (netA N E A o) (netE N E A o) w) := by
  by_cases h : netE N E A o ≠ 0 ∨ E = []
  · rw [(netS_no h).1, (netS_no h).2]
    exact net_r_no N pE pA nE nA cE cA E A o w hR hnE hnA hE3 hA3 h
  · have h1 : netE N E A o = 0 := Classical.byContradiction fun e => h (Or.inl e)
    have h2 : 0 < E.length := List.length_pos_iff.2 fun e => h (Or.inr e)
    have hok := net_ok h1
    rw [(netS_ok hok h2).1, (netS_ok hok h2).2, h1]
    exact net_r_ok N pE pA nE nA cE cA E A o w hR hnE hnA hE3 hA3 hok h2
end Go.Proofs.YtiihgpgpbgafiaaDoor

/- SameNet, SameList, SameRot, Same of the reference, where both read alike. -/
namespace Go.Proofs.YtiihgpgpbgafiaaDoor
open Go.RowKit
attribute [local go_sem ↓] Go.wp_at_zero Go.wp_at_succ

@[go_sem] theorem eq_arc (a b c d : Int) (w : World) : (Op.equalIn 10000 61 (.agg #[.int .i64 a, .int .i64 b]) (.agg #[.int .i64 c, .int .i64 d])).run Tryd.prog w = .ok (a == c && b == d) w := by
  have hS : Tryd.prog.underlying 61 = some (.struct (Tryd.prog.fieldsOf 61)) := by kernel_rfl
  rw [show (10000 : Nat) = 9999 + 1 from rfl, run_equalIn_agg w 9999 61 _ _ hS (by kernel_rfl)]
  simp only [Program.fieldsOf, Tryd.underlying61]
  have u3 := Tryd.underlying3
  go_simp
  by_cases h1 : a = c <;> by_cases h2 : b = d <;> simp [h1, h2]
@[go_sem] theorem guard_arc (op : BinOp) (x y : Operand) (xs ys : Array Value) (w : World) : (eqGuard op 61 x y (.agg xs) (.agg ys)).run Tryd.prog w = .ok () w := run_eqGuard_agg w op _ x y xs ys (by kernel_rfl)
@[go_sem] theorem neq_arc (a b c d : Int) (w : World) : (binOp .neq 61 (.agg #[.int .i64 a, .int .i64 b]) (.agg #[.int .i64 c, .int .i64 d])).run Tryd.prog w = .ok (.bool (!(a == c && b == d))) w := by
  rw [run_neq_struct, eq_arc]
  rfl
@[go_sem] theorem eq_ark (a b c d : Int) (w : World) : (Op.equalIn 10000 63 (.agg #[.int .i64 a, .int .i64 b, .int .i64 c, .int .i64 d]) (.agg #[.int .i64 a, .int .i64 b, .int .i64 c, .int .i64 d])).run Tryd.prog w = .ok true w := by
  have hS : Tryd.prog.underlying 63 = some (.struct (Tryd.prog.fieldsOf 63)) := by kernel_rfl
  rw [show (10000 : Nat) = 9999 + 1 from rfl, run_equalIn_agg w 9999 63 _ _ hS (by kernel_rfl)]
  simp only [Program.fieldsOf, Tryd.underlying63]
  have u3 := Tryd.underlying3
  go_simp
@[go_sem] theorem guard_ark (op : BinOp) (x y : Operand) (xs ys : Array Value) (w : World) : (eqGuard op 63 x y (.agg xs) (.agg ys)).run Tryd.prog w = .ok () w := run_eqGuard_agg w op _ x y xs ys (by kernel_rfl)
@[go_sem] theorem neq_ark (a b c d : Int) (w : World) : (binOp .neq 63 (.agg #[.int .i64 a, .int .i64 b, .int .i64 c, .int .i64 d]) (.agg #[.int .i64 a, .int .i64 b, .int .i64 c, .int .i64 d])).run Tryd.prog w = .ok (.bool false) w := by
  rw [run_neq_struct, eq_ark]
  rfl

set_option maxRecDepth 8000 in
set_option maxHeartbeats 8000000 in
theorem samenet_t (p q p' q' : Option Addr) (n m cp cq cp' cq' : Nat) (s : List Int) (A : List Fl.Ark) (w : World) (hI : Ints w p s) (hI' : Ints w p' s) (hA : Fl.Arks w q A) (hA' : Fl.Arks w q' A) (hn : s.length = n) (hm : A.length = m) :
    Calls Tryd.prog 12 #[.agg #[.slice p n cp, .slice q m cq], .agg #[.slice p' n cp', .slice q' m cq']] w fun e w' => e = .returned (.bool true) ∧ Grew w w' := by
  subst hn hm
  have hm1 := hI.1
  have hm2 := hA.1
  have HI := Lib.hid hI
  have HI' := Lib.hid hI'
  have HA := Lib.hid hA
  have HA' := Lib.hid hA'
  clear hI hI' hA hA'
  go_enter Tryd.func12, Tryd.ntmps12
  go_wp2
  obtain ⟨wB, hwB⟩ : ∃ wB, (w.alloc (.cells #[.slice p s.length cp, .slice q A.length cq] 31)).alloc (.cells #[.slice p' s.length cp', .slice q' A.length cq'] 31) = wB := ⟨_, rfl⟩
  have HwB : Hid (Grew w wB) := Lib.hid (by rw [← hwB]; (repeat (first | exact gR _ | refine gO ?_ _ | refine gA ?_ _ | refine gD ?_ | refine gN ?_ _)))
  have hsB : wB.heap.size = w.heap.size + 2 := by rw [← hwB]; simp
  have Hb1 : Hid (wB.cell? ⟨w.heap.size, 0, none⟩ = some (.slice p s.length cp)) := Lib.hid (by rw [← hwB]; simp [go_sem])
  have Hb2 : Hid (wB.cell? ⟨w.heap.size, 1, none⟩ = some (.slice q A.length cq)) := Lib.hid (by rw [← hwB]; simp [go_sem])
  have Hb4 : Hid (wB.cell? ⟨w.heap.size + 1, 0, none⟩ = some (.slice p' s.length cp')) := Lib.hid (by rw [← hwB]; simp [go_sem])
  have Hb5 : Hid (wB.cell? ⟨w.heap.size + 1, 1, none⟩ = some (.slice q' A.length cq')) := Lib.hid (by rw [← hwB]; simp [go_sem])
  rw [hwB]
  clear hwB
  go_loopw [5] (fun i wr => ∃ j : Nat, j ≤ s.length ∧ i = .int .i64 j ∧ Grew wB wr) (fun i _ => s.length - (intOf i).toNat)
  case atStart => exact ⟨0, Nat.zero_le _, rfl, by (repeat (first | exact gR _ | refine gO ?_ _ | refine gA ?_ _ | refine gD ?_ | refine gN ?_ _))⟩
  case round =>
    obtain ⟨j, hj, rfl, hg⟩ := hrel
    have Hg := Lib.hid hg
    have hszr := hg.below.size
    have q1 := hg.cellEq Hb1.out
    have q4 := hg.cellEq Hb4.out
    clear hg
    by_cases hlt : j < s.length
    · obtain ⟨b, o, rfl, lb, cb⟩ := HI.out.cells (by omega)
      obtain ⟨b', o', rfl, lb', cb'⟩ := HI'.out.cells (by omega)
      have x1 := cb wr (HwB.out.trans Hg.out) j hlt
      have x2 := cb' wr (HwB.out.trans Hg.out) j hlt
      have hji : (j : Int) < (s.length : Int) := by omega
      obtain ⟨x, hx⟩ : ∃ x, ge s j = x := ⟨_, rfl⟩
      rw [hx] at x1 x2
      clear cb cb' hx
      go_upto_region 6 with fail
      refine wp_region_over (by kernel_rfl) (by kernel_rfl) ?_; (repeat (go_big_quiet_step (fail))); refine wpQuiet_nil ?_; rintro _ ⟨x, rfl⟩
      go_wp2
      go_roundw
      case rel => exact ⟨j + 1, by omega, by go_num, Hg.out.trans (by (repeat (first | exact gR _ | refine gO ?_ _ | refine gA ?_ _ | refine gD ?_ | refine gN ?_ _)))⟩
      case measure => (simp [intOf] <;> omega)
    · go_wp2
      go_loopw [6] (fun i wr => ∃ j : Nat, j ≤ A.length ∧ i = .int .i64 j ∧ Grew wB wr) (fun i _ => A.length - (intOf i).toNat)
      case atStart => exact ⟨0, Nat.zero_le _, rfl, Hg.out.trans (by (repeat (first | exact gR _ | refine gO ?_ _ | refine gA ?_ _ | refine gD ?_ | refine gN ?_ _)))⟩
      case round =>
        clear q1 q4 Hg hlt hj hszr
        obtain ⟨j, hj, rfl, hg⟩ := hrel
        have Hg := Lib.hid hg
        have hszr := hg.below.size
        have q2 := hg.cellEq Hb2.out
        have q5 := hg.cellEq Hb5.out
        clear hg
        by_cases hlt : j < A.length
        · obtain ⟨b, o, rfl, lb, x1, x2, x3, x4⟩ := (HA.out.grew (HwB.out.trans Hg.out)).open hlt
          obtain ⟨b', o', rfl, lb', y1, y2, y3, y4⟩ := (HA'.out.grew (HwB.out.trans Hg.out)).open hlt
          have hji : (j : Int) < (A.length : Int) := by omega
          obtain ⟨k, hk⟩ : ∃ k, Fl.aK A j = k := ⟨_, rfl⟩
          rw [hk] at x1 x2 x3 x4 y1 y2 y3 y4
          clear hk
          go_upto_region 11 with fail
          refine wp_region_over (by kernel_rfl) (by kernel_rfl) ?_; (repeat (go_big_quiet_step (fail))); refine wpQuiet_nil ?_; rintro _ ⟨x, rfl⟩
          go_wp2
          go_roundw
          case rel => exact ⟨j + 1, by omega, by go_num, Hg.out.trans (by (repeat (first | exact gR _ | refine gO ?_ _ | refine gA ?_ _ | refine gD ?_ | refine gN ?_ _)))⟩
          case measure => (simp [intOf] <;> omega)
        · go_wp2
          go_ret
          exact ⟨rfl, HwB.out.trans (Hg.out.trans (by (repeat (first | exact gR _ | refine gO ?_ _ | refine gA ?_ _ | refine gD ?_ | refine gN ?_ _))))⟩

end Go.Proofs.YtiihgpgpbgafiaaDoor

/- Strings of letters; copied of the program. -/
namespace Go.Proofs.YtiihgpgpbgafiaaDoor
open Go.RowKit
attribute [local go_sem ↓] Go.wp_at_zero Go.wp_at_succ

/-- Some equal letters. -/
def lets (c : UInt8) (n : Nat) : ByteArray := ⟨(List.replicate n c).toArray⟩
/-! ### Slices of strings -/
def gs (ss : List ByteArray) (i : Nat) : ByteArray := ss.getD i ⟨#[]⟩
theorem gs_eq (ss : List ByteArray) {i : Nat} (h : i < ss.length) : gs ss i = ss[i] := by simp [gs, h]
def Strs (w : World) (p : Option Addr) (ss : List ByteArray) : Prop :=
  ss.length ≤ 9223372036854775807 ∧ ∃ b o, (0 < ss.length → p = some ⟨b, o, none⟩ ∧ b < w.heap.size) ∧ ∀ i, i < ss.length → w.cell? ⟨b, o + i, none⟩ = some (.string (gs ss i))
theorem Strs.grew {w w' : World} {p : Option Addr} {ss : List ByteArray} (h : Strs w p ss) (hg : Grew w w') : Strs w' p ss := by
  obtain ⟨h1, b, o, h3, h4⟩ := h
  exact ⟨h1, b, o, fun hp => ⟨(h3 hp).1, Nat.lt_of_lt_of_le (h3 hp).2 hg.below.size⟩, fun i hi => hg.cellEq (h4 i hi)⟩
theorem Strs.cells {w : World} {p : Option Addr} {ss : List ByteArray} (h : Strs w p ss) (h0 : 0 < ss.length) : ∃ b o, p = some ⟨b, o, none⟩ ∧ b < w.heap.size ∧ ∀ w' : World, Grew w w' → ∀ i, i < ss.length → w'.cell? ⟨b, o + i, none⟩ = some (.string (gs ss i)) := by
  obtain ⟨_, b, o, h3, h4⟩ := h
  obtain ⟨e, hb⟩ := h3 h0
  exact ⟨b, o, e, hb, fun w' hg i hi => hg.cellEq (h4 i hi)⟩
def strVs (ss : List ByteArray) : List Value := ss.map Value.string
theorem own_strs {w : World} {B : Nat} {rs : List Row} {k n : Nat} {v : Value} {ss : List ByteArray} (h : Owns w B rs) (hk : rs[k]? = some ⟨v, 9, 1, n, strVs ss⟩) (hn : ss.length = n) (hm : n ≤ 100000) : ∃ q c, v = .slice q n c ∧ Strs w q ss := by
  subst hn
  rcases (h.get hk).2 with ⟨g1, g2⟩ | ⟨g, cap, g1, g2, g3, g4, _, _, g6⟩
  · exact ⟨none, 0, by rw [g1, g2], by omega, 0, 0, fun h0 => by omega, fun i hi => by omega⟩
  · refine ⟨_, cap, g1, by omega, g, 0, fun _ => ⟨rfl, g3⟩, fun i hi => ?_⟩
    rw [Nat.zero_add]
    exact g6 i _ (by unfold strVs; rw [List.getElem?_map, List.getElem?_eq_getElem hi, gs_eq ss hi]; rfl)
theorem Tryd.infoStr : (Tryd.prog.info? 9).map (fun i => (i.zero, i.size, i.bytes)) = some (some (.string ⟨#[]⟩), 1, 16) := by kernel_rfl
theorem Tryd.infoArc : (Tryd.prog.info? 61).map (fun i => (i.zero, i.size, i.bytes)) = some (some (.agg #[.int .i64 0, .int .i64 0]), 2, 16) := by kernel_rfl

/-! ### Edges in memory of the call's own -/
def ar2 (a : Int × Int) : List Value := [.int .i64 a.1, .int .i64 a.2]
def arVs (E : List (Int × Int)) : List Value := E.flatMap ar2
theorem arVs_len : ∀ E : List (Int × Int), (arVs E).length = E.length * 2
  | [] => rfl
  | a :: E => by unfold arVs; rw [List.flatMap_cons, List.length_append]; have := arVs_len E; unfold arVs at this; rw [this, List.length_cons]; simp [ar2]; omega
theorem arVs_one (E : List (Int × Int)) : ∀ u ∈ arVs E, u.oneCell' = true := by
  intro u hu
  obtain ⟨x, _, h⟩ := List.mem_flatMap.1 hu
  simp only [ar2, List.mem_cons, List.not_mem_nil, or_false] at h
  rcases h with rfl | rfl <;> rfl
theorem arVs_get : ∀ {E : List (Int × Int)} {i : Nat}, i < E.length → ∀ k, k < 2 → (arVs E)[i * 2 + k]? = (ar2 (pr E i))[k]?
  | [], i, h, _, _ => by simp at h
  | x :: E, 0, h, k, hk => by
    show (ar2 x ++ arVs E)[0 * 2 + k]? = _
    rw [Nat.zero_mul, Nat.zero_add, List.getElem?_append_left (by simp [ar2]; exact hk)]
    rfl
  | x :: E, i + 1, h, k, hk => by
    show (ar2 x ++ arVs E)[(i + 1) * 2 + k]? = _
    rw [List.getElem?_append_right (by simp [ar2]; omega)]
    have e : (i + 1) * 2 + k - (ar2 x).length = i * 2 + k := by simp [ar2]; omega
    rw [e]
    exact arVs_get (by simpa using h) k hk
theorem Prs.news {w : World} {q : Option Addr} {E : List (Int × Int)} (h : Prs w q E) : ∀ b, q = some b → ∀ j u, (arVs E)[j]? = some u → w.cell? (b.add j) = some u := by
  intro b hb j u hj
  have hjl : j < E.length * 2 := by rw [← arVs_len]; exact (List.getElem?_eq_some_iff.1 hj).1
  obtain ⟨_, b', o, h3, h4⟩ := h
  obtain ⟨e, _⟩ := h3 (by omega)
  rw [hb] at e
  cases e
  rw [Addr.add_lit]
  obtain ⟨c1, c2⟩ := h4 (j / 2) (by omega)
  rcases Nat.mod_two_eq_zero_or_one j with hm | hm
  · have ej : j = j / 2 * 2 + 0 := by omega
    rw [ej, arVs_get (by omega) 0 (by omega)] at hj
    simp [ar2] at hj
    rw [← hj, show o + j = o + j / 2 * 2 by omega]
    exact c1
  · have ej : j = j / 2 * 2 + 1 := by omega
    rw [ej, arVs_get (by omega) 1 (by omega)] at hj
    simp [ar2] at hj
    rw [← hj, show o + j = o + j / 2 * 2 + 1 by omega]
    exact c2
abbrev eR (v : Value) (E : List (Int × Int)) : Row := ⟨v, 61, 2, E.length, arVs E⟩
theorem own_prs {w : World} {B : Nat} {rs : List Row} {k : Nat} {p : Option Addr} {c : Nat} {E : List (Int × Int)} (h : Owns w B rs) (hk : rs[k]? = some (eR (.slice p E.length c) E)) (hm : E.length ≤ 100000) : Prs w p E := by
  rcases (h.get hk).2 with ⟨g1, g2⟩ | ⟨g, cap, g1, g2, g3, g4, _, _, g6⟩
  · exact ⟨by omega, 0, 0, fun h0 => by omega, fun i hi => by omega⟩
  · simp only [Value.slice.injEq, true_and] at g1
    obtain ⟨rfl, _⟩ := g1
    refine ⟨by omega, g, 0, fun _ => ⟨rfl, g3⟩, fun i hi => ?_⟩
    have key : ∀ j x, j < 2 → (ar2 (pr E i))[j]? = some x → w.cell? ⟨g, 0 + i * 2 + j, none⟩ = some x := fun j x hj hx => g6 (0 + i * 2 + j) x (by rw [Nat.zero_add, arVs_get hi j hj]; exact hx)
    exact ⟨key 0 _ (by omega) rfl, key 1 _ (by omega) rfl⟩
/-- An append of nothing to nothing. -/
theorem app_nil {t ty e : TypeId} {P : Program} {i : TypeInfo} (ht : P.underlying t = some (.slice e)) (hi : P.info? e = some i) (c : Nat) (w : World) :
    (Builtin.append_ #[t, t] ty #[.slice none 0 0, .slice none 0 c]).run P w = .ok (.slice none 0 0) w := by
  simp [Builtin.append_, run_underlying ht, sizeOf, typeInfo, hi, Builtin.lenOf, Builtin.firstCells]
theorem Tryd.app_nilE (c : Nat) (ty : TypeId) (w : World) : (Builtin.append_ #[22, 22] ty #[.slice none 0 0, .slice none 0 c]).run Tryd.prog w = .ok (.slice none 0 0) w := by
  obtain ⟨i0, hi, _⟩ := info_parts Tryd.infoArc
  exact app_nil Tryd.underlying22 hi c w
theorem Tryd.app_nilI (c : Nat) (ty : TypeId) (w : World) : (Builtin.append_ #[28, 28] ty #[.slice none 0 0, .slice none 0 c]).run Tryd.prog w = .ok (.slice none 0 0) w := by
  obtain ⟨i0, hi, _⟩ := info_parts Tryd.infoInt
  exact app_nil Tryd.underlying28 hi c w
end Go.Proofs.YtiihgpgpbgafiaaDoor

/- copied of the program. -/
namespace Go.Proofs.YtiihgpgpbgafiaaDoor
open Go.RowKit
attribute [local go_sem ↓] Go.wp_at_zero Go.wp_at_succ

def cpRows (pE pA : Option Addr) (cE cA : Nat) (E : List (Int × Int)) (A : List (List Int)) (vals : List Value) : List Row := eR (.slice pE E.length cE) E :: ⟨.slice pA A.length cA, 28, 1, A.length, vals⟩ :: matRows vals A
def CopyPost (N : Int) (E : List (Int × Int)) (A : List (List Int)) (w : World) (e : Ending) (w' : World) : Prop :=
  Grew w w' ∧ ∃ pE cE pA cA vals, e = .returned (.agg #[.int .i64 N, .slice pE E.length cE, .slice pA A.length cA]) ∧ vals.length = A.length ∧ Owns w' w.heap.size (cpRows pE pA cE cA E A vals)
theorem copy_read {w : World} {B : Nat} {pE pA : Option Addr} {cE cA : Nat} {E : List (Int × Int)} {A : List (List Int)} {vals : List Value} {rs : List Row} (hO : Owns w B (cpRows pE pA cE cA E A vals ++ rs)) (hv : vals.length = A.length) (hE : E.length ≤ 100000) (hb : ∀ l ∈ A, ∀ x ∈ l, -9223372036854775808 ≤ x ∧ x ≤ 9223372036854775807) : Prs w pE E ∧ Mat w pA A := by
  refine ⟨own_prs (k := 0) hO rfl hE, ?_⟩
  obtain ⟨qa, ca, ea, hA⟩ := mat_of_owns hv hb (rs := rs) (Owns.tail hO)
  simp only [Value.slice.injEq, true_and] at ea
  obtain ⟨rfl, rfl⟩ := ea
  exact hA
/-- The boxes of copied. -/
abbrev cpB (h : Nat) (N : Int) (sE sA : Value) : List Row := [bx h 25 3 [.int .i64 N, sE, sA], bx (h + 1) 25 3 [.int .i64 0, .slice none 0 0, .slice none 0 0]]
theorem cpB_start (w : World) (N : Int) (sE sA : Value) : Owns ((w.alloc (.cells #[.int .i64 N, sE, sA] 25)).alloc (.cells #[.int .i64 0, .slice none 0 0, .slice none 0 0] 25)) w.heap.size (cpB w.heap.size N sE sA) := by
  have h1 := (Owns.nil w w.heap.size).made (Nat.le_refl _) #[.int .i64 N, sE, sA] 25 3 1 w.heap.size rfl (by decide) rfl
  have h2 := h1.made (by first | rfl | omega | (simp <;> omega)) #[.int .i64 0, .slice none 0 0, .slice none 0 0] 25 3 1 (w.heap.size + 1) rfl (by decide) (by simp)
  exact h2.perm (List.Perm.swap _ _ _)
theorem mat_bd {w : World} {p : Option Addr} {A : List (List Int)} (h : Mat w p A) : ∀ l ∈ A, ∀ x ∈ l, -9223372036854775808 ≤ x ∧ x ≤ 9223372036854775807 := by
  intro l hl x hx
  obtain ⟨u, hu, rfl⟩ := List.getElem_of_mem hl
  obtain ⟨_, _, _, rp, rc, _, h4⟩ := h
  have := (h4 u hu).2.2.1 x (by rw [rowOf_eq A hu]; exact hx)
  exact this
theorem take_rowOf (A : List (List Int)) {v : Nat} (h : v < A.length) : A.take (v + 1) = A.take v ++ [rowOf A v] := by rw [List.take_succ_eq_append_getElem h, rowOf_eq A h]
abbrev cpR (g h : Nat) (N : Int) (sE sA sX vO : Value) (E : List (Int × Int)) (v : Nat) (vals : List Value) (A : List (List Int)) : List Row :=
  ⟨vO, 28, 1, v, vals⟩ :: bx g 25 3 [.int .i64 N, sX, vO] :: eR sX E :: bx h 25 3 [.int .i64 N, sE, sA] :: bx (h + 1) 25 3 [.int .i64 0, .slice none 0 0, .slice none 0 0] :: matRows vals (A.take v)
set_option maxRecDepth 8000 in
set_option maxHeartbeats 16000000 in
theorem copied_p (N : Int) (pE pA : Option Addr) (nE nA cE cA : Nat) (E : List (Int × Int)) (A : List (List Int)) (w : World) (hE : Prs w pE E) (hA : Mat w pA A) (hE3 : E.length ≤ 100) (hA3 : A.length ≤ 100) (hr3 : ∀ v, v < A.length → (rowOf A v).length ≤ 100) (hnE : E.length = nE) (hnA : A.length = nA) :
    Calls Tryd.prog 35 #[.agg #[.int .i64 N, .slice pE nE cE, .slice pA nA cA]] w (CopyPost N E A w) := by
  subst hnE hnA
  have HE := Lib.hid hE
  have HA := Lib.hid hA
  have Hr3 := Lib.hid hr3
  have Hbd := Lib.hid (mat_bd hA)
  have Hst := Lib.hid (cpB_start w N (.slice pE E.length cE) (.slice pA A.length cA))
  have HG : Hid (Grew w ((w.alloc (.cells #[.int .i64 N, .slice pE E.length cE, .slice pA A.length cA] 25)).alloc (.cells #[.int .i64 0, .slice none 0 0, .slice none 0 0] 25))) := Lib.hid (by (repeat (first | exact gR _ | refine gO ?_ _ | refine gA ?_ _ | refine gD ?_ | refine gN ?_ _)))
  clear hE hA hr3
  go_enter Tryd.func35, Tryd.ntmps35
  go_upto_region 1 with fail
  obtain ⟨wB, hwB⟩ : ∃ wB, (w.alloc (.cells #[.int .i64 N, .slice pE E.length cE, .slice pA A.length cA] 25)).alloc (.cells #[.int .i64 0, .slice none 0 0, .slice none 0 0] 25) = wB := ⟨_, rfl⟩
  rw [hwB] at Hst HG ⊢
  clear hwB
  have hszB := HG.out.below.size
  have b0 := own_bx Hst.out (j := 0) rfl
  have q0 := b0.2.2.2 0 _ rfl
  have q1 := b0.2.2.2 1 _ rfl
  clear b0
  go_cut [3] (fun v3 wx => ∃ g pX cX, v3 = .pointer (some ⟨g, 0, none⟩) ∧ Grew w wx ∧ Owns wx w.heap.size (cpR g w.heap.size N (.slice pE E.length cE) (.slice pA A.length cA) (.slice pX E.length cX) (.slice none 0 0) E 0 [] A))
  case first =>
    have hszE : E.length ≤ 100 := hE3
    cases pE with
    | none =>
      have hE0 : E.length = 0 := by
        obtain ⟨_, b, o, h3, _⟩ := HE.out
        rcases Nat.eq_zero_or_pos E.length with h | h
        · exact h
        · cases (h3 h).1
      have hEn : E = [] := List.length_eq_zero_iff.1 hE0
      subst hEn
      have happ : ∀ (ty : TypeId) (W : World), (Builtin.append_ #[22, 22] ty #[.slice none 0 0, .slice none 0 cE]).run Tryd.prog W = .ok (.slice none 0 0) W := fun ty W => Tryd.app_nilE cE ty W
      refine wp_region_T (s := 7) (S := fun w' => w'.cell? ⟨w.heap.size, 0, none⟩ = some (.int .i64 N) ∧ w'.cell? ⟨w.heap.size, 1, none⟩ = some (.slice none 0 cE)) (by kernel_rfl) ⟨by simpa using q0, by simpa using q1⟩ (fun hH => ?_)
      refine wpAnyT_takeL (i := 0) (v := ?_) rfl (by kernel_rfl) (by kernel_rfl) (by kernel_rfl) (by kernel_rfl) (fun _ _ _ h => h) (Or.inl ⟨by rfl, ?_⟩) (by assumption) ?_
      rotate_left
      · (intro w hSw; (try dsimp only at hSw); go_simp; (try with_reducible rfl))
      (try simp only [Act.put, List.setIfInBounds_toArray, List.set_cons_zero, List.set_cons_succ])
      refine wpAnyT_takeL (i := 1) (v := ?_) rfl (by kernel_rfl) (by kernel_rfl) (by kernel_rfl) (by kernel_rfl) (fun _ _ _ h => h) (Or.inl ⟨by rfl, ?_⟩) (by assumption) ?_
      rotate_left
      · (intro w hSw; (try dsimp only at hSw); go_simp; (try with_reducible rfl))
      (try simp only [Act.put, List.setIfInBounds_toArray, List.set_cons_zero, List.set_cons_succ])
      refine wpAnyT_takeL (i := 2) (v := ?_) rfl (by kernel_rfl) (by kernel_rfl) (by kernel_rfl) (by kernel_rfl) (fun _ _ _ h => h) (Or.inl ⟨by rfl, ?_⟩) (by assumption) ?_
      rotate_left
      · (intro w hSw; (try dsimp only at hSw); go_simp; (try with_reducible rfl))
      (try simp only [Act.put, List.setIfInBounds_toArray, List.set_cons_zero, List.set_cons_succ])
      refine wpAnyT_takeL (i := 3) (v := ?_) rfl (by kernel_rfl) (by kernel_rfl) (by kernel_rfl) (by kernel_rfl) (fun _ _ _ h => h) (Or.inl ⟨by rfl, ?_⟩) (by assumption) ?_
      rotate_left
      · (intro w hSw; (try dsimp only at hSw); go_simp; (try with_reducible rfl))
      (try simp only [Act.put, List.setIfInBounds_toArray, List.set_cons_zero, List.set_cons_succ])
      refine wpAnyT_takeL (i := 4) (v := ?_) rfl (by kernel_rfl) (by kernel_rfl) (by kernel_rfl) (by kernel_rfl) (fun _ _ _ h => h) (Or.inl ⟨by rfl, ?_⟩) (by assumption) ?_
      rotate_left
      · (intro w hSw; (try dsimp only at hSw); go_simp; (try with_reducible rfl))
      (try simp only [Act.put, List.setIfInBounds_toArray, List.set_cons_zero, List.set_cons_succ])
      refine wpAnyT_takeL (i := 5) (v := ?_) rfl (by kernel_rfl) (by kernel_rfl) (by kernel_rfl) (by kernel_rfl) (fun _ _ _ h => h) (Or.inl ⟨by rfl, ?_⟩) (by assumption) ?_
      rotate_left
      · (intro w hSw; (try dsimp only at hSw); go_simp; (try with_reducible rfl))
      (try simp only [Act.put, List.setIfInBounds_toArray, List.set_cons_zero, List.set_cons_succ])
      refine wpAnyT_all (rs := [6]) (by kernel_rfl) (by simp) (AllT.consL (i := 6) rfl (fun K hK => ?_) AllT.nil)
      go_simp
      refine hK.out _ _ ?_ (fun hH => ?_)
      · (first | (simp [go_sem, ↓IntWalk.iteOmega, *]; done) | go_keep)
      clear hK K
      (try simp only [Act.put, List.setIfInBounds_toArray, List.set_cons_zero, List.set_cons_succ])
      refine wpAnyT_all (rs := [7]) (by kernel_rfl) (by simp) (AllT.lastL rfl (fun K hK => ?_))
      go_simp
      refine hK.out _ _ ?_
      clear hK K
      (try simp only [Act.put, List.setIfInBounds_toArray, List.set_cons_zero, List.set_cons_succ])
      refine wpAnyT_done (by kernel_rfl) ?_ _
      go_wp2_with fail
      go_meet
      have h1 := ((Hst.out.grew (Grew.refl wB).drew).made (by simp; omega) #[.int .i64 N, .slice none 0 0, .slice none 0 0] 25 3 1 wB.heap.size rfl (by decide) (by simp)).none 61 2
      refine ⟨wB.heap.size, none, 0, rfl, HG.out.trans (by (repeat (first | exact gR _ | refine gO ?_ _ | refine gA ?_ _ | refine gD ?_ | refine gN ?_ _))), ?_⟩
      have h2 := (h1.perm (List.Perm.swap _ _ _)).none 28 1
      exact h2.grew (by (repeat (first | exact gR _ | refine gO ?_ _ | refine gA ?_ _ | refine gD ?_ | refine gN ?_ _)))
    | some aE =>
      refine wp_region_T (s := 7) (S := fun w' => w'.cell? ⟨w.heap.size, 0, none⟩ = some (.int .i64 N) ∧ w'.cell? ⟨w.heap.size, 1, none⟩ = some (.slice (some aE) E.length cE)) (by kernel_rfl) ⟨by simpa using q0, by simpa using q1⟩ (fun hH => ?_)
      refine wpAnyT_takeL (i := 0) (v := ?_) rfl (by kernel_rfl) (by kernel_rfl) (by kernel_rfl) (by kernel_rfl) (fun _ _ _ h => h) (Or.inl ⟨by rfl, ?_⟩) (by assumption) ?_
      rotate_left
      · (intro w hSw; (try dsimp only at hSw); go_simp; (try with_reducible rfl))
      (try simp only [Act.put, List.setIfInBounds_toArray, List.set_cons_zero, List.set_cons_succ])
      refine wpAnyT_takeL (i := 1) (v := ?_) rfl (by kernel_rfl) (by kernel_rfl) (by kernel_rfl) (by kernel_rfl) (fun _ _ _ h => h) (Or.inl ⟨by rfl, ?_⟩) (by assumption) ?_
      rotate_left
      · (intro w hSw; (try dsimp only at hSw); go_simp; (try with_reducible rfl))
      (try simp only [Act.put, List.setIfInBounds_toArray, List.set_cons_zero, List.set_cons_succ])
      refine wpAnyT_takeL (i := 2) (v := ?_) rfl (by kernel_rfl) (by kernel_rfl) (by kernel_rfl) (by kernel_rfl) (fun _ _ _ h => h) (Or.inl ⟨by rfl, ?_⟩) (by assumption) ?_
      rotate_left
      · (intro w hSw; (try dsimp only at hSw); go_simp; (try with_reducible rfl))
      (try simp only [Act.put, List.setIfInBounds_toArray, List.set_cons_zero, List.set_cons_succ])
      refine wpAnyT_takeL (i := 3) (v := ?_) rfl (by kernel_rfl) (by kernel_rfl) (by kernel_rfl) (by kernel_rfl) (fun _ _ _ h => h) (Or.inl ⟨by rfl, ?_⟩) (by assumption) ?_
      rotate_left
      · (intro w hSw; (try dsimp only at hSw); go_simp; (try with_reducible rfl))
      (try simp only [Act.put, List.setIfInBounds_toArray, List.set_cons_zero, List.set_cons_succ])
      refine wpAnyT_all (rs := [4, 6]) (by kernel_rfl) (by simp) (AllT.consL (i := 4) rfl (fun K hK => ?_) (AllT.consL (i := 6) rfl (fun K hK => ?_) AllT.nil))
      · refine step_append_owns rfl _ _ 22 (by rfl) 61 2 16 (.agg #[.int .i64 0, .int .i64 0]) Tryd.underlying22 Tryd.infoArc rfl (by decide) w.heap.size _ 0 _ _ _ ((Hst.out.grew (by (repeat (first | exact gR _ | refine gO ?_ _ | refine gA ?_ _ | refine gD ?_ | refine gN ?_ _)))).none 61 2) rfl (by rfl) _ _ _ (by rfl) (arVs E) (by rw [arVs_len]) (fun h => by cases h) (Prs.news (HE.out.grew (HG.out.trans (by (repeat (first | exact gR _ | refine gO ?_ _ | refine gA ?_ _ | refine gD ?_ | refine gN ?_ _)))))) (arVs_one E) (by simp only [maxLen]; omega) (by omega) (by first | rfl | omega | (simp <;> omega)) ?_
        intro v1 w1 hO1 hg1 hb1 _
        obtain ⟨p1, c1, rfl⟩ := own_form hO1 (k := 0) rfl
        have hG1 : Grew w w1 := Grew.grownBy (w0 := w) (HG.out.trans (by (repeat (first | exact gR _ | refine gO ?_ _ | refine gA ?_ _ | refine gD ?_ | refine gN ?_ _)))) hg1 hb1
        have b0 := own_bx hO1 (j := 1) rfl
        have q0 := b0.2.2.2 0 _ rfl
        have q1 := b0.2.2.2 1 _ rfl
        have hsz1 := hG1.below.size
        have HO1 := Lib.hid hO1
        have HG1 := Lib.hid hG1
        clear hO1 hG1 hg1 hb1 b0
        refine hK.out _ _ ⟨q0, q1⟩ (fun hH => ?_)
        clear hK K
        (try simp only [Act.put, List.setIfInBounds_toArray, List.set_cons_zero, List.set_cons_succ])
        refine wpAnyT_takeL (i := 5) (v := ?_) rfl (by kernel_rfl) (by kernel_rfl) (by kernel_rfl) (by kernel_rfl) (fun _ _ _ h => h) (Or.inl ⟨by rfl, ?_⟩) (by assumption) ?_
        rotate_left
        · (intro w hSw; (try dsimp only at hSw); go_simp; (try with_reducible rfl))
        (try simp only [Act.put, List.setIfInBounds_toArray, List.set_cons_zero, List.set_cons_succ])
        refine wpAnyT_all (rs := [6]) (by kernel_rfl) (by simp) (AllT.consL (i := 6) rfl (fun K hK => ?_) AllT.nil)
        go_simp
        refine hK.out _ _ ?_ (fun hH => ?_)
        · (first | (simp [go_sem, ↓IntWalk.iteOmega, *]; done) | go_keep)
        clear hK K
        (try simp only [Act.put, List.setIfInBounds_toArray, List.set_cons_zero, List.set_cons_succ])
        refine wpAnyT_all (rs := [7]) (by kernel_rfl) (by simp) (AllT.lastL rfl (fun K hK => ?_))
        go_simp
        refine hK.out _ _ ?_
        clear hK K
        (try simp only [Act.put, List.setIfInBounds_toArray, List.set_cons_zero, List.set_cons_succ])
        refine wpAnyT_done (by kernel_rfl) ?_ _
        go_wp2_with fail
        go_meet
        rw [Nat.zero_add] at HO1
        have h1 := HO1.out.made hsz1 #[.int .i64 N, .slice p1 E.length c1, .slice none 0 0] 25 3 1 w1.heap.size rfl (by decide) rfl
        refine ⟨w1.heap.size, p1, c1, rfl, HG1.out.trans (by (repeat (first | exact gR _ | refine gO ?_ _ | refine gA ?_ _ | refine gD ?_ | refine gN ?_ _))), ?_⟩
        exact (h1.none 28 1).grew (by (repeat (first | exact gR _ | refine gO ?_ _ | refine gA ?_ _ | refine gD ?_ | refine gN ?_ _)))
      · go_simp
        have HA6 : Hid (Owns (wB.alloc (.cells #[.int .i64 0, .slice none 0 0, .slice none 0 0] 25)) w.heap.size _) := Lib.hid (Hst.out.made (by omega) #[.int .i64 0, .slice none 0 0, .slice none 0 0] 25 3 1 wB.heap.size rfl (by decide) (by simp))
        refine hK.out _ _ ?_ (fun hH => ?_)
        · (first | (simp [go_sem, ↓IntWalk.iteOmega, *]; done) | go_keep)
        clear hK K
        (try simp only [Act.put, List.setIfInBounds_toArray, List.set_cons_zero, List.set_cons_succ])
        refine wpAnyT_all (rs := [4]) (by kernel_rfl) (by simp) (AllT.consL (i := 4) rfl (fun K hK => ?_) AllT.nil)
        refine step_append_owns rfl _ _ 22 (by rfl) 61 2 16 (.agg #[.int .i64 0, .int .i64 0]) Tryd.underlying22 Tryd.infoArc rfl (by decide) w.heap.size _ 0 _ _ _ ((HA6.out.grew (by (repeat (first | exact gR _ | refine gO ?_ _ | refine gA ?_ _ | refine gD ?_ | refine gN ?_ _)))).none 61 2) rfl (by rfl) _ _ _ (by rfl) (arVs E) (by rw [arVs_len]) (fun h => by cases h) (Prs.news (HE.out.grew (HG.out.trans (by (repeat (first | exact gR _ | refine gO ?_ _ | refine gA ?_ _ | refine gD ?_ | refine gN ?_ _)))))) (arVs_one E) (by simp only [maxLen]; omega) (by omega) (by first | rfl | omega | (simp <;> omega)) ?_; intro v1 w1 hO1 hg1 hb1 _; obtain ⟨p1, c1, rfl⟩ := own_form hO1 (k := 0) rfl; have hG1 : Grew w w1 := Grew.grownBy (w0 := w) (HG.out.trans (by (repeat (first | exact gR _ | refine gO ?_ _ | refine gA ?_ _ | refine gD ?_ | refine gN ?_ _)))) hg1 hb1; have b0 := own_bx hO1 (j := 2) rfl; have q0 := b0.2.2.2 0 _ rfl; have q1 := b0.2.2.2 1 _ rfl; have b1 := own_bx hO1 (j := 1) rfl; have z0 := b1.2.2.2 0 _ rfl; have z1 := b1.2.2.2 1 _ rfl; have z2 := b1.2.2.2 2 _ rfl; have y0 := b1.2.2.1 0; have y1 := b1.2.2.1 1; have y2 := b1.2.2.1 2; have hgB := b1.2.1; have hsz1 := hG1.below.size; have HO1 := Lib.hid hO1; have HG1 := Lib.hid hG1; clear hO1 hG1 hg1 hb1 b0 b1
        refine hK.out _ _ ?_ (fun hH => ?_)
        · (first | (simp [go_sem, ↓IntWalk.iteOmega, *]; done) | go_keep)
        clear hK K
        (try simp only [Act.put, List.setIfInBounds_toArray, List.set_cons_zero, List.set_cons_succ])
        refine wpAnyT_takeL (i := 5) (v := ?_) rfl (by kernel_rfl) (by kernel_rfl) (by kernel_rfl) (by kernel_rfl) (fun _ _ _ h => h) (Or.inl ⟨by rfl, ?_⟩) (by assumption) ?_
        rotate_left
        · (intro w hSw; (try dsimp only at hSw); go_simp; (try with_reducible rfl))
        (try simp only [Act.put, List.setIfInBounds_toArray, List.set_cons_zero, List.set_cons_succ])
        refine wpAnyT_all (rs := [7]) (by kernel_rfl) (by simp) (AllT.lastL rfl (fun K hK => ?_))
        go_simp
        refine hK.out _ _ ?_
        clear hK K
        (try simp only [Act.put, List.setIfInBounds_toArray, List.set_cons_zero, List.set_cons_succ])
        refine wpAnyT_done (by kernel_rfl) ?_ _
        go_wp2_with fail
        go_meet
        rw [Nat.zero_add] at HO1
        have h1 := ((HO1.out.set (k := 1) rfl 0 (.int .i64 N)).set (k := 1) rfl 1 (.slice p1 E.length c1)).set (k := 1) rfl 2 (.slice none 0 0)
        have g1 := Owns.setGrew HO1.out (Nat.le_refl _) HG1.out (k := 1) rfl 0 (.int .i64 N)
        have g2 := Owns.setGrew (HO1.out.set (k := 1) rfl 0 (.int .i64 N)) (Nat.le_refl _) g1 (k := 1) rfl 1 (.slice p1 E.length c1)
        have g3 := Owns.setGrew ((HO1.out.set (k := 1) rfl 0 (.int .i64 N)).set (k := 1) rfl 1 (.slice p1 E.length c1)) (Nat.le_refl _) g2 (k := 1) rfl 2 (.slice none 0 0)
        refine ⟨wB.heap.size, p1, c1, rfl, g3.trans (by (repeat (first | exact gR _ | refine gO ?_ _ | refine gA ?_ _ | refine gD ?_ | refine gN ?_ _))), ?_⟩
        exact ((h1.perm (List.Perm.swap _ _ _)).none 28 1).grew (by (repeat (first | exact gR _ | refine gO ?_ _ | refine gA ?_ _ | refine gD ?_ | refine gN ?_ _)))
  case rest =>
    obtain ⟨g, pX, cX, rfl, hgx, hOx⟩ := hcut
    have Hgx := Lib.hid hgx
    have HOx := Lib.hid hOx
    have b0 := own_bx hOx (j := 3) rfl
    have q2 := b0.2.2.2 2 _ rfl
    clear hgx hOx b0 Hst HG q0 q1
    go_wp2
    go_loopw [15] (fun kv wr => ∃ v : Nat, v ≤ A.length ∧ kv = .int .i64 v ∧ Grew w wr ∧ ∃ (vO : Value) (vals : List Value), vals.length = v ∧ Owns wr w.heap.size (cpR g w.heap.size N (.slice pE E.length cE) (.slice pA A.length cA) (.slice pX E.length cX) vO E v vals A)) (fun kv _ => A.length - (intOf kv).toNat)
    case atStart => exact ⟨0, Nat.zero_le _, rfl, Hgx.out.trans (by (repeat (first | exact gR _ | refine gO ?_ _ | refine gA ?_ _ | refine gD ?_ | refine gN ?_ _))), _, [], rfl, HOx.out.grew (by (repeat (first | exact gR _ | refine gO ?_ _ | refine gA ?_ _ | refine gD ?_ | refine gN ?_ _)))⟩
    case round =>
      clear q2
      obtain ⟨v, hv, rfl, hgr, vO, vals, hvl, hOk⟩ := hrel
      obtain ⟨pO, cO, rfl⟩ := own_form hOk (k := 0) rfl
      have Hgr := Lib.hid hgr
      have HOk := Lib.hid hOk
      have Hvl := Lib.hid hvl
      have hszr := hgr.below.size
      have b1 := own_bx hOk (j := 1) rfl
      have hgl := b1.2.1
      have y2 := b1.2.2.2 2 _ rfl
      have z2 := b1.2.2.1 2
      clear hgr hOk hvl b1 HOx Hgx
      by_cases hlt : v < A.length
      · obtain ⟨bA, oA, rp, rc, rfl, lA, cA'⟩ := HA.out.rows (by omega)
        obtain ⟨a1, _⟩ := cA' wr Hgr.out v hlt
        obtain ⟨_, a2⟩ := cA' w (Grew.refl _) v hlt
        obtain ⟨rv, hrv⟩ : ∃ rv, rp v = rv := ⟨_, rfl⟩
        obtain ⟨R, hR⟩ : ∃ R, rowOf A v = R := ⟨_, rfl⟩
        have hRl : R.length ≤ 100 := by rw [← hR]; exact Hr3.out v hlt
        have HRe := Lib.hid hR
        rw [hrv, hR] at a1 a2
        have Ha2 := Lib.hid a2
        clear cA' a2 hrv hR
        go_upto_region 5 with fail
        cases rv with
        | none =>
          have hR0 : R.length = 0 := by
            obtain ⟨_, _, b, o, h3, _⟩ := Ha2.out
            rcases Nat.eq_zero_or_pos R.length with h | h
            · exact h
            · cases (h3 h).1
          have hRn : R = [] := List.length_eq_zero_iff.1 hR0
          subst hRn
          have happ : ∀ (ty : TypeId) (W : World), (Builtin.append_ #[28, 28] ty #[.slice none 0 0, .slice none 0 (rc v)]).run Tryd.prog W = .ok (.slice none 0 0) W := fun ty W => Tryd.app_nilI (rc v) ty W
          have HO3 : Hid (Owns wr w.heap.size (matRow (.slice none 0 0) [] :: cpR g w.heap.size N (.slice pE E.length cE) (.slice (some ⟨bA, oA, none⟩) A.length cA) (.slice pX E.length cX) (.slice pO v cO) E v vals A)) := Lib.hid (HOk.out.none 3 1)
          refine wp_region_T (s := 7) (S := fun w' => w'.cell? ⟨g, 2, none⟩ = some (.slice pO v cO)) (by kernel_rfl) (by simpa using y2) (fun hH => ?_)
          refine wpAnyT_takeL (i := 0) (v := ?_) rfl (by kernel_rfl) (by kernel_rfl) (by kernel_rfl) (by kernel_rfl) (fun _ _ _ h => h) (Or.inl ⟨by rfl, ?_⟩) (by assumption) ?_
          rotate_left
          · (intro w hSw; (try dsimp only at hSw); go_simp; (try with_reducible rfl))
          (try simp only [Act.put, List.setIfInBounds_toArray, List.set_cons_zero, List.set_cons_succ])
          refine wpAnyT_takeL (i := 1) (v := ?_) rfl (by kernel_rfl) (by kernel_rfl) (by kernel_rfl) (by kernel_rfl) (fun _ _ _ h => h) (Or.inl ⟨by rfl, ?_⟩) (by assumption) ?_
          rotate_left
          · (intro w hSw; (try dsimp only at hSw); go_simp; (try with_reducible rfl))
          (try simp only [Act.put, List.setIfInBounds_toArray, List.set_cons_zero, List.set_cons_succ])
          refine wpAnyT_takeL (i := 2) (v := ?_) rfl (by kernel_rfl) (by kernel_rfl) (by kernel_rfl) (by kernel_rfl) (fun _ _ _ h => h) (Or.inl ⟨by rfl, ?_⟩) (by assumption) ?_
          rotate_left
          · (intro w hSw; (try dsimp only at hSw); go_simp; (try with_reducible rfl))
          (try simp only [Act.put, List.setIfInBounds_toArray, List.set_cons_zero, List.set_cons_succ])
          refine wpAnyT_takeL (i := 3) (v := ?_) rfl (by kernel_rfl) (by kernel_rfl) (by kernel_rfl) (by kernel_rfl) (fun _ _ _ h => h) (Or.inl ⟨by rfl, ?_⟩) (by assumption) ?_
          rotate_left
          · (intro w hSw; (try dsimp only at hSw); go_simp; (try with_reducible rfl))
          (try simp only [Act.put, List.setIfInBounds_toArray, List.set_cons_zero, List.set_cons_succ])
          refine wpAnyT_all (rs := [4]) (by kernel_rfl) (by simp) (AllT.consL (i := 4) rfl (fun K hK => ?_) AllT.nil)
          go_simp
          refine hK.out _ _ ?_ (fun hH => ?_)
          · (first | (simp [go_sem, ↓IntWalk.iteOmega, *]; done) | go_keep)
          clear hK K
          (try simp only [Act.put, List.setIfInBounds_toArray, List.set_cons_zero, List.set_cons_succ])
          refine wpAnyT_all (rs := [5]) (by kernel_rfl) (by simp) (AllT.consL (i := 5) rfl (fun K hK => ?_) AllT.nil)
          refine step_append_owns rfl _ _ 23 (by rfl) 28 1 24 (.slice none 0 0) Tryd.underlying23 Tryd.infoInts rfl (by decide) w.heap.size _ 1 _ _ _ (HO3.out.grew (by (repeat (first | exact gR _ | refine gO ?_ _ | refine gA ?_ _ | refine gD ?_ | refine gN ?_ _)))) rfl (by rfl) _ 1 1 (by rfl) [(.slice none 0 0)] rfl (fun h => by cases h) (one_news _ (by (simp [go_sem, ↓IntWalk.iteOmega]))) (by simp [Value.oneCell']) (by simp only [maxLen]; omega) (by omega) (by first | rfl | omega | (simp <;> omega)) ?_; intro v2 w2 hO2 hg2 hb2 _; obtain ⟨p2, c2, rfl⟩ := own_form hO2 (k := 1) rfl; have b1 := own_bx hO2 (j := 2) rfl; have y2 := b1.2.2.2 2 _ rfl; have z2 := b1.2.2.1 2; have hgl2 := b1.2.1; have hG2 : Grew w w2 := Grew.grownBy (w0 := w) (Hgr.out.trans (by (repeat (first | exact gR _ | refine gO ?_ _ | refine gA ?_ _ | refine gD ?_ | refine gN ?_ _)))) hg2 hb2; have HO4 := Lib.hid hO2; have HG2 := Lib.hid hG2; clear hO2 hG2 hg2 hb2 b1
          refine hK.out _ _ ?_ (fun hH => ?_)
          · (first | (simp [go_sem, ↓IntWalk.iteOmega, *]; done) | go_keep)
          clear hK K
          (try simp only [Act.put, List.setIfInBounds_toArray, List.set_cons_zero, List.set_cons_succ])
          refine wpAnyT_takeL (i := 6) (v := ?_) rfl (by kernel_rfl) (by kernel_rfl) (by kernel_rfl) (by kernel_rfl) (fun _ _ _ h => h) (Or.inl ⟨by rfl, ?_⟩) (by assumption) ?_
          rotate_left
          · (intro w hSw; (try dsimp only at hSw); go_simp; (try with_reducible rfl))
          (try simp only [Act.put, List.setIfInBounds_toArray, List.set_cons_zero, List.set_cons_succ])
          refine wpAnyT_all (rs := [7]) (by kernel_rfl) (by simp) (AllT.lastL rfl (fun K hK => ?_))
          go_simp
          refine hK.out _ _ ?_
          clear hK K
          (try simp only [Act.put, List.setIfInBounds_toArray, List.set_cons_zero, List.set_cons_succ])
          refine wpAnyT_done (by kernel_rfl) ?_ _
          go_wp2
          go_roundw
          case rel => exact ⟨v + 1, by omega, by go_num, (Owns.setGrew HO4.out (Nat.le_refl _) HG2.out (k := 2) rfl 2 (.slice p2 (v + 1) c2)).trans (by (repeat (first | exact gR _ | refine gO ?_ _ | refine gA ?_ _ | refine gD ?_ | refine gN ?_ _))), .slice p2 (v + 1) c2, vals ++ [(.slice none 0 0)], by rw [List.length_append, Hvl.out]; rfl, by
            have hz := (HO4.out.set (k := 2) rfl 2 (.slice p2 (v + 1) c2)).perm (List.perm_append_singleton _ _).symm
            have hm := matRows_snoc (vals := vals) (m := A.take v) (by rw [Hvl.out, List.length_take]; omega) (.slice none 0 0) (rowOf A v)
            rw [← take_rowOf A hlt, HRe.out] at hm
            unfold cpR
            rw [hm]
            exact hz.grew (by (repeat (first | exact gR _ | refine gO ?_ _ | refine gA ?_ _ | refine gD ?_ | refine gN ?_ _)))⟩
          case measure => (simp [intOf] <;> omega)
        | some aR =>
          refine wp_region_T (s := 7) (S := fun w' => w'.cell? ⟨g, 2, none⟩ = some (.slice pO v cO)) (by kernel_rfl) (by simpa using y2) (fun hH => ?_)
          refine wpAnyT_takeL (i := 0) (v := ?_) rfl (by kernel_rfl) (by kernel_rfl) (by kernel_rfl) (by kernel_rfl) (fun _ _ _ h => h) (Or.inl ⟨by rfl, ?_⟩) (by assumption) ?_
          rotate_left
          · (intro w hSw; (try dsimp only at hSw); go_simp; (try with_reducible rfl))
          (try simp only [Act.put, List.setIfInBounds_toArray, List.set_cons_zero, List.set_cons_succ])
          refine wpAnyT_takeL (i := 1) (v := ?_) rfl (by kernel_rfl) (by kernel_rfl) (by kernel_rfl) (by kernel_rfl) (fun _ _ _ h => h) (Or.inl ⟨by rfl, ?_⟩) (by assumption) ?_
          rotate_left
          · (intro w hSw; (try dsimp only at hSw); go_simp; (try with_reducible rfl))
          (try simp only [Act.put, List.setIfInBounds_toArray, List.set_cons_zero, List.set_cons_succ])
          refine wpAnyT_takeL (i := 2) (v := ?_) rfl (by kernel_rfl) (by kernel_rfl) (by kernel_rfl) (by kernel_rfl) (fun _ _ _ h => h) (Or.inl ⟨by rfl, ?_⟩) (by assumption) ?_
          rotate_left
          · (intro w hSw; (try dsimp only at hSw); go_simp; (try with_reducible rfl))
          (try simp only [Act.put, List.setIfInBounds_toArray, List.set_cons_zero, List.set_cons_succ])
          refine wpAnyT_all (rs := [3]) (by kernel_rfl) (by simp) (AllT.consL (i := 3) rfl (fun K hK => ?_) AllT.nil)
          refine step_append_owns rfl _ _ 28 (by rfl) 3 1 8 (.int .i64 0) Tryd.underlying28 Tryd.infoInt rfl (by decide) w.heap.size _ 0 _ _ _ ((HOk.out.grew (by (repeat (first | exact gR _ | refine gO ?_ _ | refine gA ?_ _ | refine gD ?_ | refine gN ?_ _)))).none 3 1) rfl (by rfl) _ _ _ (by rfl) (intVs R) (by rw [intVs_length, Nat.mul_one]) (fun h => by cases h) (Ints.newsO (Ha2.out.grew (Hgr.out.trans (by (repeat (first | exact gR _ | refine gO ?_ _ | refine gA ?_ _ | refine gD ?_ | refine gN ?_ _)))))) (intVs_one _) (by simp only [maxLen]; omega) (by omega) (by first | rfl | omega | (simp <;> omega)) ?_; intro v1 w1 hO1 hg1 hb1 _; obtain ⟨p1, c1, rfl⟩ := own_form hO1 (k := 0) rfl; have b1 := own_bx hO1 (j := 2) rfl; have y2 := b1.2.2.2 2 _ rfl; have z2 := b1.2.2.1 2; have hgl1 := b1.2.1; have hG1 : Grew w w1 := Grew.grownBy (w0 := w) (Hgr.out.trans (by (repeat (first | exact gR _ | refine gO ?_ _ | refine gA ?_ _ | refine gD ?_ | refine gN ?_ _)))) hg1 hb1; have hsz1 := hG1.below.size; rw [Nat.zero_add] at hO1; have HO3 := Lib.hid hO1; have HG1 := Lib.hid hG1; clear hO1 hG1 hg1 hb1 b1
          refine hK.out _ _ ?_ (fun hH => ?_)
          · (first | (simp [go_sem, ↓IntWalk.iteOmega, *]; done) | go_keep)
          clear hK K
          (try simp only [Act.put, List.setIfInBounds_toArray, List.set_cons_zero, List.set_cons_succ])
          refine wpAnyT_all (rs := [4]) (by kernel_rfl) (by simp) (AllT.consL (i := 4) rfl (fun K hK => ?_) AllT.nil)
          go_simp
          refine hK.out _ _ ?_ (fun hH => ?_)
          · (first | (simp [go_sem, ↓IntWalk.iteOmega, *]; done) | go_keep)
          clear hK K
          (try simp only [Act.put, List.setIfInBounds_toArray, List.set_cons_zero, List.set_cons_succ])
          refine wpAnyT_all (rs := [5]) (by kernel_rfl) (by simp) (AllT.consL (i := 5) rfl (fun K hK => ?_) AllT.nil)
          refine step_append_owns rfl _ _ 23 (by rfl) 28 1 24 (.slice none 0 0) Tryd.underlying23 Tryd.infoInts rfl (by decide) w.heap.size _ 1 _ _ _ (HO3.out.grew (by (repeat (first | exact gR _ | refine gO ?_ _ | refine gA ?_ _ | refine gD ?_ | refine gN ?_ _)))) rfl (by rfl) _ 1 1 (by rfl) [(.slice p1 R.length c1)] rfl (fun h => by cases h) (one_news _ (by (simp [go_sem, ↓IntWalk.iteOmega]))) (by simp [Value.oneCell']) (by simp only [maxLen]; omega) (by omega) (by first | rfl | omega | (simp <;> omega)) ?_; intro v2 w2 hO2 hg2 hb2 _; obtain ⟨p2, c2, rfl⟩ := own_form hO2 (k := 1) rfl; have b1 := own_bx hO2 (j := 2) rfl; have y2 := b1.2.2.2 2 _ rfl; have z2 := b1.2.2.1 2; have hgl2 := b1.2.1; have hG2 : Grew w w2 := Grew.grownBy (w0 := w) (HG1.out.trans (by (repeat (first | exact gR _ | refine gO ?_ _ | refine gA ?_ _ | refine gD ?_ | refine gN ?_ _)))) hg2 hb2; have HO4 := Lib.hid hO2; have HG2 := Lib.hid hG2; clear hO2 hG2 hg2 hb2 b1
          refine hK.out _ _ ?_ (fun hH => ?_)
          · (first | (simp [go_sem, ↓IntWalk.iteOmega, *]; done) | go_keep)
          clear hK K
          (try simp only [Act.put, List.setIfInBounds_toArray, List.set_cons_zero, List.set_cons_succ])
          refine wpAnyT_takeL (i := 6) (v := ?_) rfl (by kernel_rfl) (by kernel_rfl) (by kernel_rfl) (by kernel_rfl) (fun _ _ _ h => h) (Or.inl ⟨by rfl, ?_⟩) (by assumption) ?_
          rotate_left
          · (intro w hSw; (try dsimp only at hSw); go_simp; (try with_reducible rfl))
          (try simp only [Act.put, List.setIfInBounds_toArray, List.set_cons_zero, List.set_cons_succ])
          refine wpAnyT_all (rs := [7]) (by kernel_rfl) (by simp) (AllT.lastL rfl (fun K hK => ?_))
          go_simp
          refine hK.out _ _ ?_
          clear hK K
          (try simp only [Act.put, List.setIfInBounds_toArray, List.set_cons_zero, List.set_cons_succ])
          refine wpAnyT_done (by kernel_rfl) ?_ _
          go_wp2
          go_roundw
          case rel => exact ⟨v + 1, by omega, by go_num, (Owns.setGrew HO4.out (Nat.le_refl _) HG2.out (k := 2) rfl 2 (.slice p2 (v + 1) c2)).trans (by (repeat (first | exact gR _ | refine gO ?_ _ | refine gA ?_ _ | refine gD ?_ | refine gN ?_ _))), .slice p2 (v + 1) c2, vals ++ [(.slice p1 R.length c1)], by rw [List.length_append, Hvl.out]; rfl, by
            have hz := (HO4.out.set (k := 2) rfl 2 (.slice p2 (v + 1) c2)).perm (List.perm_append_singleton _ _).symm
            have hm := matRows_snoc (vals := vals) (m := A.take v) (by rw [Hvl.out, List.length_take]; omega) (.slice p1 R.length c1) (rowOf A v)
            rw [← take_rowOf A hlt, HRe.out] at hm
            unfold cpR
            rw [hm]
            exact hz.grew (by (repeat (first | exact gR _ | refine gO ?_ _ | refine gA ?_ _ | refine gD ?_ | refine gN ?_ _)))⟩
          case measure => (simp [intOf] <;> omega)
      · obtain rfl : v = A.length := by omega
        have b4 := own_bx HOk.out (j := 4) rfl
        have r0 := b4.2.2.2 0 _ rfl
        have r1 := b4.2.2.2 1 _ rfl
        have r2 := b4.2.2.2 2 _ rfl
        have r3 := b4.2.2.1 0
        have r4 := b4.2.2.1 1
        have r5 := b4.2.2.1 2
        have hrl := b4.2.1
        have b1 := own_bx HOk.out (j := 1) rfl
        have y0 := b1.2.2.2 0 _ rfl
        have y1 := b1.2.2.2 1 _ rfl
        have HF1 := Lib.hid (((HOk.out.set (k := 4) rfl 0 (.int .i64 N)).set (k := 4) rfl 1 (.slice pX E.length cX)).set (k := 4) rfl 2 (.slice pO A.length cO))
        have g1 := Owns.setGrew HOk.out (Nat.le_refl _) Hgr.out (k := 4) rfl 0 (.int .i64 N)
        have g2 := Owns.setGrew (HOk.out.set (k := 4) rfl 0 (.int .i64 N)) (Nat.le_refl _) g1 (k := 4) rfl 1 (.slice pX E.length cX)
        have HF2 := Lib.hid (Owns.setGrew ((HOk.out.set (k := 4) rfl 0 (.int .i64 N)).set (k := 4) rfl 1 (.slice pX E.length cX)) (Nat.le_refl _) g2 (k := 4) rfl 2 (.slice pO A.length cO))
        clear b4 b1 g1 g2
        go_wp2
        refine bodyPost_ret (v := .agg #[.int .i64 N, .slice pX E.length cX, .slice pO A.length cO]) (by simp [results, Tryd.results35, go_sem, ↓IntWalk.iteOmega, y0, y1, y2, r0, r1, r2, r3, r4, r5]) rfl ?_
        have hF1 := HF1.out.grew (show Grew _ _ by (repeat (first | exact gR _ | refine gO ?_ _ | refine gA ?_ _ | refine gD ?_ | refine gN ?_ _)))
        have h1 := (hF1.perm (List.Perm.swap _ _ _)).tail
        have h2 := (h1.perm (List.perm_middle (l₁ := [_, _]))).tail
        have h3 := (h2.perm (List.perm_middle (l₁ := [_, _]))).tail
        have h4 := h3.perm (List.Perm.swap _ _ _)
        rw [List.take_length] at h4
        exact ⟨HF2.out.trans (by (repeat (first | exact gR _ | refine gO ?_ _ | refine gA ?_ _ | refine gD ?_ | refine gN ?_ _))), pX, cX, pO, cO, vals, rfl, Hvl.out, h4⟩
end Go.Proofs.YtiihgpgpbgafiaaDoor

/- strings.Repeat at this program (laid by the kit's own tool, in plain words). -/
set_option linter.unusedVariables false
namespace Go.Proofs.YtiihgpgpbgafiaaDoor
open Go.Shelf Go.RowKit Go.Lib
def Tryd.lays105_ren : Go.Shelf.Ren := ⟨fun | 105 => 36 | 212 => 58 | 99 => 59 | 165 => 60 | 166 => 61 | 170 => 62 | 169 => 63 | 263 => 74 | 264 => 75 | 206 => 76 | 240 => 77 | 241 => 78 | 276 => 88 | 277 => 89 | n => n, fun | 9 => 9 | 3 => 3 | 4 => 4 | 20 => 20 | 0 => 0 | 46 => 79 | 109 => 80 | 5 => 5 | 72 => 86 | 76 => 90 | 51 => 101 | 146 => 102 | 53 => 104 | 148 => 105 | 70 => 83 | 37 => 84 | 75 => 89 | 127 => 107 | 164 => 127 | 80 => 93 | n => n, fun | n => n⟩
theorem Tryd.lays105 : Go.Proofs.Lays.n105 Tryd.prog Tryd.lays105_ren := {
  mixed := by kernel_rfl
  f99 := Tryd.func59.trans (congrArg some (by kernel_rfl))
  f105 := Tryd.func36.trans (congrArg some (by kernel_rfl))
  f165 := Tryd.func60.trans (congrArg some (by kernel_rfl))
  f166 := Tryd.func61.trans (congrArg some (by kernel_rfl))
  f169 := Tryd.func63.trans (congrArg some (by kernel_rfl))
  f170 := Tryd.func62.trans (congrArg some (by kernel_rfl))
  f206 := Tryd.func76.trans (congrArg some (by kernel_rfl))
  f212 := Tryd.func58.trans (congrArg some (by kernel_rfl))
  f240 := Tryd.func77.trans (congrArg some (by kernel_rfl))
  f241 := Tryd.func78.trans (congrArg some (by kernel_rfl))
  f263 := Tryd.func74.trans (congrArg some (by kernel_rfl))
  f264 := Tryd.func75.trans (congrArg some (by kernel_rfl))
  f276 := Tryd.func88.trans (congrArg some (by kernel_rfl))
  f277 := Tryd.func89.trans (congrArg some (by kernel_rfl))
  t0 := Tryd.underlying0
  a0 := Tryd.isAgg0
  z0 := Tryd.sizeOf0
  v0 := Tryd.zeroValue0
  t3 := Tryd.underlying3
  a3 := Tryd.isAgg3
  z3 := Tryd.sizeOf3
  v3 := Tryd.zeroValue3
  t4 := Tryd.underlying4
  a4 := Tryd.isAgg4
  z4 := Tryd.sizeOf4
  v4 := Tryd.zeroValue4
  t5 := Tryd.underlying5
  a5 := Tryd.isAgg5
  z5 := Tryd.sizeOf5
  v5 := Tryd.zeroValue5
  t9 := Tryd.underlying9
  a9 := Tryd.isAgg9
  z9 := Tryd.sizeOf9
  v9 := Tryd.zeroValue9
  t20 := Tryd.underlying20
  a20 := Tryd.isAgg20
  z20 := Tryd.sizeOf20
  v20 := Tryd.zeroValue20
  t37 := Tryd.underlying84
  a37 := Tryd.isAgg84
  z37 := Tryd.sizeOf84
  v37 := Tryd.zeroValue84
  t46 := Tryd.underlying79
  a46 := Tryd.isAgg79
  z46 := Tryd.sizeOf79
  v46 := Tryd.zeroValue79
  t51 := Tryd.underlying101
  a51 := Tryd.isAgg101
  z51 := Tryd.sizeOf101
  v51 := Tryd.zeroValue101
  t53 := Tryd.underlying104
  a53 := Tryd.isAgg104
  z53 := Tryd.sizeOf104
  v53 := Tryd.zeroValue104
  t70 := Tryd.underlying83
  a70 := Tryd.isAgg83
  z70 := Tryd.sizeOf83
  v70 := Tryd.zeroValue83
  t72 := Tryd.underlying86
  a72 := Tryd.isAgg86
  z72 := Tryd.sizeOf86
  v72 := Tryd.zeroValue86
  t75 := Tryd.underlying89
  a75 := Tryd.isAgg89
  z75 := Tryd.sizeOf89
  v75 := Tryd.zeroValue89
  t76 := Tryd.underlying90
  a76 := Tryd.isAgg90
  z76 := Tryd.sizeOf90
  v76 := Tryd.zeroValue90
  t109 := Tryd.underlying80
  a109 := Tryd.isAgg80
  z109 := Tryd.sizeOf80
  v109 := Tryd.zeroValue80
  t127 := Tryd.underlying107
  a127 := Tryd.isAgg107
  z127 := Tryd.sizeOf107
  v127 := Tryd.zeroValue107
  t146 := Tryd.underlying102
  a146 := Tryd.isAgg102
  z146 := Tryd.sizeOf102
  v146 := Tryd.zeroValue102
  t148 := Tryd.underlying105
  a148 := Tryd.isAgg105
  z148 := Tryd.sizeOf105
  v148 := Tryd.zeroValue105
  t164 := Tryd.underlying127
  a164 := Tryd.isAgg127
  z164 := Tryd.sizeOf127
  v164 := Tryd.zeroValue127 }
theorem Tryd.Builder_Extra_105 : Builder.Extra Tryd.prog Tryd.lays105_ren := {
  sizeBuilder := by kernel_rfl
  liesBuilder := by kernel_rfl
  t5 := Tryd.underlying5
  a5 := Tryd.isAgg5
  z5 := Tryd.sizeOf5
  v5 := Tryd.zeroValue5
  infoByte := by kernel_rfl
  cellsByte := by kernel_rfl
  sizeByte := by kernel_rfl
  neB5 := by decide }
/-- **strings.Repeat: count ≥ 0, the result within one allocation: count copies of s.** (LAID: no walk: one application.) -/
theorem Tryd.strings_Repeat (s : ByteArray) (c : Nat) (w : World) (hc : c ≤ 9223372036854775807) (hlen : s.size * c ≤ 140737488355328) :
    Calls Tryd.prog 36 #[.string s, .int .i64 c] w fun e w' => e = .returned (.string ⟨(Lib.repeatL s.data.toList c).toArray⟩) ∧ Below w.heap.size w w' := Any.strings_Repeat Tryd.lays105 Tryd.Builder_Extra_105 s c w hc hlen
end Go.Proofs.YtiihgpgpbgafiaaDoor

/- Representations of flows, plain; strings.Repeat. -/
namespace Go.Proofs.YtiihgpgpbgafiaaDoor
open Go.RowKit
attribute [local go_sem ↓] Go.wp_at_zero Go.wp_at_succ

/-- Some L and some R. -/
def bendS (l r : Nat) : ByteArray := ⟨(List.replicate l (76 : UInt8) ++ List.replicate r (82 : UInt8)).toArray⟩
def ofl (f : List Int) (d : Nat) : Int := ge f (2 * d + 1)
def ofr (f : List Int) (d : Nat) : Int := ge f (2 * (oth d).toNat + 1)
def shpAng (f : List Int) (k : Nat) : List Int := tab k fun d => 1 + ge f (2 * d)
def shpBen (f : List Int) (k : Nat) : List ByteArray := (List.range k).map fun d => bendS (ofl f d).toNat (ofr f d).toNat
theorem shpBen_succ (f : List Int) (k : Nat) : shpBen f (k + 1) = shpBen f k ++ [bendS (ofl f k).toNat (ofr f k).toNat] := by unfold shpBen; rw [List.range_succ, List.map_append]; rfl
theorem shpBen_len (f : List Int) (k : Nat) : (shpBen f k).length = k := by simp [shpBen]
theorem strVs_app (a b : List ByteArray) : strVs (a ++ b) = strVs a ++ strVs b := by simp [strVs]
open Classical in
noncomputable def shpE (N : Int) (E : List (Int × Int)) (A : List (List Int)) (o : Int) (f : List Int) : Int :=
  if netE N E A o ≠ 0 then netE N E A o else if Fl.chkS (netS N E A o) (netA N E A o) f ≠ 0 then 1 else if ∃ d, d < 2 * E.length ∧ 64 < ofl f d + ofr f d then 1 else 0
def shp0 : Value := .agg #[.int .i64 0, .slice none 0 0, .slice none 0 0, .slice none 0 0, .slice none 0 0, .int .i64 0]
/-- The bounds of a flow of the network. -/
theorem flow_bd {N : Int} {E : List (Int × Int)} {A : List (List Int)} {o : Int} {f : List Int} (h : netE N E A o = 0) (hc : Fl.chkS (netS N E A o) (netA N E A o) f = 0) (hE : 0 < E.length) :
    f.length = 4 * E.length ∧ ∀ d, d < 2 * E.length → (0 ≤ ge f (2 * d) ∧ ge f (2 * d) ≤ 3) ∧ (0 ≤ ge f (2 * d + 1) ∧ ge f (2 * d + 1) ≤ 64) := by
  have hok := net_ok h
  have hA := (netS_ok hok hE).2
  have hf : Fl.fitsS (netS N E A o) (netA N E A o) f = 0 := by
    unfold Fl.chkS at hc
    split at hc
    · assumption
    · assumption
  have hft : Fl.Fit (netA N E A o) f := by
    unfold Fl.fitsS at hf
    split at hf
    · omega
    · split at hf
      · assumption
      · omega
  rw [hA] at hft
  have hl := hft.l
  rw [arcK_len] at hl
  refine ⟨by omega, fun d hd => ?_⟩
  obtain ⟨e1, e2⟩ := aK_get (n := A.length) (F := facesO N E A) (E := E) hd
  have b1 := hft.b (2 * d) (by rw [arcK_len]; omega)
  have b2 := hft.b (2 * d + 1) (by rw [arcK_len]; omega)
  unfold Fl.cap at b1 b2
  rw [e1] at b1
  rw [e2] at b2
  exact ⟨b1, b2⟩
theorem rep_list (c : UInt8) : ∀ n, Lib.repeatL [c] n = List.replicate n c
  | 0 => rfl
  | n + 1 => by rw [Lib.repeatL, rep_list c n]; rfl
theorem repeat_p (c : UInt8) (n : Nat) (w : World) (hn : n ≤ 1000) : Calls Tryd.prog 36 #[.string ⟨#[c]⟩, .int .i64 n] w fun e w' => e = .returned (.string (lets c n)) ∧ Grew w w' := by
  have h := Tryd.strings_Repeat ⟨#[c]⟩ n w (by omega) (by show 1 * n ≤ _; omega)
  refine h.mono fun e w' ⟨h1, h2⟩ => ⟨?_, .of_below h2⟩
  rw [h1]
  unfold lets
  rw [← rep_list]
theorem lets_join (l r : Nat) (hl : l ≤ 1000) (hr : r ≤ 1000) {P : Program} (w : World) : (Op.stringOp .add (lets 76 l) (lets 82 r)).run P w = .ok (.string (bendS l r)) w := by
  have h := run_string_add_lists (P := P) (w := w) (List.replicate l 76) (List.replicate r 82) (by simp; omega) (by simp; omega)
  unfold lets bendS
  exact h
/-- The boxes of Shape. -/
abbrev spB (h : Nat) (N : Int) (sE sA : Value) : List Row := [bx h 25 3 [.int .i64 N, sE, sA], bx (h + 1) 39 6 [.int .i64 0, .slice none 0 0, .slice none 0 0, .slice none 0 0, .slice none 0 0, .int .i64 0]]
theorem spB_start (w : World) (N : Int) (sE sA : Value) : Owns ((w.alloc (.cells #[.int .i64 N, sE, sA] 25)).alloc (.cells #[.int .i64 0, .slice none 0 0, .slice none 0 0, .slice none 0 0, .slice none 0 0, .int .i64 0] 39)) w.heap.size (spB w.heap.size N sE sA) := by
  have h1 := (Owns.nil w w.heap.size).made (Nat.le_refl _) #[.int .i64 N, sE, sA] 25 3 1 w.heap.size rfl (by decide) rfl
  have h2 := h1.made (by first | rfl | omega | (simp <;> omega)) #[.int .i64 0, .slice none 0 0, .slice none 0 0, .slice none 0 0, .slice none 0 0, .int .i64 0] 39 6 1 (w.heap.size + 1) rfl (by decide) (by simp)
  exact h2.perm (List.Perm.swap _ _ _)
/-- Six stores into a box. -/
theorem own_put6 {w0 w : World} {B : Nat} {rs : List Row} (h : Owns w B rs) (hB : w0.heap.size ≤ B) (hg : Grew w0 w) {k g : Nat} {T : TypeId} {a0 a1 a2 a3 a4 a5 : Value} (hk : rs[k]? = some (bx g T 6 [a0, a1, a2, a3, a4, a5])) (v0 v1 v2 v3 v4 v5 : Value) :
    Owns ((((((w.setCell ⟨g, 0, none⟩ v0).setCell ⟨g, 1, none⟩ v1).setCell ⟨g, 2, none⟩ v2).setCell ⟨g, 3, none⟩ v3).setCell ⟨g, 4, none⟩ v4).setCell ⟨g, 5, none⟩ v5) B (rs.set k (bx g T 6 [v0, v1, v2, v3, v4, v5])) ∧
    Grew w0 ((((((w.setCell ⟨g, 0, none⟩ v0).setCell ⟨g, 1, none⟩ v1).setCell ⟨g, 2, none⟩ v2).setCell ⟨g, 3, none⟩ v3).setCell ⟨g, 4, none⟩ v4).setCell ⟨g, 5, none⟩ v5) := by
  have hkl := (List.getElem?_eq_some_iff.1 hk).1
  have st : ∀ {W : World} {vs : List Value} (i : Nat) (v : Value), Owns W B (rs.set k (bx g T 6 vs)) → Grew w0 W → Owns (W.setCell ⟨g, i, none⟩ v) B (rs.set k (bx g T 6 (vs.set i v))) ∧ Grew w0 (W.setCell ⟨g, i, none⟩ v) := by
    intro W vs i v hO hG
    have hk' : (rs.set k (bx g T 6 vs))[k]? = some (bx g T 6 vs) := List.getElem?_set_self hkl
    have h1 := hO.set hk' i v
    rw [List.set_set] at h1
    exact ⟨h1, Owns.setGrew hO hB hG hk' i v⟩
  have h0 : Owns w B (rs.set k (bx g T 6 [a0, a1, a2, a3, a4, a5])) := by
    have e : rs.set k (bx g T 6 [a0, a1, a2, a3, a4, a5]) = rs := by
      obtain ⟨h3, h4⟩ := List.getElem?_eq_some_iff.1 hk
      rw [← h4]
      exact List.set_getElem_self h3
    rw [e]; exact h
  obtain ⟨h1, g1⟩ := st 0 v0 h0 hg
  obtain ⟨h2, g2⟩ := st 1 v1 h1 g1
  obtain ⟨h3, g3⟩ := st 2 v2 h2 g2
  obtain ⟨h4, g4⟩ := st 3 v3 h3 g3
  obtain ⟨h5, g5⟩ := st 4 v4 h4 g4
  obtain ⟨h6, g6⟩ := st 5 v5 h5 g5
  exact ⟨h6, g6⟩
theorem shpAng_bd {f : List Int} {M : Nat} (h : ∀ d, d < M → 0 ≤ ge f (2 * d) ∧ ge f (2 * d) ≤ 3) : ∀ x ∈ shpAng f M, -9223372036854775808 ≤ x ∧ x ≤ 9223372036854775807 := by
  intro x hx
  unfold shpAng tab at hx
  obtain ⟨d, hd, rfl⟩ := List.mem_map.1 hx
  have := h d (List.mem_range.1 hd)
  omega
end Go.Proofs.YtiihgpgpbgafiaaDoor

/- Shape of the program. -/
namespace Go.Proofs.YtiihgpgpbgafiaaDoor
open Go.RowKit
attribute [local go_sem ↓] Go.wp_at_zero Go.wp_at_succ

/-- What Shape of the program returns, with its memory. -/
abbrev shR (pE pA pG pB : Option Addr) (cE cA cG cB : Nat) (E : List (Int × Int)) (A : List (List Int)) (f : List Int) (vals : List Value) : List Row :=
  lR (.slice pG (2 * E.length) cG) (2 * E.length) (shpAng f (2 * E.length)) :: ⟨.slice pB (2 * E.length) cB, 9, 1, 2 * E.length, strVs (shpBen f (2 * E.length))⟩ :: cpRows pE pA cE cA E A vals
def ShpPostO (N : Int) (E : List (Int × Int)) (A : List (List Int)) (o : Int) (f : List Int) (er : Int) (w : World) (e : Ending) (w' : World) : Prop :=
  Grew w w' ∧ ((er ≠ 0 ∧ e = .returned (.tuple #[shp0, .int .i64 er])) ∨ (er = 0 ∧ ∃ pE cE pA cA pG cG pB cB vals, e = .returned (.tuple #[.agg #[.int .i64 N, .slice pE E.length cE, .slice pA A.length cA, .slice pG (2 * E.length) cG, .slice pB (2 * E.length) cB, .int .i64 o], .int .i64 0]) ∧
    vals.length = A.length ∧ (∀ x ∈ shpAng f (2 * E.length), -9223372036854775808 ≤ x ∧ x ≤ 9223372036854775807) ∧ Owns w' w.heap.size (shR pE pA pG pB cE cA cG cB E A f vals)))
theorem shp_read {w : World} {B : Nat} {pE pA pG pB : Option Addr} {cE cA cG cB : Nat} {E : List (Int × Int)} {A : List (List Int)} {f : List Int} {vals : List Value} {rs : List Row} (hO : Owns w B (shR pE pA pG pB cE cA cG cB E A f vals ++ rs)) (hv : vals.length = A.length) (hE : E.length ≤ 1000) (hb : ∀ l ∈ A, ∀ x ∈ l, -9223372036854775808 ≤ x ∧ x ≤ 9223372036854775807)
    (hbd : ∀ x ∈ shpAng f (2 * E.length), -9223372036854775808 ≤ x ∧ x ≤ 9223372036854775807) : Prs w pE E ∧ Mat w pA A ∧ Ints w pG (shpAng f (2 * E.length)) ∧ Strs w pB (shpBen f (2 * E.length)) := by
  have h2 : Owns w B (cpRows pE pA cE cA E A vals ++ rs) := Owns.tail (Owns.tail hO)
  obtain ⟨h3, h4⟩ := copy_read h2 hv (by omega) hb
  obtain ⟨qb, cb, eb, hSt⟩ := own_strs (k := 1) hO rfl (shpBen_len _ _) (by omega)
  simp only [Value.slice.injEq, true_and] at eb
  obtain ⟨rfl, rfl⟩ := eb
  exact ⟨h3, h4, own_intsG (k := 0) hO rfl (tab_length _ _) (by omega) hbd, hSt⟩
set_option maxRecDepth 8000 in
set_option maxHeartbeats 16000000 in
theorem shape_o (N : Int) (pE pA pF : Option Addr) (nE nA cE cA nF cF : Nat) (E : List (Int × Int)) (A : List (List Int)) (o : Int) (f : List Int) (w : World) (hR : RotAt w pE pA E A) (hL : Lim w) (hF : Ints w pF f) (hnE : E.length = nE) (hnA : A.length = nA) (hnF : f.length = nF) (hE3 : E.length ≤ 30) (hA3 : A.length ≤ 30) :
    Calls Tryd.prog 13 #[.agg #[.int .i64 N, .slice pE nE cE, .slice pA nA cA], .int .i64 o, .slice pF nF cF] w (ShpPostO N E A o f (shpE N E A o f) w) := by
  subst hnE hnA hnF
  have HR := Lib.hid hR
  have HF := Lib.hid hF
  have HL := Lib.hid hL
  obtain ⟨er, her⟩ : ∃ er, netE N E A o = er := ⟨_, rfl⟩
  obtain ⟨s, hs⟩ : ∃ s, netS N E A o = s := ⟨_, rfl⟩
  obtain ⟨a, ha⟩ : ∃ a, netA N E A o = a := ⟨_, rfl⟩
  have Hn : Hid (∀ W1, Grew w W1 → Calls Tryd.prog 10 #[.agg #[.int .i64 N, .slice pE E.length cE, .slice pA A.length cA], .int .i64 o] W1 (NetPost s a er W1)) := Lib.hid (fun W1 h => by rw [← her, ← hs, ← ha]; exact net_p _ _ _ _ _ _ _ _ _ _ _ (HR.out.grew h) (HL.out.grew h) rfl rfl hE3 hA3)
  have Hb := Lib.hid (spB_start w N (.slice pE E.length cE) (.slice pA A.length cA))
  obtain ⟨z, hz⟩ : ∃ z, Fl.chkS s a f = z := ⟨_, rfl⟩
  have HsE : Hid (shpE N E A o f = if er ≠ 0 then er else if z ≠ 0 then 1 else if ∃ d, d < 2 * E.length ∧ 64 < ofl f d + ofr f d then 1 else 0) := Lib.hid (by unfold shpE; rw [her, hs, ha, hz])
  have Hz := Lib.hid hz
  have Hfb : Hid (er = 0 → z = 0 → 0 < E.length → f.length = 4 * E.length ∧ ∀ d, d < 2 * E.length → (0 ≤ ge f (2 * d) ∧ ge f (2 * d) ≤ 3) ∧ (0 ≤ ge f (2 * d + 1) ∧ ge f (2 * d + 1) ≤ 64)) := Lib.hid (fun h1 h2 h3 => flow_bd (h1 ▸ her) (by rw [hs, ha, hz]; exact h2) h3)
  clear hR hL hF hs ha hz her
  by_cases her0 : er ≠ 0
  · have heb : (er != 0) = true := by simpa using her0
    have hE : shpE N E A o f = er := by rw [HsE.out, if_pos her0]
    have HE := Lib.hid hE
    have Hne := Lib.hid her0
    clear hE her0
    go_enter Tryd.func13, Tryd.ntmps13
    go_wp2_with (go_at_call 10; apply Calls.mono; (with_reducible exact Hn.out _ (by (repeat (first | exact gR _ | refine gO ?_ _ | refine gA ?_ _ | refine gD ?_ | refine gN ?_ _)))); rintro e w2 ⟨hg2, pS, cS, qA, cQ, rfl, hS, hA2, hnil⟩; obtain ⟨x2, rfl⟩ := hg2)
    refine bodyPost_ret (v := .tuple #[shp0, .int .i64 er]) (by unfold shp0; simp [results, Tryd.results13, go_sem, ↓IntWalk.iteOmega]) rfl ?_
    rw [HE.out]
    exact ⟨by (repeat (first | exact gR _ | refine gO ?_ _ | refine gA ?_ _ | refine gD ?_ | refine gN ?_ _)), Or.inl ⟨Hne.out, rfl⟩⟩
  have her1 : er = 0 := Classical.byContradiction her0
  subst her1
  by_cases hz0 : z ≠ 0
  · have hzb : (z != 0) = true := by simpa using hz0
    have hE : shpE N E A o f = 1 := by rw [HsE.out, if_neg (by simp), if_pos hz0]
    have HE := Lib.hid hE
    clear hE hz0 her0
    go_enter Tryd.func13, Tryd.ntmps13
    go_wp2_with (first
      | (go_at_call 10; apply Calls.mono; (with_reducible exact Hn.out _ (by (repeat (first | exact gR _ | refine gO ?_ _ | refine gA ?_ _ | refine gD ?_ | refine gN ?_ _)))); rintro e w2 ⟨hg2, pS, cS, qA, cQ, rfl, hS, hA2, hnil⟩; have Hck := Lib.hid (fun (W1 : World) (h : Grew w2 W1) => Hz.out ▸ Fl.check_p pS qA pF s.length cS a.length cQ f.length cF s a f W1 (hS.grew h) (hA2.grew h) ((HF.out.grew (show Grew w _ by (repeat (first | exact gR _ | refine gO ?_ _ | refine gA ?_ _ | refine gD ?_ | refine gN ?_ _)))).grew (hg2.trans h)) rfl rfl rfl hnil); clear hS hA2 hnil; obtain ⟨x2, rfl⟩ := hg2)
      | (go_at_call 34; apply Calls.mono; (with_reducible exact Hck.out _ (by (repeat (first | exact gR _ | refine gO ?_ _ | refine gA ?_ _ | refine gD ?_ | refine gN ?_ _)))); rintro e w3 ⟨rfl, x3, rfl⟩))
    refine bodyPost_ret (v := .tuple #[shp0, .int .i64 1]) (by unfold shp0; simp [results, Tryd.results13, go_sem, ↓IntWalk.iteOmega]) rfl ?_
    rw [HE.out]
    exact ⟨by (repeat (first | exact gR _ | refine gO ?_ _ | refine gA ?_ _ | refine gD ?_ | refine gN ?_ _)), Or.inl ⟨by decide, rfl⟩⟩
  have hz1 : z = 0 := Classical.byContradiction hz0
  subst hz1
  have hfb := Lib.hid (Hfb.out rfl rfl)
  clear Hfb
  have HsE : Hid (shpE N E A o f = if ∃ d, d < 2 * E.length ∧ 64 < ofl f d + ofr f d then 1 else 0) := Lib.hid (by rw [HsE.out, if_neg (by simp), if_neg (by simp)])
  clear her0 hz0
  go_enter Tryd.func13, Tryd.ntmps13
  go_upto_region 6 with (first
    | (go_at_call 10; apply Calls.mono; (with_reducible exact Hn.out _ (by (repeat (first | exact gR _ | refine gO ?_ _ | refine gA ?_ _ | refine gD ?_ | refine gN ?_ _)))); rintro e w2 ⟨hg2, pS, cS, qA, cQ, rfl, hS, hA2, hnil⟩; have Hck := Lib.hid (fun (W1 : World) (h : Grew w2 W1) => Hz.out ▸ Fl.check_p pS qA pF s.length cS a.length cQ f.length cF s a f W1 (hS.grew h) (hA2.grew h) ((HF.out.grew (show Grew w _ by (repeat (first | exact gR _ | refine gO ?_ _ | refine gA ?_ _ | refine gD ?_ | refine gN ?_ _)))).grew (hg2.trans h)) rfl rfl rfl hnil); have Hw2 := Lib.hid (Grew.trans (show Grew w _ by (repeat (first | exact gR _ | refine gO ?_ _ | refine gA ?_ _ | refine gD ?_ | refine gN ?_ _))) hg2); have HB2 := Lib.hid (Hb.out.grew (Grew.trans (by (repeat (first | exact gR _ | refine gO ?_ _ | refine gA ?_ _ | refine gD ?_ | refine gN ?_ _))) hg2)); clear hS hA2 hnil hg2)
    | (go_at_call 34; apply Calls.mono; (with_reducible exact Hck.out _ (by (repeat (first | exact gR _ | refine gO ?_ _ | refine gA ?_ _ | refine gD ?_ | refine gN ?_ _)))); rintro e w3 ⟨rfl, hg3⟩; have Hw3 := Lib.hid (Hw2.out.trans (Grew.trans (by (repeat (first | exact gR _ | refine gO ?_ _ | refine gA ?_ _ | refine gD ?_ | refine gN ?_ _))) hg3)); have HB3 := Lib.hid (HB2.out.grew (Grew.trans (by (repeat (first | exact gR _ | refine gO ?_ _ | refine gA ?_ _ | refine gD ?_ | refine gN ?_ _))) hg3)); clear hg3; have b0 := own_bx HB3.out (j := 0) rfl; have q0 := b0.2.2.2 0 _ rfl; have q1 := b0.2.2.2 1 _ rfl; have q2 := b0.2.2.2 2 _ rfl; clear b0))
  go_upto_region 7 with (go_at_call 35; apply Calls.mono; (with_reducible exact copied_p _ _ _ _ _ _ _ _ _ _ (HR.out.hE.grew (Hw3.out.trans (by (repeat (first | exact gR _ | refine gO ?_ _ | refine gA ?_ _ | refine gD ?_ | refine gN ?_ _))))) (HR.out.hA.grew (Hw3.out.trans (by (repeat (first | exact gR _ | refine gO ?_ _ | refine gA ?_ _ | refine gD ?_ | refine gN ?_ _))))) HR.out.e1 HR.out.a1 HR.out.r1 rfl rfl); rintro e w4 ⟨hg4, pX, cX, pY, cY, vals, rfl, hvl, hC⟩; have Hvl := Lib.hid hvl; have Hw4 := Lib.hid (Hw3.out.trans (Grew.trans (by (repeat (first | exact gR _ | refine gO ?_ _ | refine gA ?_ _ | refine gD ?_ | refine gN ?_ _))) hg4)); have HB4 := Lib.hid (HB3.out.join hC (Grew.trans (by (repeat (first | exact gR _ | refine gO ?_ _ | refine gA ?_ _ | refine gD ?_ | refine gN ?_ _))) hg4) (by have := Hw3.out.below.size; omega)); clear hg4 hC hvl q0 q1 q2; have b0 := own_bx HB4.out (j := 0) rfl; have q0 := b0.2.2.2 0 _ rfl; have q1 := b0.2.2.2 1 _ rfl; have q2 := b0.2.2.2 2 _ rfl; clear b0)
  have HO6 : Hid (Owns (w4.alloc (.cells #[.int .i64 N, .slice pX E.length cX, .slice pY A.length cY, .slice none 0 0, .slice none 0 0, .int .i64 o] 39)) w4.heap.size [lR (.slice none 0 0) 0 (shpAng f 0), ⟨.slice none 0 0, 9, 1, 0, strVs (shpBen f 0)⟩, bx w4.heap.size 39 6 [.int .i64 N, .slice pX E.length cX, .slice pY A.length cY, .slice none 0 0, .slice none 0 0, .int .i64 o]]) :=
    Lib.hid ((((Owns.nil w4 w4.heap.size).made (Nat.le_refl _) #[.int .i64 N, .slice pX E.length cX, .slice pY A.length cY, .slice none 0 0, .slice none 0 0, .int .i64 o] 39 6 1 w4.heap.size rfl (by decide) rfl).none 9 1).none 3 1)
  have HG6 : Hid (Grew w4 (w4.alloc (.cells #[.int .i64 N, .slice pX E.length cX, .slice pY A.length cY, .slice none 0 0, .slice none 0 0, .int .i64 o] 39))) := Lib.hid (by (repeat (first | exact gR _ | refine gO ?_ _ | refine gA ?_ _ | refine gD ?_ | refine gN ?_ _)))
  have Q1 := Lib.hid q1
  obtain ⟨g9, hg9⟩ : ∃ g9, w4.heap.size = g9 := ⟨_, rfl⟩
  have Hgs : Hid (w4.heap.size ≤ g9) := Lib.hid (Nat.le_of_eq hg9)
  have hgs := Hgs.out
  obtain ⟨w6, hw6⟩ : ∃ w6, w4.alloc (.cells #[.int .i64 N, .slice pX E.length cX, .slice pY A.length cY, .slice none 0 0, .slice none 0 0, .int .i64 o] 39) = w6 := ⟨_, rfl⟩
  rw [hw6, hg9] at HO6
  rw [hw6] at HG6
  rw [hw6, hg9]
  clear hw6 hg9 q0 q1 q2
  have q1 := HG6.out.cellEq Q1.out
  go_wp2
  go_loopw [37] (fun kv wr => ∃ (d : Nat) (vG vB : Value), d ≤ 2 * E.length ∧ kv = .int .i64 d ∧ Grew w4 wr ∧ (∀ j, j < d → ofl f j + ofr f j ≤ 64) ∧ Owns wr g9 [lR vG d (shpAng f d), ⟨vB, 9, 1, d, strVs (shpBen f d)⟩, bx g9 39 6 [.int .i64 N, .slice pX E.length cX, .slice pY A.length cY, vG, vB, .int .i64 o]]) (fun kv _ => 2 * E.length - (intOf kv).toNat)
  case atStart => exact ⟨0, _, _, Nat.zero_le _, rfl, HG6.out.trans (by (repeat (first | exact gR _ | refine gO ?_ _ | refine gA ?_ _ | refine gD ?_ | refine gN ?_ _))), fun j hj => by omega, HO6.out.grew (by (repeat (first | exact gR _ | refine gO ?_ _ | refine gA ?_ _ | refine gD ?_ | refine gN ?_ _)))⟩
  case round =>
    clear HO6 HG6 q1
    obtain ⟨d, vG, vB, hd, rfl, hgr, hall, hOd⟩ := hrel
    obtain ⟨pG, cG, rfl⟩ := own_form hOd (k := 0) rfl
    obtain ⟨pB, cB, rfl⟩ := own_form hOd (k := 1) rfl
    have Hgr := Lib.hid hgr
    have HOd := Lib.hid hOd
    have Hall := Lib.hid hall
    have hszr := hgr.below.size
    have q1 := hgr.cellEq Q1.out
    have b1 := own_bx hOd (j := 2) rfl
    have g91 := b1.2.1
    have y3 := b1.2.2.2 3 _ rfl
    have y4 := b1.2.2.2 4 _ rfl
    have u3 := b1.2.2.1 3
    have u4 := b1.2.2.1 4
    have HBr := Lib.hid (HB4.out.grew hgr)
    have b4 := own_bx HBr.out (j := 1) rfl
    have hrl := b4.2.1
    have r0 := b4.2.2.2 0 _ rfl
    have r1 := b4.2.2.2 1 _ rfl
    have r2 := b4.2.2.2 2 _ rfl
    have r3 := b4.2.2.2 3 _ rfl
    have r4 := b4.2.2.2 4 _ rfl
    have r5 := b4.2.2.2 5 _ rfl
    have t0 := b4.2.2.1 0
    have t1 := b4.2.2.1 1
    have t2 := b4.2.2.1 2
    have t3 := b4.2.2.1 3
    have t4 := b4.2.2.1 4
    have t5 := b4.2.2.1 5
    clear hgr hOd hall b1 b4
    by_cases hlt : d < 2 * E.length
    · obtain ⟨hfl, hfb2⟩ := hfb.out (by omega)
      obtain ⟨dx, hdx⟩ : ∃ dx : Nat, oth (d : Int) = (dx : Int) := ⟨(oth d).toNat, by have := oth_bd (M := E.length) (d := (d : Int)) (by omega) (by omega); omega⟩
      have hx2l : dx < 2 * E.length := by have := oth_bd (M := E.length) (d := (d : Int)) (by omega) (by omega); omega
      have hx2 : bits BinOp.xor IntKind.i64 (d : Int) 1 = (dx : Int) := by rw [← hdx]; exact xor_small d (by omega)
      obtain ⟨bF, oF, rfl, lF, cF'⟩ := HF.out.cells (by omega)
      have x0 := cF' wr (Hw4.out.trans Hgr.out) (2 * d) (by omega)
      have x1 := cF' wr (Hw4.out.trans Hgr.out) (2 * d + 1) (by omega)
      have x2 := cF' wr (Hw4.out.trans Hgr.out) (2 * dx + 1) (by omega)
      have x04 := cF' w4 Hw4.out (2 * d) (by omega)
      obtain ⟨b0, b1⟩ := hfb2 d hlt
      obtain ⟨_, b2⟩ := hfb2 dx hx2l
      obtain ⟨an, han⟩ : ∃ an : Nat, ge f (2 * d) = (an : Int) := ⟨(ge f (2 * d)).toNat, by omega⟩
      obtain ⟨l, hl⟩ : ∃ l : Nat, ge f (2 * d + 1) = (l : Int) := ⟨(ge f (2 * d + 1)).toNat, by omega⟩
      obtain ⟨r, hr⟩ : ∃ r : Nat, ge f (2 * dx + 1) = (r : Int) := ⟨(ge f (2 * dx + 1)).toNat, by omega⟩
      have hol : ofl f d = (l : Int) := hl
      have hor : ofr f d = (r : Int) := by unfold ofr; rw [hdx]; exact hr
      rw [han] at x0 b0 x04
      have HX0 := Lib.hid x04
      clear x04
      rw [hl] at x1 b1
      rw [hr] at x2 b2
      have hb64 : (64 : Int) < (l : Int) + (r : Int) ↔ 64 < l + r := by constructor <;> intro h <;> omega
      have hi1 : (2 : Int) * (d : Int) + 1 < (f.length : Int) := by omega
      have hi2 : (2 : Int) * (dx : Int) + 1 < (f.length : Int) := by omega
      have hi0 : (2 : Int) * (d : Int) < (f.length : Int) := by omega
      have hn1 : ((2 : Int) * (d : Int) + 1).toNat = 2 * d + 1 := by omega
      have hn2 : ((2 : Int) * (dx : Int) + 1).toNat = 2 * dx + 1 := by omega
      have hn0 : ((2 : Int) * (d : Int)).toNat = 2 * d := by omega
      have hdi2 : (d : Int) < 2 * (E.length : Int) := by omega
      have hlF : bF < wr.heap.size := by have := Hw4.out.below.size; omega
      have hA1 : Hid (shpAng f (d + 1) = shpAng f d ++ [1 + (an : Int)]) := Lib.hid (by unfold shpAng; rw [tab_succ, han])
      have hB1 : Hid (strVs (shpBen f (d + 1)) = strVs (shpBen f d) ++ [.string (bendS l r)]) := Lib.hid (by rw [shpBen_succ, strVs_app, hol, hor]; rfl)
      have Hlr : Hid (ofl f d + ofr f d = (l : Int) + r) := Lib.hid (by rw [hol, hor])
      clear cF' hfb2 han hl hr hdx hol hor hfl
      go_upto_region 10 with fail
      refine wp_region_over (by kernel_rfl) (by kernel_rfl) ?_; (repeat (go_big_quiet_step (fail))); refine wpQuiet_nil ?_; intro w7 hW; replace hW : Grew _ w7 := hW
      have hlF := Nat.lt_of_lt_of_le hlF hW.below.size
      have x0 := hW.cellEq x0
      have HBr := Lib.hid (HBr.out.grew hW)
      have HOd := Lib.hid (HOd.out.grew hW)
      have Hgr := Lib.hid (Hgr.out.trans hW)
      clear hn1 hn2 hi1 hi2 hW hrl r0 r1 r2 r3 r4 r5 t0 t1 t2 t3 t4 t5 y3 y4 u3 u4 g91 q1 x1 x2 hszr
      have hszr := Hgr.out.below.size
      have q1 := Hgr.out.cellEq Q1.out
      have b1 := own_bx HOd.out (j := 2) rfl
      have g91 := b1.2.1
      have y3 := b1.2.2.2 3 _ rfl
      have y4 := b1.2.2.2 4 _ rfl
      have u3 := b1.2.2.1 3
      have u4 := b1.2.2.1 4
      clear b1
      by_cases h64 : 64 < l + r
      · have hsE : shpE N E A o f = 1 := by rw [HsE.out, if_pos ⟨d, hlt, by rw [Hlr.out]; exact hb64.2 h64⟩]
        have hgt := hb64.2 h64
        have HE := Lib.hid hsE
        clear hsE
        have b4 := own_bx HBr.out (j := 1) rfl
        have hrl := b4.2.1
        have r0 := b4.2.2.2 0 _ rfl
        have r1 := b4.2.2.2 1 _ rfl
        have r2 := b4.2.2.2 2 _ rfl
        have r3 := b4.2.2.2 3 _ rfl
        have r4 := b4.2.2.2 4 _ rfl
        have r5 := b4.2.2.2 5 _ rfl
        have t0 := b4.2.2.1 0
        have t1 := b4.2.2.1 1
        have t2 := b4.2.2.1 2
        have t3 := b4.2.2.1 3
        have t4 := b4.2.2.1 4
        have t5 := b4.2.2.1 5
        have Hput := Lib.hid (own_put6 HBr.out (Nat.le_refl _) (Hw4.out.trans Hgr.out) (k := 1) rfl (.int .i64 0) (.slice none 0 0) (.slice none 0 0) (.slice none 0 0) (.slice none 0 0) (.int .i64 0)).2
        clear b4
        go_wp2
        refine bodyPost_ret (v := .tuple #[shp0, .int .i64 1]) (by unfold shp0; simp [results, Tryd.results13, go_sem, ↓IntWalk.iteOmega, r0, r1, r2, r3, r4, r5]) rfl ?_
        rw [HE.out]
        exact ⟨Hput.out.trans (by (repeat (first | exact gR _ | refine gO ?_ _ | refine gA ?_ _ | refine gD ?_ | refine gN ?_ _))), Or.inl ⟨by decide, rfl⟩⟩
      · have hgt : ¬ (64 : Int) < (l : Int) + (r : Int) := fun h => h64 (hb64.1 h)
        go_upto_region 13 with fail
        have hw2 : IntKind.i64.wrap (2 * (d : Int)) = 2 * (d : Int) := IntWalk.i64_in _ ⟨by omega, by omega⟩
        have hi4 : (2 : Int) * (d : Int) < 4 * (E.length : Int) := by omega
        have hi5 : 0 ≤ (2 : Int) * (d : Int) := by omega
        have hw3 : IntKind.i64.wrap (1 + (an : Int)) = 1 + (an : Int) := IntWalk.i64_in _ ⟨by omega, by omega⟩
        refine wp_region_T (s := 11) (S := fun w' => w'.cell? ⟨g9, 3, none⟩ = some (.slice pG d cG) ∧ w'.cell? ⟨bF, oF + 2 * d, none⟩ = some (.int .i64 (an : Int))) (by kernel_rfl) (by (refine ⟨?_, ?_⟩ <;> (first | (go_simp; done) | (simp [go_sem, ↓IntWalk.iteOmega, *]; done)))) (fun hH => ?_)
        refine wpAnyT_takeL (i := 0) (v := ?_) rfl (by kernel_rfl) (by kernel_rfl) (by kernel_rfl) (by kernel_rfl) (fun _ _ _ h => h) (Or.inl ⟨by rfl, ?_⟩) (by assumption) ?_
        rotate_left
        · (intro w hSw; (try dsimp only at hSw); go_simp; (try with_reducible rfl))
        (try simp only [Act.put, List.setIfInBounds_toArray, List.set_cons_zero, List.set_cons_succ])
        refine wpAnyT_takeL (i := 1) (v := ?_) rfl (by kernel_rfl) (by kernel_rfl) (by kernel_rfl) (by kernel_rfl) (fun _ _ _ h => h) (Or.inl ⟨by rfl, ?_⟩) (by assumption) ?_
        rotate_left
        · (intro w hSw; (try dsimp only at hSw); go_simp; (try with_reducible rfl))
        (try simp only [Act.put, List.setIfInBounds_toArray, List.set_cons_zero, List.set_cons_succ])
        refine wpAnyT_takeL (i := 2) (v := ?_) rfl (by kernel_rfl) (by kernel_rfl) (by kernel_rfl) (by kernel_rfl) (fun _ _ _ h => h) (Or.inl ⟨by rfl, ?_⟩) (by assumption) ?_
        rotate_left
        · (intro w hSw; (try dsimp only at hSw); go_simp; (try with_reducible rfl))
        (try simp only [Act.put, List.setIfInBounds_toArray, List.set_cons_zero, List.set_cons_succ])
        refine wpAnyT_takeL (i := 3) (v := ?_) rfl (by kernel_rfl) (by kernel_rfl) (by kernel_rfl) (by kernel_rfl) (fun _ _ _ h => h) (Or.inl ⟨by rfl, ?_⟩) (by assumption) ?_
        rotate_left
        · (intro w hSw; (try dsimp only at hSw); go_simp; (try with_reducible rfl))
        (try simp only [Act.put, List.setIfInBounds_toArray, List.set_cons_zero, List.set_cons_succ])
        refine wpAnyT_takeL (i := 4) (v := ?_) rfl (by kernel_rfl) (by kernel_rfl) (by kernel_rfl) (by kernel_rfl) (fun _ _ _ h => h) (Or.inl ⟨by rfl, ?_⟩) (by assumption) ?_
        rotate_left
        · (intro w hSw; (try dsimp only at hSw); go_simp; (try with_reducible rfl))
        (try simp only [Act.put, List.setIfInBounds_toArray, List.set_cons_zero, List.set_cons_succ])
        refine wpAnyT_takeL (i := 5) (v := ?_) rfl (by kernel_rfl) (by kernel_rfl) (by kernel_rfl) (by kernel_rfl) (fun _ _ _ h => h) (Or.inl ⟨by rfl, ?_⟩) (by assumption) ?_
        rotate_left
        · (intro w hSw; (try dsimp only at hSw); go_simp; (try with_reducible rfl))
        (try simp only [Act.put, List.setIfInBounds_toArray, List.set_cons_zero, List.set_cons_succ])
        refine wpAnyT_takeL (i := 6) (v := ?_) rfl (by kernel_rfl) (by kernel_rfl) (by kernel_rfl) (by kernel_rfl) (fun _ _ _ h => h) (Or.inl ⟨by rfl, ?_⟩) (by assumption) ?_
        rotate_left
        · (intro w hSw; (try dsimp only at hSw); go_simp; (try with_reducible rfl))
        (try simp only [Act.put, List.setIfInBounds_toArray, List.set_cons_zero, List.set_cons_succ])
        refine wpAnyT_takeL (i := 7) (v := ?_) rfl (by kernel_rfl) (by kernel_rfl) (by kernel_rfl) (by kernel_rfl) (fun _ _ _ h => h) (Or.inl ⟨by rfl, ?_⟩) (by assumption) ?_
        rotate_left
        · (intro w hSw; (try dsimp only at hSw); go_simp; (try with_reducible rfl))
        (try simp only [Act.put, List.setIfInBounds_toArray, List.set_cons_zero, List.set_cons_succ])
        refine wpAnyT_all (rs := [8]) (by kernel_rfl) (by simp) (AllT.consL (i := 8) rfl (fun K hK => ?_) AllT.nil)
        go_simp
        refine hK.out _ _ ?_ (fun hH => ?_)
        · (first | (simp [go_sem, ↓IntWalk.iteOmega, *]; done) | go_keep)
        clear hK K
        (try simp only [Act.put, List.setIfInBounds_toArray, List.set_cons_zero, List.set_cons_succ])
        refine wpAnyT_all (rs := [9]) (by kernel_rfl) (by simp) (AllT.consL (i := 9) rfl (fun K hK => ?_) AllT.nil)
        refine step_append_owns rfl _ _ 28 (by rfl) 3 1 8 (.int .i64 0) Tryd.underlying28 Tryd.infoInt rfl (by decide) g9 _ 0 _ _ _ (HOd.out.grew (by (repeat (first | exact gR _ | refine gO ?_ _ | refine gA ?_ _ | refine gD ?_ | refine gN ?_ _)))) rfl (by rfl) _ 1 1 (by rfl) [.int .i64 (1 + (an : Int))] rfl (fun h => by cases h) (one_news _ (by (simp [go_sem, ↓IntWalk.iteOmega]))) (by simp [Value.oneCell']) (by simp only [maxLen]; omega) (by omega) (by first | rfl | omega | (simp <;> omega)) ?_; intro v1 w1 hO1 hg1 hb1 _; obtain ⟨p1, c1, rfl⟩ := own_form hO1 (k := 0) rfl; have b1 := own_bx hO1 (j := 2) rfl; have g91' := b1.2.1; have y3 := b1.2.2.2 3 _ rfl; have u3 := b1.2.2.1 3; have HO7 := Lib.hid hO1; have Hg7 := Lib.hid (Grew.grownBy (w0 := w4) (Hgr.out.trans (by (repeat (first | exact gR _ | refine gO ?_ _ | refine gA ?_ _ | refine gD ?_ | refine gN ?_ _)))) hg1 (fun q h => by have := hb1 q h; omega)); have x0 := Hg7.out.cellEq (show w4.cell? ⟨bF, oF + 2 * d, none⟩ = some (.int .i64 (an : Int)) from HX0.out); clear hO1 hg1 hb1 b1
        refine hK.out _ _ ?_ (fun hH => ?_)
        · (first | (simp [go_sem, ↓IntWalk.iteOmega, *]; done) | go_keep)
        clear hK K
        (try simp only [Act.put, List.setIfInBounds_toArray, List.set_cons_zero, List.set_cons_succ])
        clear hw2 hw3 hi4 hi5
        refine wpAnyT_takeL (i := 10) (v := ?_) rfl (by kernel_rfl) (by kernel_rfl) (by kernel_rfl) (by kernel_rfl) (fun _ _ _ h => h) (Or.inl ⟨by rfl, ?_⟩) (by assumption) ?_
        rotate_left
        · (intro w hSw; (try dsimp only at hSw); go_simp; (try with_reducible rfl))
        (try simp only [Act.put, List.setIfInBounds_toArray, List.set_cons_zero, List.set_cons_succ])
        refine wpAnyT_all (rs := [11]) (by kernel_rfl) (by simp) (AllT.lastL rfl (fun K hK => ?_))
        go_simp
        refine hK.out _ _ ?_
        clear hK K
        (try simp only [Act.put, List.setIfInBounds_toArray, List.set_cons_zero, List.set_cons_succ])
        refine wpAnyT_done (by kernel_rfl) ?_ _
        have HO8 := Lib.hid (HO7.out.set (k := 2) rfl 3 (.slice p1 (d + 1) c1))
        have Hg8 := Lib.hid (Owns.setGrew HO7.out Hgs.out Hg7.out (k := 2) rfl 3 (.slice p1 (d + 1) c1))
        obtain ⟨w8, hw8⟩ : ∃ w8, w1.setCell ⟨g9, 3, none⟩ (.slice p1 (d + 1) c1) = w8 := ⟨_, rfl⟩
        rw [hw8] at HO8 Hg8 ⊢
        have b1 := own_bx HO8.out (j := 2) rfl
        have y4 := b1.2.2.2 4 _ rfl
        have u4 := b1.2.2.1 4
        have g98 := b1.2.1
        clear hw8 b1
        go_upto_region 14 with fail
        refine wp_region_T (s := 10) (S := fun w' => w'.cell? ⟨g9, 4, none⟩ = some (.slice pB d cB)) (by kernel_rfl) (by simpa using y4) (fun hH => ?_)
        refine wpAnyT_takeL (i := 0) (v := ?_) rfl (by kernel_rfl) (by kernel_rfl) (by kernel_rfl) (by kernel_rfl) (fun _ _ _ h => h) (Or.inl ⟨by rfl, ?_⟩) (by assumption) ?_
        rotate_left
        · (intro w hSw; (try dsimp only at hSw); go_simp; (try with_reducible rfl))
        (try simp only [Act.put, List.setIfInBounds_toArray, List.set_cons_zero, List.set_cons_succ])
        refine wpAnyT_takeL (i := 1) (v := ?_) rfl (by kernel_rfl) (by kernel_rfl) (by kernel_rfl) (by kernel_rfl) (fun _ _ _ h => h) (Or.inl ⟨by rfl, ?_⟩) (by assumption) ?_
        rotate_left
        · (intro w hSw; (try dsimp only at hSw); go_simp; (try with_reducible rfl))
        (try simp only [Act.put, List.setIfInBounds_toArray, List.set_cons_zero, List.set_cons_succ])
        refine wpAnyT_takeL (i := 2) (v := ?_) rfl (by kernel_rfl) (by kernel_rfl) (by kernel_rfl) (by kernel_rfl) (fun _ _ _ h => h) (Or.inl ⟨by rfl, ?_⟩) (by assumption) ?_
        rotate_left
        · (intro w hSw; (try dsimp only at hSw); go_simp; (try with_reducible rfl))
        (try simp only [Act.put, List.setIfInBounds_toArray, List.set_cons_zero, List.set_cons_succ])
        refine wpAnyT_takeL (i := 4) (v := ?_) rfl (by kernel_rfl) (by kernel_rfl) (by kernel_rfl) (by kernel_rfl) (fun _ _ _ h => h) (Or.inl ⟨by rfl, ?_⟩) (by assumption) ?_
        rotate_left
        · (intro w hSw; (try dsimp only at hSw); go_simp; (try with_reducible rfl))
        (try simp only [Act.put, List.setIfInBounds_toArray, List.set_cons_zero, List.set_cons_succ])
        refine wpAnyT_all (rs := [3]) (by kernel_rfl) (by simp) (AllT.consL (i := 3) rfl (fun K hK => ?_) AllT.nil)
        go_simp; go_wp2_with (go_at_call 36; apply Calls.mono; (with_reducible exact repeat_p 76 l _ (by omega)); rintro e w3' ⟨rfl, x3, rfl⟩)
        refine hK.out _ _ ?_ (fun hH => ?_)
        · (first | (simp [go_sem, ↓IntWalk.iteOmega, *]; done) | go_keep)
        clear hK K
        (try simp only [Act.put, List.setIfInBounds_toArray, List.set_cons_zero, List.set_cons_succ])
        refine wpAnyT_all (rs := [5]) (by kernel_rfl) (by simp) (AllT.consL (i := 5) rfl (fun K hK => ?_) AllT.nil)
        go_simp; go_wp2_with (go_at_call 36; apply Calls.mono; (with_reducible exact repeat_p 82 r _ (by omega)); rintro e w4' ⟨rfl, x4, rfl⟩)
        refine hK.out _ _ ?_ (fun hH => ?_)
        · (first | (simp [go_sem, ↓IntWalk.iteOmega, *]; done) | go_keep)
        clear hK K
        (try simp only [Act.put, List.setIfInBounds_toArray, List.set_cons_zero, List.set_cons_succ])
        have hadd : ∀ W, (Op.stringOp .add (lets 76 l) (lets 82 r)).run Tryd.prog W = .ok (.string (bendS l r)) W := fun W => lets_join l r (by omega) (by omega) W
        refine wpAnyT_takeL (i := 6) (v := ?_) rfl (by kernel_rfl) (by kernel_rfl) (by kernel_rfl) (by kernel_rfl) (fun _ _ _ h => h) (Or.inl ⟨by rfl, ?_⟩) (by assumption) ?_
        rotate_left
        · (intro w hSw; (try dsimp only at hSw); go_simp; (try with_reducible rfl))
        (try simp only [Act.put, List.setIfInBounds_toArray, List.set_cons_zero, List.set_cons_succ])
        refine wpAnyT_all (rs := [7]) (by kernel_rfl) (by simp) (AllT.consL (i := 7) rfl (fun K hK => ?_) AllT.nil)
        go_simp
        refine hK.out _ _ ?_ (fun hH => ?_)
        · (first | (simp [go_sem, ↓IntWalk.iteOmega, *]; done) | go_keep)
        clear hK K
        (try simp only [Act.put, List.setIfInBounds_toArray, List.set_cons_zero, List.set_cons_succ])
        refine wpAnyT_all (rs := [8]) (by kernel_rfl) (by simp) (AllT.consL (i := 8) rfl (fun K hK => ?_) AllT.nil)
        refine step_append_owns rfl _ _ 37 (by rfl) 9 1 16 (.string ⟨#[]⟩) Tryd.underlying37 Tryd.infoStr rfl (by decide) g9 _ 1 _ _ _ (HO8.out.grew (by (repeat (first | exact gR _ | refine gO ?_ _ | refine gA ?_ _ | refine gD ?_ | refine gN ?_ _)))) rfl (by rfl) _ 1 1 (by rfl) [.string (bendS l r)] rfl (fun h => by cases h) (one_news _ (by (simp [go_sem, ↓IntWalk.iteOmega]))) (by simp [Value.oneCell']) (by simp only [maxLen]; omega) (by omega) (by first | rfl | omega | (simp <;> omega)) ?_; intro v2 w9 hO2 hg2 hb2 _; obtain ⟨p2, c2, rfl⟩ := own_form hO2 (k := 1) rfl; have b1 := own_bx hO2 (j := 2) rfl; have g92 := b1.2.1; have y4 := b1.2.2.2 4 _ rfl; have u4 := b1.2.2.1 4; have HO9 := Lib.hid hO2; have Hg9 := Lib.hid (Grew.grownBy (w0 := w4) (Hg8.out.trans (by (repeat (first | exact gR _ | refine gO ?_ _ | refine gA ?_ _ | refine gD ?_ | refine gN ?_ _)))) hg2 (fun q h => by have := hb2 q h; omega)); clear hO2 hg2 hb2 b1
        refine hK.out _ _ ?_ (fun hH => ?_)
        · (first | (simp [go_sem, ↓IntWalk.iteOmega, *]; done) | go_keep)
        clear hK K
        (try simp only [Act.put, List.setIfInBounds_toArray, List.set_cons_zero, List.set_cons_succ])
        refine wpAnyT_takeL (i := 9) (v := ?_) rfl (by kernel_rfl) (by kernel_rfl) (by kernel_rfl) (by kernel_rfl) (fun _ _ _ h => h) (Or.inl ⟨by rfl, ?_⟩) (by assumption) ?_
        rotate_left
        · (intro w hSw; (try dsimp only at hSw); go_simp; (try with_reducible rfl))
        (try simp only [Act.put, List.setIfInBounds_toArray, List.set_cons_zero, List.set_cons_succ])
        refine wpAnyT_all (rs := [10]) (by kernel_rfl) (by simp) (AllT.lastL rfl (fun K hK => ?_))
        go_simp
        refine hK.out _ _ ?_
        clear hK K
        (try simp only [Act.put, List.setIfInBounds_toArray, List.set_cons_zero, List.set_cons_succ])
        refine wpAnyT_done (by kernel_rfl) ?_ _
        go_wp2
        have Hall2 : Hid (∀ j, j < d + 1 → ofl f j + ofr f j ≤ 64) := Lib.hid (fun j hj => by
          by_cases e : j = d
          · rw [e, Hlr.out]; omega
          · exact Hall.out j (by omega))
        have HO10 := Lib.hid (HO9.out.set (k := 2) rfl 4 (.slice p2 (d + 1) c2))
        go_roundw
        case rel => exact ⟨d + 1, .slice p1 (d + 1) c1, .slice p2 (d + 1) c2, by omega, by go_num, (Owns.setGrew HO9.out Hgs.out Hg9.out (k := 2) rfl 4 (.slice p2 (d + 1) c2)).trans (by (repeat (first | exact gR _ | refine gO ?_ _ | refine gA ?_ _ | refine gD ?_ | refine gN ?_ _))), Hall2.out, by
          rw [hA1.out, hB1.out, lR, intVs_app']
          exact HO10.out.grew (by (repeat (first | exact gR _ | refine gO ?_ _ | refine gA ?_ _ | refine gD ?_ | refine gN ?_ _)))⟩
        case measure => (simp [intOf] <;> omega)
    · obtain rfl : d = 2 * E.length := by omega
      have hsE : shpE N E A o f = 0 := by rw [HsE.out, if_neg (fun ⟨j, hj, k⟩ => by have := Hall.out j hj; omega)]
      have HE := Lib.hid hsE
      have b1 := own_bx HOd.out (j := 2) rfl
      have y0 := b1.2.2.2 0 _ rfl
      have y1 := b1.2.2.2 1 _ rfl
      have y2 := b1.2.2.2 2 _ rfl
      have y5 := b1.2.2.2 5 _ rfl
      have hall := HB4.out.join (HOd.out.base hgs) Hgr.out Hw4.out.below.size
      have Hfin := Lib.hid (own_put6 hall (Nat.le_refl _) (Hw4.out.trans Hgr.out) (k := 1) rfl (.int .i64 N) (.slice pX E.length cX) (.slice pY A.length cY) (.slice pG (2 * E.length) cG) (.slice pB (2 * E.length) cB) (.int .i64 o))
      have Hbd := Lib.hid (shpAng_bd (f := f) (M := 2 * E.length) (fun d hd => ((hfb.out (by omega)).2 d hd).1))
      clear hall b1 hsE
      go_wp2
      refine bodyPost_ret (v := .tuple #[.agg #[.int .i64 N, .slice pX E.length cX, .slice pY A.length cY, .slice pG (2 * E.length) cG, .slice pB (2 * E.length) cB, .int .i64 o], .int .i64 0]) (by simp [results, Tryd.results13, go_sem, ↓IntWalk.iteOmega, y0, y1, y2, y3, y4, y5, r0, r1, r2, r3, r4, r5]) rfl ?_
      obtain ⟨hF1, hF2⟩ := Hfin.out
      rw [HE.out]
      have hT := hF1.tail.tail
      have hQ := hT.perm List.perm_append_comm
      have hQ2 := (hQ.perm (List.perm_middle (l₁ := [_, _]))).tail
      exact ⟨hF2.trans (by (repeat (first | exact gR _ | refine gO ?_ _ | refine gA ?_ _ | refine gD ?_ | refine gN ?_ _))), Or.inr ⟨rfl, pX, cX, pY, cY, pG, cG, pB, cB, vals, rfl, Hvl.out, Hbd.out, hQ2.grew (by (repeat (first | exact gR _ | refine gO ?_ _ | refine gA ?_ _ | refine gD ?_ | refine gN ?_ _)))⟩⟩
end Go.Proofs.YtiihgpgpbgafiaaDoor

/- Shape of the reference. -/
namespace Go.Proofs.YtiihgpgpbgafiaaDoor
open Go.RowKit
attribute [local go_sem ↓] Go.wp_at_zero Go.wp_at_succ

end Go.Proofs.YtiihgpgpbgafiaaDoor

/- best, Least, Solve of the program, Least of the reference. -/
namespace Go.Proofs.YtiihgpgpbgafiaaDoor
open Go.RowKit
attribute [local go_sem ↓] Go.wp_at_zero Go.wp_at_succ

/-- A flow of least cost. -/
def Opt (s : List Int) (a : List Fl.Ark) (f : List Int) : Prop := Fl.isFlow s a f ∧ ∃ π, Fl.Pot a f π
def BestPost (s : List Int) (a : List Fl.Ark) (er : Int) (w : World) (e : Ending) (w' : World) : Prop :=
  Grew w w' ∧ ((er ≠ 0 ∧ e = .returned (.tuple #[.slice none 0 0, .int .i64 0, .int .i64 er])) ∨ (er = 0 ∧ Fl.Cut s a ∧ e = .returned (.tuple #[.slice none 0 0, .int .i64 0, .int .i64 15])) ∨
    (er = 0 ∧ Fl.vN s a ∧ ∃ f po co, Opt s a f ∧ e = .returned (.tuple #[.slice po a.length co, .int .i64 (Fl.costF a f), .int .i64 0]) ∧ Ints w' po f ∧ f.length = a.length))
theorem flow_ints {s : List Int} {a : List Fl.Ark} {f : List Int} (hv : Fl.vN s a) (hf : Fl.Fit a f) : ∀ x ∈ f, -9223372036854775808 ≤ x ∧ x ≤ 9223372036854775807 := by
  intro x hx
  obtain ⟨i, hi, rfl⟩ := List.getElem_of_mem hx
  have hl := hf.l
  have h1 := hf.b i (by omega)
  have h2 := (hv.a i (by omega)).2.2.1
  have e : Fl.ge f i = f[i] := by unfold Fl.ge; simp [hi]
  rw [e] at h1
  omega
theorem fits_of {s : List Int} {a : List Fl.Ark} {f : List Int} (hv : Fl.vN s a) (hf : Fl.Fit a f) : Fl.fitsS s a f = 0 := by
  unfold Fl.fitsS
  rw [if_neg (by rw [Fl.nB_iff.2 hv]; simp), if_pos hf]
theorem cos_of {s : List Int} {a : List Fl.Ark} {f : List Int} (hv : Fl.vN s a) (hf : Fl.Fit a f) : Fl.cosS s a f = Fl.costF a f := by
  unfold Fl.cosS
  rw [if_pos (fits_of hv hf)]
theorem solved_p {s : List Int} {a : List Fl.Ark} (hv : Fl.vN s a) (p q : Option Addr) (cp cq : Nat) (W : World) (h1 : Fl.Ints W p s) (h2 : Fl.Arks W q a) (h3 : p = none → s.length = 0 ∧ cp = 0) :
    (Fl.Cut s a ∧ Calls Tryd.prog 69 #[.agg #[.slice p s.length cp, .slice q a.length cq]] W fun e w' => Grew W w' ∧ e = .returned (.tuple #[.slice none 0 0, .int .i64 15])) ∨
    (¬ Fl.Cut s a ∧ Calls Tryd.prog 69 #[.agg #[.slice p s.length cp, .slice q a.length cq]] W fun e w' => Grew W w' ∧ ∃ f po co, Opt s a f ∧ e = .returned (.tuple #[.slice po a.length co, .int .i64 0]) ∧ Ints w' po f ∧ f.length = a.length) := by
  have h := Fl.solve_p p q s.length cp a.length cq s a W h1 h2 rfl rfl h3
  by_cases hc : Fl.Cut s a
  · refine Or.inl ⟨hc, h.mono fun e w' ⟨hG, hr⟩ => ⟨hG, ?_⟩⟩
    rcases hr with ⟨c1, _⟩ | ⟨_, _, c2⟩ | ⟨_, g, f, c1, c2, c3, c4⟩
    · exact absurd hv c1
    · exact c2
    · exact absurd c1 (hc.no hv f)
  · refine Or.inr ⟨hc, h.mono fun e w' ⟨hG, hr⟩ => ⟨hG, ?_⟩⟩
    rcases hr with ⟨c1, _⟩ | ⟨_, c1, _⟩ | ⟨_, g, f, c1, c2, c3, c4⟩
    · exact absurd hv c1
    · exact absurd c1 hc
    · refine ⟨f, some ⟨g, 0, none⟩, a.length, ⟨c1, c2⟩, c3, ?_, c1.1.l⟩
      have hl : f.length = a.length := c1.1.l
      exact own_intsG (k := 0) (pl := some ⟨g, 0, none⟩) (n := a.length) (c := a.length) (xs := f) c4 rfl hl (by have := hv.m; omega) (flow_ints hv c1.1)
set_option maxRecDepth 8000 in
set_option maxHeartbeats 8000000 in
theorem best_p (N : Int) (pE pA : Option Addr) (nE nA cE cA : Nat) (E : List (Int × Int)) (A : List (List Int)) (o : Int) (w : World) (hR : RotAt w pE pA E A) (hL : Lim w) (hv : netE N E A o = 0 → Fl.vN (netS N E A o) (netA N E A o)) (hnE : E.length = nE) (hnA : A.length = nA) (hE3 : E.length ≤ 30) (hA3 : A.length ≤ 30) :
    Calls Tryd.prog 46 #[.agg #[.int .i64 N, .slice pE nE cE, .slice pA nA cA], .int .i64 o] w (BestPost (netS N E A o) (netA N E A o) (netE N E A o) w) := by
  subst hnE hnA
  have HR := Lib.hid hR
  have HL := Lib.hid hL
  obtain ⟨er, her⟩ : ∃ er, netE N E A o = er := ⟨_, rfl⟩
  obtain ⟨s, hs⟩ : ∃ s, netS N E A o = s := ⟨_, rfl⟩
  obtain ⟨a, ha⟩ : ∃ a, netA N E A o = a := ⟨_, rfl⟩
  have Hn : Hid (∀ W1, Grew w W1 → Calls Tryd.prog 10 #[.agg #[.int .i64 N, .slice pE E.length cE, .slice pA A.length cA], .int .i64 o] W1 (NetPost s a er W1)) := Lib.hid (fun W1 h => by rw [← her, ← hs, ← ha]; exact net_p _ _ _ _ _ _ _ _ _ _ _ (HR.out.grew h) (HL.out.grew h) rfl rfl hE3 hA3)
  rw [hs, ha, her] at hv
  rw [hs, ha, her]
  clear hR hL hs ha her
  by_cases her0 : er ≠ 0
  · have heb : (er != 0) = true := by simpa using her0
    have Hne := Lib.hid her0
    clear her0 hv
    go_enter Tryd.func46, Tryd.ntmps46
    go_wp2_with (go_at_call 10; apply Calls.mono; (with_reducible exact Hn.out _ (by (repeat (first | exact gR _ | refine gO ?_ _ | refine gA ?_ _ | refine gD ?_ | refine gN ?_ _)))); rintro e w2 ⟨hg2, pS, cS, qA, cQ, rfl, hS, hA2, hnil⟩; obtain ⟨x2, rfl⟩ := hg2)
    refine bodyPost_ret (v := .tuple #[.slice none 0 0, .int .i64 0, .int .i64 er]) (by simp [results, Tryd.results46, go_sem]) rfl ?_
    exact ⟨by (repeat (first | exact gR _ | refine gO ?_ _ | refine gA ?_ _ | refine gD ?_ | refine gN ?_ _)), Or.inl ⟨Hne.out, rfl⟩⟩
  have her1 : er = 0 := Classical.byContradiction her0
  subst her1
  have HV := Lib.hid (hv rfl)
  clear her0 hv
  by_cases hcut : Fl.Cut s a
  · have HC := Lib.hid hcut
    have Hsol : Hid (∀ (p q : Option Addr) (cp cq : Nat) (W1 W2 : World), Fl.Ints W1 p s → Fl.Arks W1 q a → (p = none → s.length = 0 ∧ cp = 0) → Grew W1 W2 → Calls Tryd.prog 69 #[.agg #[.slice p s.length cp, .slice q a.length cq]] W2 fun e w' => Grew W2 w' ∧ e = .returned (.tuple #[.slice none 0 0, .int .i64 15])) := Lib.hid (fun p q cp cq W1 W2 h1 h2 h3 hg => by
      rcases solved_p HV.out p q cp cq W2 (h1.grew hg) (h2.grew hg) h3 with ⟨_, k⟩ | ⟨k, _⟩
      · exact k
      · exact absurd HC.out k)
    clear hcut
    go_enter Tryd.func46, Tryd.ntmps46
    go_wp2_with (first
      | (go_at_call 10; apply Calls.mono; (with_reducible exact Hn.out _ (by (repeat (first | exact gR _ | refine gO ?_ _ | refine gA ?_ _ | refine gD ?_ | refine gN ?_ _)))); rintro e w2 ⟨hg2, pS, cS, qA, cQ, rfl, hS, hA2, hnil⟩; have Hs2 := Lib.hid (fun (W1 : World) (h : Grew w2 W1) => Hsol.out pS qA cS cQ w2 W1 hS hA2 hnil h); clear hS hA2 hnil; obtain ⟨x2, rfl⟩ := hg2)
      | (go_at_call 69; apply Calls.mono; (with_reducible exact Hs2.out _ (by (repeat (first | exact gR _ | refine gO ?_ _ | refine gA ?_ _ | refine gD ?_ | refine gN ?_ _)))); rintro e w3 ⟨⟨x3, rfl⟩, rfl⟩))
    refine bodyPost_ret (v := .tuple #[.slice none 0 0, .int .i64 0, .int .i64 15]) (by simp [results, Tryd.results46, go_sem]) rfl ?_
    exact ⟨by (repeat (first | exact gR _ | refine gO ?_ _ | refine gA ?_ _ | refine gD ?_ | refine gN ?_ _)), Or.inr (Or.inl ⟨rfl, HC.out, rfl⟩)⟩
  · have HC := Lib.hid hcut
    have Hsol : Hid (∀ (p q : Option Addr) (cp cq : Nat) (W1 W2 : World), Fl.Ints W1 p s → Fl.Arks W1 q a → (p = none → s.length = 0 ∧ cp = 0) → Grew W1 W2 → Calls Tryd.prog 69 #[.agg #[.slice p s.length cp, .slice q a.length cq]] W2 fun e w' => Grew W2 w' ∧ ∃ f po co, Opt s a f ∧ e = .returned (.tuple #[.slice po a.length co, .int .i64 0]) ∧ Ints w' po f ∧ f.length = a.length) := Lib.hid (fun p q cp cq W1 W2 h1 h2 h3 hg => by
      rcases solved_p HV.out p q cp cq W2 (h1.grew hg) (h2.grew hg) h3 with ⟨k, _⟩ | ⟨_, k⟩
      · exact absurd k HC.out
      · exact k)
    clear hcut
    go_enter Tryd.func46, Tryd.ntmps46
    go_wp2_with (first
      | (go_at_call 10; apply Calls.mono; (with_reducible exact Hn.out _ (by (repeat (first | exact gR _ | refine gO ?_ _ | refine gA ?_ _ | refine gD ?_ | refine gN ?_ _)))); rintro e w2 ⟨hg2, pS, cS, qA, cQ, rfl, hS, hA2, hnil⟩; have Hs2 := Lib.hid (fun (W1 : World) (h : Grew w2 W1) => Hsol.out pS qA cS cQ w2 W1 hS hA2 hnil h); have HS2 := Lib.hid hS; have HA2 := Lib.hid hA2; have Hnil := Lib.hid hnil; clear hS hA2 hnil; have Hg2 := Lib.hid hg2; obtain ⟨x2, rfl⟩ := hg2)
      | (go_at_call 69; apply Calls.mono; (with_reducible exact Hs2.out _ (by (repeat (first | exact gR _ | refine gO ?_ _ | refine gA ?_ _ | refine gD ?_ | refine gN ?_ _)))); rintro e w3 ⟨hg3, f, po, co, hO, rfl, hF, hfl⟩; have Hfl := Lib.hid hfl; have HO := Lib.hid hO; have HF := Lib.hid hF; have Hcst := Lib.hid (fun (W1 : World) (h : Grew w3 W1) => (by have k := Fl.cost_p pS qA po s.length cS a.length cQ f.length co s a f W1 (HS2.out.grew ((show Grew _ _ by (repeat (first | exact gR _ | refine gO ?_ _ | refine gA ?_ _ | refine gD ?_ | refine gN ?_ _))).trans (hg3.trans h))) (HA2.out.grew ((show Grew _ _ by (repeat (first | exact gR _ | refine gO ?_ _ | refine gA ?_ _ | refine gD ?_ | refine gN ?_ _))).trans (hg3.trans h))) (hF.grew h) rfl rfl rfl; rw [hfl, cos_of HV.out hO.1.1] at k; exact k : Calls Tryd.prog 70 #[.agg #[.slice pS s.length cS, .slice qA a.length cQ], .slice po a.length co] W1 fun e w' => e = .returned (.int .i64 (Fl.costF a f)) ∧ Grew W1 w')); clear hfl hO hF; obtain ⟨x3, rfl⟩ := hg3)
      | (go_at_call 70; apply Calls.mono; (with_reducible exact Hcst.out _ (by (repeat (first | exact gR _ | refine gO ?_ _ | refine gA ?_ _ | refine gD ?_ | refine gN ?_ _)))); rintro e w4 ⟨rfl, x4, rfl⟩))
    refine bodyPost_ret (v := .tuple #[.slice po a.length co, .int .i64 (Fl.costF a f), .int .i64 0]) (by simp [results, Tryd.results46, go_sem]) rfl ?_
    exact ⟨by (repeat (first | exact gR _ | refine gO ?_ _ | refine gA ?_ _ | refine gD ?_ | refine gN ?_ _)), Or.inr (Or.inr ⟨rfl, HV.out, f, po, co, HO.out, rfl, HF.out.grew (by (repeat (first | exact gR _ | refine gO ?_ _ | refine gA ?_ _ | refine gD ?_ | refine gN ?_ _))), Hfl.out⟩)⟩
def LeastPost (s : List Int) (a : List Fl.Ark) (er : Int) (w : World) (e : Ending) (w' : World) : Prop :=
  Grew w w' ∧ ((er ≠ 0 ∧ e = .returned (.tuple #[.int .i64 0, .int .i64 er])) ∨ (er = 0 ∧ Fl.Cut s a ∧ e = .returned (.tuple #[.int .i64 0, .int .i64 15])) ∨
    (er = 0 ∧ Fl.vN s a ∧ ∃ f, Opt s a f ∧ e = .returned (.tuple #[.int .i64 (Fl.costF a f), .int .i64 0])))
set_option maxHeartbeats 4000000 in
theorem least_p (N : Int) (pE pA : Option Addr) (nE nA cE cA : Nat) (E : List (Int × Int)) (A : List (List Int)) (o : Int) (w : World) (hR : RotAt w pE pA E A) (hL : Lim w) (hv : netE N E A o = 0 → Fl.vN (netS N E A o) (netA N E A o)) (hnE : E.length = nE) (hnA : A.length = nA) (hE3 : E.length ≤ 30) (hA3 : A.length ≤ 30) :
    Calls Tryd.prog 20 #[.agg #[.int .i64 N, .slice pE nE cE, .slice pA nA cA], .int .i64 o] w (LeastPost (netS N E A o) (netA N E A o) (netE N E A o) w) := by
  have Hb := Lib.hid (fun (W1 : World) (h : Grew w W1) => best_p N pE pA nE nA cE cA E A o W1 (hR.grew h) (hL.grew h) hv hnE hnA hE3 hA3)
  clear hR hL hv
  obtain ⟨er, her⟩ : ∃ er, netE N E A o = er := ⟨_, rfl⟩
  obtain ⟨s, hs⟩ : ∃ s, netS N E A o = s := ⟨_, rfl⟩
  obtain ⟨a, ha⟩ : ∃ a, netA N E A o = a := ⟨_, rfl⟩
  rw [her, hs, ha] at Hb ⊢
  clear her hs ha
  have Hb2 : Hid (∀ W1, Grew w W1 → Calls Tryd.prog 46 #[.agg #[.int .i64 N, .slice pE nE cE, .slice pA nA cA], .int .i64 o] W1 fun e w' => Grew W1 w' ∧ ∃ (v : Value) (c r : Int), e = .returned (.tuple #[v, .int .i64 c, .int .i64 r]) ∧ ((er ≠ 0 ∧ c = 0 ∧ r = er) ∨ (er = 0 ∧ Fl.Cut s a ∧ c = 0 ∧ r = 15) ∨ (er = 0 ∧ Fl.vN s a ∧ ∃ f, Opt s a f ∧ c = Fl.costF a f ∧ r = 0))) := Lib.hid (fun W1 h => (Hb.out W1 h).mono fun e w' ⟨hG, hr⟩ => ⟨hG, by
    rcases hr with ⟨h1, h2⟩ | ⟨h1, h2, h3⟩ | ⟨h1, h2, f, po, co, h3, h4, _⟩
    · exact ⟨_, _, _, h2, Or.inl ⟨h1, rfl, rfl⟩⟩
    · exact ⟨_, _, _, h3, Or.inr (Or.inl ⟨h1, h2, rfl, rfl⟩)⟩
    · exact ⟨_, _, _, h4, Or.inr (Or.inr ⟨h1, h2, f, h3, rfl, rfl⟩)⟩⟩)
  go_enter Tryd.func20, Tryd.ntmps20
  go_wp2_with (go_at_call 46; apply Calls.mono; (with_reducible exact Hb2.out _ (by (repeat (first | exact gR _ | refine gO ?_ _ | refine gA ?_ _ | refine gD ?_ | refine gN ?_ _)))); rintro e w2 ⟨hg2, v, c, r, rfl, hc⟩; have Hcs := Lib.hid hc; clear hc; obtain ⟨x2, rfl⟩ := hg2)
  go_ret2
  refine ⟨by (repeat (first | exact gR _ | refine gO ?_ _ | refine gA ?_ _ | refine gD ?_ | refine gN ?_ _)), ?_⟩
  rcases Hcs.out with ⟨h1, rfl, rfl⟩ | ⟨h1, h2, rfl, rfl⟩ | ⟨h1, h2, f, h3, rfl, rfl⟩
  · exact Or.inl ⟨h1, rfl⟩
  · exact Or.inr (Or.inl ⟨h1, h2, rfl⟩)
  · exact Or.inr (Or.inr ⟨h1, h2, f, h3, rfl⟩)
end Go.Proofs.YtiihgpgpbgafiaaDoor

/- The network is valid; plain. -/
set_option linter.unusedSimpArgs false
set_option linter.unusedVariables false
namespace Go.Proofs.YtiihgpgpbgafiaaDoor
open Go.RowKit

theorem sum_take (xs : List Int) : ∀ n, n ≤ xs.length → Fl.sumN (fun v => Fl.ge xs v) n = (xs.take n).sum
  | 0, _ => rfl
  | n + 1, h => by
    rw [List.take_succ_eq_append_getElem (by omega), List.sum_append, ← sum_take xs n (by omega)]
    show _ + Fl.ge xs n = _
    have : Fl.ge xs n = xs[n] := by unfold Fl.ge; simp [show n < xs.length by omega]
    rw [this]; simp
theorem sum_all (xs : List Int) : Fl.sumN (fun v => Fl.ge xs v) xs.length = xs.sum := by
  rw [sum_take xs _ (Nat.le_refl _), List.take_length]
theorem tab_snoc (n : Nat) (f : Nat → Int) : tab (n + 1) f = tab n f ++ [f n] := by unfold tab; rw [List.range_succ, List.map_append]; rfl
theorem sum_supV (A : List (List Int)) : ∀ n, n ≤ A.length → (tab n fun v => 4 - ((rowOf A v).length : Int)).sum = 4 * (n : Int) - ((pre A n).length : Int)
  | 0, _ => rfl
  | n + 1, h => by
    rw [tab_snoc, List.sum_append, sum_supV A n (by omega), pre_succ, List.length_append, List.length_map]
    simp
    omega
theorem sum_supF (F : List (List Int)) (o : Int) (fo : Nat) (hfo : faceF F o = fo) : ∀ n, n ≤ F.length → (tab n fun i => if faceF F o = i then -4 - ((rowOf F i).length : Int) else 4 - ((rowOf F i).length : Int)).sum = 4 * (n : Int) - ((F.take n).flatten.length : Int) - if fo < n then 8 else 0
  | 0, _ => by simp [tab]
  | n + 1, h => by
    rw [tab_snoc, List.sum_append, sum_supF F o fo hfo n (by omega), List.take_succ_eq_append_getElem (by omega), List.flatten_append, List.length_append, hfo, rowOf_eq F (by omega)]
    simp only [List.sum_cons, List.sum_nil, List.flatten_cons, List.flatten_nil, List.append_nil]
    by_cases e : fo = n
    · subst e
      rw [if_neg (by omega), if_pos rfl, if_pos (by omega)]; omega
    · rw [if_neg (show ¬ ((fo : Int) = (n : Int)) by omega)]
      by_cases e2 : fo < n
      · rw [if_pos e2, if_pos (by omega)]; omega
      · rw [if_neg e2, if_neg (by omega)]; omega
theorem len_eq {l m : List Int} (hl : l.Nodup) (hm : m.Nodup) (h : ∀ y, y ∈ l ↔ y ∈ m) : l.length = m.length :=
  Nat.le_antisymm (sub_len hl fun x hx => (h x).1 hx) (sub_len hm fun x hx => (h x).2 hx)
theorem cntP_no {p : Nat → Prop} : ∀ {n : Nat}, (∀ v, v < n → ¬ p v) → cntP p n = 0
  | 0, _ => rfl
  | n + 1, h => by simp only [cntP]; rw [if_neg (h n (by omega)), cntP_no fun v hv => h v (by omega)]
section
variable {N : Int} {E : List (Int × Int)} {A : List (List Int)} {o : Int}
theorem NetOK.two (h : NetOK N E A o) (hE : 0 < E.length) : 2 ≤ A.length := by
  have h1 := h.v.ed 0 hE
  have h2 := h.n
  unfold okEdge at h1
  omega
theorem NetOK.row (h : NetOK N E A o) (hE : 0 < E.length) {u : Nat} (hu : u < A.length) : rowOf A u ≠ [] := by
  intro h0
  have h2 := h.two hE
  have hcn := (one_comp (by omega)).1 h.c
  obtain ⟨w, hw, hwu⟩ : ∃ w : Nat, w < A.length ∧ w ≠ u := by
    by_cases e : u = 0
    · exact ⟨1, by omega, by omega⟩
    · exact ⟨0, by omega, by omega⟩
  have hc := (hcn w hw).symm.trans (hcn u hu)
  obtain ⟨z, hz⟩ : ∃ z : Int, (u : Int) = z := ⟨_, rfl⟩
  rw [hz] at hc
  cases hc with
  | refl => omega
  | step _ hn =>
    obtain ⟨d, d0, d1, _, e⟩ := dart_nbr hn
    have ho := oth_in d0 d1
    obtain ⟨v, hv, hm, ht⟩ := row_of h.v ho.1 ho.2
    have : v = u := by omega
    subst this
    rw [h0] at hm
    cases hm
theorem NetOK.euler (h : NetOK N E A o) (hE : 0 < E.length) : (A.length : Int) - E.length + (facesO N E A).length = 2 := by
  have hiso : isoN A = 0 := by
    unfold isoN
    exact cntP_no fun u hu h0 => h.row hE hu (List.length_eq_zero_iff.1 h0)
  have hev := (gen_main _ rfl h.v).1
  have hge := genus_eq h.v
  rw [h.g, h.c] at hge
  have hF : facesO N E A = facesF A (2 * E.length) := by unfold facesO; rw [if_pos (vRotB_iff.2 h.v)]
  have hx : genX N E A = N - E.length + (((facesF A (2 * E.length)).length : Int) + isoN A) := rfl
  rw [hiso] at hx
  obtain ⟨k, hk⟩ : ∃ k, genX N E A = 2 * k := ⟨genX N E A / 2, by omega⟩
  rw [hk, Int.mul_tdiv_cancel_left _ (by decide)] at hge
  rw [hF]
  have := h.n
  push_cast at hge hx
  omega
theorem NetOK.flat (h : NetOK N E A o) : (facesO N E A).flatten.length = 2 * E.length := by
  have hD := fac_dec h.v
  have hF : facesO N E A = facesF A (2 * E.length) := by unfold facesO; rw [if_pos (vRotB_iff.2 h.v)]
  have := len_eq hD.nd (idL_nodup (2 * E.length)) (fun y => by rw [hD.mem, mem_idL]; push_cast; rfl)
  rw [hF, this]
  unfold idL; simp
theorem net_valid (hE3 : E.length ≤ 30) (hA3 : A.length ≤ 30) (he : netE N E A o = 0) : Fl.vN (netS N E A o) (netA N E A o) := by
  have h := net_ok he
  by_cases hE : E = []
  · have e1 : netS N E A o = [] := by unfold netS; rw [if_neg (fun k => k.2 hE)]
    have e2 : netA N E A o = [] := by unfold netA; rw [if_neg (fun k => k.2 hE)]
    rw [e1, e2]
    exact ⟨by simp, by simp, fun v hv => by simp at hv, fun i hi => by simp at hi, rfl⟩
  have hE0 : 0 < E.length := List.length_pos_iff.2 hE
  have e1 : netS N E A o = supL A (facesO N E A) o := by unfold netS; rw [if_pos ⟨he, hE⟩]
  have e2 : netA N E A o = arcK A.length (facesO N E A) E (2 * E.length) := by unfold netA; rw [if_pos ⟨he, hE⟩]
  rw [e1, e2]
  have hsl : (supL A (facesO N E A) o).length = A.length + (facesO N E A).length := by unfold supL; rw [List.length_append, supV_len, supF_len]
  have hal := arcK_len A.length (facesO N E A) E (2 * E.length)
  have hF := facs_ok h.v
  have hFl := hF.len
  refine ⟨by omega, by omega, fun v hv => ?_, fun i hi => ?_, ?_⟩
  · have hm : Fl.ge (supL A (facesO N E A) o) v ∈ supL A (facesO N E A) o := by
      have : Fl.ge (supL A (facesO N E A) o) v = (supL A (facesO N E A) o)[v] := by unfold Fl.ge; simp [hv]
      rw [this]; exact List.getElem_mem hv
    have := h.sup (by omega) (by omega) _ hm
    omega
  · rw [hal] at hi
    rw [hsl]
    obtain ⟨d, hd⟩ : ∃ d, i = 2 * d ∨ i = 2 * d + 1 := ⟨i / 2, by omega⟩
    have hdk : d < 2 * E.length := by omega
    obtain ⟨a1, a2⟩ := aK_get (n := A.length) (F := facesO N E A) (E := E) hdk
    obtain ⟨a, ha, ha2, _⟩ := h.fc (d := d) (by omega) (by omega)
    have ho := oth_bd (M := E.length) (d := (d : Int)) (by omega) (by omega)
    obtain ⟨b, hb, hb2, _⟩ := h.fc ho.1 ho.2
    have ht := tail_in h.v (d := (d : Int)) (by omega) (by omega)
    have hn := h.n
    unfold Fl.cap Fl.cst
    rcases hd with rfl | rfl
    · rw [a1, hb]; dsimp only; omega
    · rw [a2, ha, hb]; dsimp only; omega
  · rw [sum_all]
    obtain ⟨fo, hfo, hfo2, _⟩ := h.fc (d := o) h.o.1 (by have := h.o.2; omega)
    have s1 := sum_supV A A.length (Nat.le_refl _)
    have s2 := sum_supF (facesO N E A) o fo hfo (facesO N E A).length (Nat.le_refl _)
    rw [List.take_length, h.flat, if_pos hfo2] at s2
    rw [h.v.ln] at s1
    have hx := h.euler hE0
    unfold supL supV supF
    rw [List.sum_append, s1, s2]
    omega
end
end Go.Proofs.YtiihgpgpbgafiaaDoor

/- Optimal flows bend each edge to one side; the rings; plain. Solve of the program. -/
set_option linter.unusedSimpArgs false
set_option linter.unusedVariables false
namespace Go.Proofs.YtiihgpgpbgafiaaDoor
open Go.RowKit
attribute [local go_sem ↓] Go.wp_at_zero Go.wp_at_succ

/-- An optimal flow bends no edge to both sides. -/
theorem opt_lr {s : List Int} {n : Nat} {F : List (List Int)} {E : List (Int × Int)} {f : List Int} (hO : Opt s (arcK n F E (2 * E.length)) f) {d : Nat} (hd : d < 2 * E.length) : ofl f d ≤ 0 ∨ ofr f d ≤ 0 := by
  obtain ⟨hf, π, hP⟩ := hO
  have ho := oth_bd (M := E.length) (d := (d : Int)) (by omega) (by omega)
  obtain ⟨x, hx⟩ : ∃ x : Nat, oth (d : Int) = x := ⟨(oth d).toNat, by omega⟩
  have hxl : x < 2 * E.length := by omega
  have hox : oth (x : Int) = d := by rw [← hx, Go.Proofs.YtiihgpgpbgafiaaDoor.oth_oth]
  obtain ⟨_, a1⟩ := aK_get (n := n) (F := F) (E := E) hd
  obtain ⟨_, a2⟩ := aK_get (n := n) (F := F) (E := E) hxl
  rw [hx] at a1
  rw [hox] at a2
  have hl := arcK_len n F E (2 * E.length)
  rcases Int.lt_or_le 0 (ofl f d) with h1 | h1
  case inr => exact Or.inl h1
  rcases Int.lt_or_le 0 (ofr f d) with h2 | h2
  case inr => exact Or.inr h2
  exfalso
  have e2 : ofr f d = Fl.ge f (2 * x + 1) := by unfold ofr; rw [hx]; rfl
  rw [e2] at h2
  have p1 := hP (2 * d + 1) true ⟨by omega, h1⟩
  have p2 := hP (2 * x + 1) true ⟨by omega, h2⟩
  unfold Fl.sC Fl.sF Fl.sT Fl.cst Fl.vT Fl.vF at p1 p2
  rw [a1] at p1
  rw [a2] at p2
  simp at p1 p2
  omega
theorem chk_of {s : List Int} {a : List Fl.Ark} {f : List Int} (hv : Fl.vN s a) (hf : Fl.isFlow s a f) : Fl.chkS s a f = 0 := by
  unfold Fl.chkS
  rw [if_pos (fits_of hv hf.1), if_pos hf.2]
theorem opt_shpE {N : Int} {E : List (Int × Int)} {A : List (List Int)} {o : Int} {f : List Int} (hE3 : E.length ≤ 30) (hA3 : A.length ≤ 30) (he : netE N E A o = 0) (hO : Opt (netS N E A o) (netA N E A o) f) : shpE N E A o f = 0 := by
  have hv := net_valid hE3 hA3 he
  have hc := chk_of hv hO.1
  unfold shpE
  rw [if_neg (by rw [he]; simp), if_neg (by rw [hc]; simp), if_neg]
  rintro ⟨d, hd, k⟩
  have hE0 : 0 < E.length := by omega
  obtain ⟨hl, hb⟩ := flow_bd he hc hE0
  have hA := (netS_ok (net_ok he) hE0).2
  rw [hA] at hO
  have h1 := (hb d hd).2
  have ho := oth_bd (M := E.length) (d := (d : Int)) (by omega) (by omega)
  have h2 := (hb (oth d).toNat (by omega)).2
  have h3 := opt_lr hO hd
  unfold ofl ofr at k h3
  omega

/-! ### Solve of the program -/
def SolvePost (N : Int) (E : List (Int × Int)) (A : List (List Int)) (o : Int) (w : World) (e : Ending) (w' : World) : Prop :=
  Grew w w' ∧ ((netE N E A o ≠ 0 ∧ e = .returned (.tuple #[shp0, .int .i64 (netE N E A o)])) ∨ (netE N E A o = 0 ∧ Fl.Cut (netS N E A o) (netA N E A o) ∧ e = .returned (.tuple #[shp0, .int .i64 15])) ∨
    (netE N E A o = 0 ∧ ∃ f, Opt (netS N E A o) (netA N E A o) f ∧ ∃ pE cE pA cA pG cG pB cB, e = .returned (.tuple #[.agg #[.int .i64 N, .slice pE E.length cE, .slice pA A.length cA, .slice pG (2 * E.length) cG, .slice pB (2 * E.length) cB, .int .i64 o], .int .i64 0]) ∧
      Prs w' pE E ∧ Mat w' pA A ∧ Ints w' pG (shpAng f (2 * E.length)) ∧ Strs w' pB (shpBen f (2 * E.length))))
set_option maxRecDepth 8000 in
set_option maxHeartbeats 8000000 in
theorem solve40_p (N : Int) (pE pA : Option Addr) (nE nA cE cA : Nat) (E : List (Int × Int)) (A : List (List Int)) (o : Int) (w : World) (hR : RotAt w pE pA E A) (hL : Lim w) (hnE : E.length = nE) (hnA : A.length = nA) (hE3 : E.length ≤ 30) (hA3 : A.length ≤ 30) :
    Calls Tryd.prog 19 #[.agg #[.int .i64 N, .slice pE nE cE, .slice pA nA cA], .int .i64 o] w (SolvePost N E A o w) := by
  subst hnE hnA
  have HR := Lib.hid hR
  have HL := Lib.hid hL
  obtain ⟨er, her⟩ : ∃ er, netE N E A o = er := ⟨_, rfl⟩
  have Hb := Lib.hid (fun (W1 : World) (h : Grew w W1) => best_p N pE pA E.length A.length cE cA E A o W1 (HR.out.grew h) (HL.out.grew h) (net_valid hE3 hA3) rfl rfl hE3 hA3)
  rw [her] at Hb
  have Her := Lib.hid her
  unfold SolvePost
  rw [her]
  clear hR hL her
  by_cases her0 : er ≠ 0
  · have heb : (er != 0) = true := by simpa using her0
    have Hne := Lib.hid her0
    have Hb2 : Hid (∀ W1, Grew w W1 → Calls Tryd.prog 46 #[.agg #[.int .i64 N, .slice pE E.length cE, .slice pA A.length cA], .int .i64 o] W1 fun e w' => e = .returned (.tuple #[.slice none 0 0, .int .i64 0, .int .i64 er]) ∧ Grew W1 w') := Lib.hid (fun W1 h => (Hb.out W1 h).mono fun e w' ⟨hG, hr⟩ => ⟨by
      rcases hr with ⟨_, k⟩ | ⟨k, _⟩ | ⟨k, _⟩
      · exact k
      · exact absurd k Hne.out
      · exact absurd k Hne.out, hG⟩)
    clear her0 Hb
    go_enter Tryd.func19, Tryd.ntmps19
    go_wp2_with ((go_at_call 46; apply Calls.mono; (with_reducible exact Hb2.out _ (by (repeat (first | exact gR _ | refine gO ?_ _ | refine gA ?_ _ | refine gD ?_ | refine gN ?_ _)))); rintro e w' ⟨rfl, x, rfl⟩))
    refine bodyPost_ret (v := .tuple #[shp0, .int .i64 er]) (by unfold shp0; simp [results, Tryd.results19, go_sem, ↓IntWalk.iteOmega]) rfl ?_
    exact ⟨by (repeat (first | exact gR _ | refine gO ?_ _ | refine gA ?_ _ | refine gD ?_ | refine gN ?_ _)), Or.inl ⟨Hne.out, rfl⟩⟩
  have her1 : er = 0 := Classical.byContradiction her0
  subst her1
  clear her0
  have HV := Lib.hid (net_valid hE3 hA3 Her.out)
  by_cases hcut : Fl.Cut (netS N E A o) (netA N E A o)
  · have HC := Lib.hid hcut
    have Hb2 : Hid (∀ W1, Grew w W1 → Calls Tryd.prog 46 #[.agg #[.int .i64 N, .slice pE E.length cE, .slice pA A.length cA], .int .i64 o] W1 fun e w' => e = .returned (.tuple #[.slice none 0 0, .int .i64 0, .int .i64 15]) ∧ Grew W1 w') := Lib.hid (fun W1 h => (Hb.out W1 h).mono fun e w' ⟨hG, hr⟩ => ⟨by
      rcases hr with ⟨k, _⟩ | ⟨_, _, k⟩ | ⟨_, _, f, _, _, k, _⟩
      · exact absurd rfl k
      · exact k
      · exact absurd k.1 (HC.out.no HV.out f), hG⟩)
    clear hcut Hb
    go_enter Tryd.func19, Tryd.ntmps19
    go_wp2_with ((go_at_call 46; apply Calls.mono; (with_reducible exact Hb2.out _ (by (repeat (first | exact gR _ | refine gO ?_ _ | refine gA ?_ _ | refine gD ?_ | refine gN ?_ _)))); rintro e w' ⟨rfl, x, rfl⟩))
    refine bodyPost_ret (v := .tuple #[shp0, .int .i64 15]) (by unfold shp0; simp [results, Tryd.results19, go_sem, ↓IntWalk.iteOmega]) rfl ?_
    exact ⟨by (repeat (first | exact gR _ | refine gO ?_ _ | refine gA ?_ _ | refine gD ?_ | refine gN ?_ _)), Or.inr (Or.inl ⟨by trivial, HC.out, rfl⟩)⟩
  · have HC := Lib.hid hcut
    have Hb2 : Hid (∀ W1, Grew w W1 → Calls Tryd.prog 46 #[.agg #[.int .i64 N, .slice pE E.length cE, .slice pA A.length cA], .int .i64 o] W1 fun e w' => Grew W1 w' ∧ ∃ f po co c, e = .returned (.tuple #[.slice po (netA N E A o).length co, .int .i64 c, .int .i64 0]) ∧ Opt (netS N E A o) (netA N E A o) f ∧ Ints w' po f ∧ f.length = (netA N E A o).length) := Lib.hid (fun W1 h => (Hb.out W1 h).mono fun e w' ⟨hG, hr⟩ => ⟨hG, by
      rcases hr with ⟨k, _⟩ | ⟨_, k, _⟩ | ⟨_, _, f, po, co, h1, h2, h3, h4⟩
      · exact absurd rfl k
      · exact absurd k HC.out
      · exact ⟨f, po, co, _, h2, h1, h3, h4⟩⟩)
    have Hsh : Hid (∀ (f : List Int) (po : Option Addr) (co m : Nat) (W W1 : World), Opt (netS N E A o) (netA N E A o) f → Ints W po f → f.length = m → Grew w W → Grew W W1 → Calls Tryd.prog 13 #[.agg #[.int .i64 N, .slice pE E.length cE, .slice pA A.length cA], .int .i64 o, .slice po m co] W1 fun e w' => Grew W1 w' ∧ ∃ pE cE pA cA pG cG pB cB vals, e = .returned (.tuple #[.agg #[.int .i64 N, .slice pE E.length cE, .slice pA A.length cA, .slice pG (2 * E.length) cG, .slice pB (2 * E.length) cB, .int .i64 o], .int .i64 0]) ∧
      vals.length = A.length ∧ (∀ x ∈ shpAng f (2 * E.length), -9223372036854775808 ≤ x ∧ x ≤ 9223372036854775807) ∧ Owns w' W1.heap.size (shR pE pA pG pB cE cA cG cB E A f vals)) := Lib.hid (fun f po co m W W1 h1 h2 h3 h4 h5 => by
      have k := shape_o N pE pA po E.length A.length cE cA m co E A o f W1 (HR.out.grew (h4.trans h5)) (HL.out.grew (h4.trans h5)) (h2.grew h5) rfl rfl h3 hE3 hA3
      rw [opt_shpE hE3 hA3 Her.out h1] at k
      refine k.mono fun e w' ⟨hG, hr⟩ => ⟨hG, ?_⟩
      rcases hr with ⟨k, _⟩ | ⟨_, k⟩
      · exact absurd rfl k
      · exact k)
    have Hst := Lib.hid (spB_start w N (.slice pE E.length cE) (.slice pA A.length cA))
    obtain ⟨m, hm⟩ : ∃ m, (netA N E A o).length = m := ⟨_, rfl⟩
    rw [hm] at Hb2
    clear hcut Hb hm
    go_enter Tryd.func19, Tryd.ntmps19
    go_upto_region 4 with (go_at_call 46; apply Calls.mono; (with_reducible exact Hb2.out _ (by (repeat (first | exact gR _ | refine gO ?_ _ | refine gA ?_ _ | refine gD ?_ | refine gN ?_ _)))); rintro e w2 ⟨hg2, f, po, co, c, rfl, hO, hI, hfl⟩; have HO := Lib.hid hO; have HI := Lib.hid hI; have Hfl := Lib.hid hfl; have Hw2 := Lib.hid (Grew.trans (show Grew w _ by (repeat (first | exact gR _ | refine gO ?_ _ | refine gA ?_ _ | refine gD ?_ | refine gN ?_ _))) hg2); have HB2 := Lib.hid (Hst.out.grew (Grew.trans (by (repeat (first | exact gR _ | refine gO ?_ _ | refine gA ?_ _ | refine gD ?_ | refine gN ?_ _))) hg2)); clear hO hI hfl hg2; have b0 := own_bx HB2.out (j := 0) rfl; have q0 := b0.2.2.2 0 _ rfl; have q1 := b0.2.2.2 1 _ rfl; have q2 := b0.2.2.2 2 _ rfl; clear b0)
    go_wp2_with (go_at_call 13; apply Calls.mono; (with_reducible exact Hsh.out _ _ _ _ _ _ HO.out HI.out Hfl.out Hw2.out (by (repeat (first | exact gR _ | refine gO ?_ _ | refine gA ?_ _ | refine gD ?_ | refine gN ?_ _)))); rintro e w3 ⟨hg3, pX, cX, pY, cY, pG, cG, pB, cB, vals, rfl, hvl, hbd, hOw⟩; have Hvl := Lib.hid hvl; have Hbd := Lib.hid hbd; have Hw3 := Lib.hid (Hw2.out.trans (Grew.trans (by (repeat (first | exact gR _ | refine gO ?_ _ | refine gA ?_ _ | refine gD ?_ | refine gN ?_ _))) hg3)); have HB3 := Lib.hid ((HB2.out.grew (show Grew _ _ by (repeat (first | exact gR _ | refine gO ?_ _ | refine gA ?_ _ | refine gD ?_ | refine gN ?_ _)))).join hOw hg3 (by have := Hw2.out.below.size; (first | omega | (simp <;> omega)))); clear hvl hbd hOw hg3 q0 q1 q2; have b4 := own_bx HB3.out (j := 1) rfl; have hrl := b4.2.1; have r0 := b4.2.2.2 0 _ rfl; have r1 := b4.2.2.2 1 _ rfl; have r2 := b4.2.2.2 2 _ rfl; have r3 := b4.2.2.2 3 _ rfl; have r4 := b4.2.2.2 4 _ rfl; have r5 := b4.2.2.2 5 _ rfl; have t0 := b4.2.2.1 0; have t1 := b4.2.2.1 1; have t2 := b4.2.2.1 2; have t3 := b4.2.2.1 3; have t4 := b4.2.2.1 4; have t5 := b4.2.2.1 5; have Hfin := Lib.hid (own_put6 HB3.out (Nat.le_refl _) Hw3.out (k := 1) rfl (.int .i64 N) (.slice pX E.length cX) (.slice pY A.length cY) (.slice pG (2 * E.length) cG) (.slice pB (2 * E.length) cB) (.int .i64 o)); clear b4)
    refine bodyPost_ret (v := .tuple #[.agg #[.int .i64 N, .slice pX E.length cX, .slice pY A.length cY, .slice pG (2 * E.length) cG, .slice pB (2 * E.length) cB, .int .i64 o], .int .i64 0]) (by simp [results, Tryd.results19, go_sem, ↓IntWalk.iteOmega, r0, r1, r2, r3, r4, r5]) rfl ?_
    obtain ⟨hF1, hF2⟩ := Hfin.out
    have hT := hF1.tail.tail
    obtain ⟨r1, r2, r3, r4⟩ := shp_read (rs := []) (by rw [List.append_nil]; exact hT) Hvl.out (by omega) (mat_bd HR.out.hA) Hbd.out
    exact ⟨hF2.trans (by (repeat (first | exact gR _ | refine gO ?_ _ | refine gA ?_ _ | refine gD ?_ | refine gN ?_ _))), Or.inr (Or.inr ⟨by trivial, f, HO.out, pX, cX, pY, cY, pG, cG, pB, cB, rfl, r1.grew (by (repeat (first | exact gR _ | refine gO ?_ _ | refine gA ?_ _ | refine gD ?_ | refine gN ?_ _))), r2.grew (by (repeat (first | exact gR _ | refine gO ?_ _ | refine gA ?_ _ | refine gD ?_ | refine gN ?_ _))), r3.grew (by (repeat (first | exact gR _ | refine gO ?_ _ | refine gA ?_ _ | refine gD ?_ | refine gN ?_ _))), r4.grew (by (repeat (first | exact gR _ | refine gO ?_ _ | refine gA ?_ _ | refine gD ?_ | refine gN ?_ _)))⟩)⟩
end Go.Proofs.YtiihgpgpbgafiaaDoor

/- The rings of three and four, plain. -/
set_option linter.unusedSimpArgs false
set_option linter.unusedVariables false
namespace Go.Proofs.YtiihgpgpbgafiaaDoor
open Go.RowKit

def ringE (n : Nat) : List (Int × Int) := (List.range n).map fun v : Nat => ((v : Int), (((v + 1) % n : Nat) : Int))
def ringA (n : Nat) : List (List Int) := (List.range n).map fun v : Nat => [2 * (v : Int), 2 * (((v + n - 1) % n : Nat) : Int) + 1]
theorem ring_v3 : vRot 3 (ringE 3) (ringA 3) := by
  · refine ⟨by decide, by decide, by decide, rfl, fun i hi => ?_, ?_, ?_, ?_⟩
    · have : i = 0 ∨ i = 1 ∨ i = 2 := by simp [ringE] at hi; omega
      rcases this with rfl | rfl | rfl <;> (unfold okEdge; decide +kernel)
    · show ∀ q ∈ pre (ringA 3) (ringA 3).length, 0 ≤ q.2 ∧ q.2 < 2 * ((ringE 3).length : Int) ∧ tailE (ringE 3) q.2 = q.1
      decide +kernel
    · decide +kernel
    · decide +kernel
theorem ring_v4 : vRot 4 (ringE 4) (ringA 4) := by
  · refine ⟨by decide, by decide, by decide, rfl, fun i hi => ?_, ?_, ?_, ?_⟩
    · have : i = 0 ∨ i = 1 ∨ i = 2 ∨ i = 3 := by simp [ringE] at hi; omega
      rcases this with rfl | rfl | rfl | rfl <;> (unfold okEdge; decide +kernel)
    · show ∀ q ∈ pre (ringA 4) (ringA 4).length, 0 ≤ q.2 ∧ q.2 < 2 * ((ringE 4).length : Int) ∧ tailE (ringE 4) q.2 = q.1
      decide +kernel
    · decide +kernel
    · decide +kernel
theorem cntP_not {p : Nat → Prop} {n : Nat} (h : ¬ p n) : cntP p (n + 1) = cntP p n := by simp only [cntP]; rw [if_neg h]; rfl
theorem ring_f3 : facesO 3 (ringE 3) (ringA 3) = [[0, 2, 4], [1, 5, 3]] := by unfold facesO; rw [if_pos (vRotB_iff.2 ring_v3)]; decide +kernel
theorem ring_f4 : facesO 4 (ringE 4) (ringA 4) = [[0, 2, 4, 6], [1, 7, 5, 3]] := by unfold facesO; rw [if_pos (vRotB_iff.2 ring_v4)]; decide +kernel
theorem ring_c3 : cntL (ringE 3) (ringA 3).length = 1 := by
  refine (one_comp (by decide)).2 fun v hv => ?_
  have : v = 0 ∨ v = 1 ∨ v = 2 := by simp [ringA] at hv; omega
  have h1 : Cn (ringE 3) (ringE 3).length 0 1 := (Cn.refl _).step ⟨0, by decide, Or.inl ⟨rfl, rfl⟩⟩
  rcases this with rfl | rfl | rfl
  · exact Cn.refl _
  · exact h1
  · exact h1.step ⟨1, by decide, Or.inl ⟨rfl, rfl⟩⟩
theorem ring_c4 : cntL (ringE 4) (ringA 4).length = 1 := by
  refine (one_comp (by decide)).2 fun v hv => ?_
  have : v = 0 ∨ v = 1 ∨ v = 2 ∨ v = 3 := by simp [ringA] at hv; omega
  have h1 : Cn (ringE 4) (ringE 4).length 0 1 := (Cn.refl _).step ⟨0, by decide, Or.inl ⟨rfl, rfl⟩⟩
  have h2 : Cn (ringE 4) (ringE 4).length 0 2 := h1.step ⟨1, by decide, Or.inl ⟨rfl, rfl⟩⟩
  rcases this with rfl | rfl | rfl | rfl
  · exact Cn.refl _
  · exact h1
  · exact h2
  · exact h2.step ⟨2, by decide, Or.inl ⟨rfl, rfl⟩⟩
theorem ring_g3 : genusF 3 (ringE 3) (ringA 3) = 0 := by
  unfold genusF
  have h2 : cntP (fun u => (rowOf (ringA 3) u).length = 0) (ringA 3).length = 0 := by
    show cntP _ 3 = 0
    rw [cntP_not (by decide), cntP_not (by decide), cntP_not (by decide)]
    rfl
  rw [if_pos (vRotB_iff.2 ring_v3), ring_f3, ring_c3, h2]
  decide
theorem ring_g4 : genusF 4 (ringE 4) (ringA 4) = 0 := by
  unfold genusF
  have h2 : cntP (fun u => (rowOf (ringA 4) u).length = 0) (ringA 4).length = 0 := by
    show cntP _ 4 = 0
    rw [cntP_not (by decide), cntP_not (by decide), cntP_not (by decide), cntP_not (by decide)]
    rfl
  rw [if_pos (vRotB_iff.2 ring_v4), ring_f4, ring_c4, h2]
  decide
theorem ring_n3 : netE 3 (ringE 3) (ringA 3) 1 = 0 := by
  refine NetOK.e ⟨ring_v3, ring_g3, ring_c3, fun v hv => ?_, by decide⟩
  have : v = 0 ∨ v = 1 ∨ v = 2 := by simp [ringA] at hv; omega
  rcases this with rfl | rfl | rfl <;> decide
theorem ring_n4 : netE 4 (ringE 4) (ringA 4) 0 = 0 := by
  refine NetOK.e ⟨ring_v4, ring_g4, ring_c4, fun v hv => ?_, by decide⟩
  have : v = 0 ∨ v = 1 ∨ v = 2 ∨ v = 3 := by simp [ringA] at hv; omega
  rcases this with rfl | rfl | rfl | rfl <;> decide
def s3 : List Int := [2, 2, 2, 1, -7]
def s4 : List Int := [2, 2, 2, 2, -8, 0]
def a3 : List Fl.Ark := arcK 3 [[0, 2, 4], [1, 5, 3]] (ringE 3) 6
def a4 : List Fl.Ark := arcK 4 [[0, 2, 4, 6], [1, 7, 5, 3]] (ringE 4) 8
theorem ring_s3 : netS 3 (ringE 3) (ringA 3) 1 = s3 ∧ netA 3 (ringE 3) (ringA 3) 1 = a3 := by
  have h := netS_ok (net_ok ring_n3) (by decide)
  rw [h.1, h.2, ring_f3]
  exact ⟨by decide +kernel, rfl⟩
theorem ring_s4 : netS 4 (ringE 4) (ringA 4) 0 = s4 ∧ netA 4 (ringE 4) (ringA 4) 0 = a4 := by
  have h := netS_ok (net_ok ring_n4) (by decide)
  rw [h.1, h.2, ring_f4]
  exact ⟨by decide +kernel, rfl⟩
def g3 : List Int := [2, 1, 0, 0, 2, 0, 0, 0, 2, 0, 0, 0]
def g4 : List Int := [0, 0, 2, 0, 0, 0, 2, 0, 0, 0, 2, 0, 0, 0, 2, 0]
def p3 (v : Nat) : Int := if v = 3 then 0 else 1
theorem fit_of {A : List Fl.Ark} {f : List Int} (h1 : f.length = A.length) (h2 : (List.range A.length).all (fun i => decide (0 ≤ Fl.ge f i) && decide (Fl.ge f i ≤ Fl.cap A i)) = true) : Fl.Fit A f := by
  refine ⟨h1, fun i hi => ?_⟩
  have := List.all_eq_true.1 h2 i (List.mem_range.2 hi)
  simpa using this
theorem exc_of {s : List Int} {A : List Fl.Ark} {f : List Int} (h : (List.range s.length).all (fun v => decide (Fl.exc s A f v = 0)) = true) : ∀ v, v < s.length → Fl.exc s A f v = 0 := fun v hv => by
  have := List.all_eq_true.1 h v (List.mem_range.2 hv)
  simpa using this
theorem flow3 : Fl.isFlow s3 a3 g3 := ⟨fit_of (by decide +kernel) (by decide +kernel), exc_of (by decide +kernel)⟩
theorem flow4 : Fl.isFlow s4 a4 g4 := ⟨fit_of (by decide +kernel) (by decide +kernel), exc_of (by decide +kernel)⟩
theorem pot3 : Fl.Pot a3 g3 p3 := by
  intro i b ⟨hi, hr⟩
  have h : (List.range a3.length).all (fun i => (decide (Fl.sR a3 g3 i true ≤ 0) || decide (0 ≤ Fl.sC a3 i true + p3 (Fl.sF a3 i true) - p3 (Fl.sT a3 i true))) && (decide (Fl.sR a3 g3 i false ≤ 0) || decide (0 ≤ Fl.sC a3 i false + p3 (Fl.sF a3 i false) - p3 (Fl.sT a3 i false)))) = true := by decide +kernel
  have := List.all_eq_true.1 h i (List.mem_range.2 hi)
  simp only [Bool.and_eq_true, Bool.or_eq_true, decide_eq_true_eq] at this
  cases b
  · rcases this.2 with k | k
    · omega
    · exact k
  · rcases this.1 with k | k
    · omega
    · exact k
theorem valid3 : Fl.vN s3 a3 := by have := net_valid (by decide) (by decide) ring_n3; rw [ring_s3.1, ring_s3.2] at this; exact this
theorem valid4 : Fl.vN s4 a4 := by have := net_valid (by decide) (by decide) ring_n4; rw [ring_s4.1, ring_s4.2] at this; exact this
theorem cost_nn {A : List Fl.Ark} {f : List Int} (hf : Fl.Fit A f) (hc : ∀ i, i < A.length → 0 ≤ Fl.cst A i) : 0 ≤ Fl.costF A f := by
  unfold Fl.costF
  exact Fl.sumN_nonneg fun i hi => Int.mul_nonneg (hf.b i hi).1 (hc i hi)
theorem ring_l4 {f : List Int} (h : Opt s4 a4 f) : Fl.costF a4 f = 0 := by
  obtain ⟨hf, π, hP⟩ := h
  have h1 := Fl.pot_least valid4 hP hf flow4
  rw [show Fl.costF a4 g4 = 0 by decide +kernel] at h1
  have h2 := cost_nn hf.1 (fun i hi => by
    have h : (List.range a4.length).all (fun i => decide (0 ≤ Fl.cst a4 i)) = true := by decide +kernel
    have := List.all_eq_true.1 h i (List.mem_range.2 hi)
    simpa using this)
  omega
theorem ring_l3 {f : List Int} (h : Opt s3 a3 f) : Fl.costF a3 f = 1 := by
  obtain ⟨hf, π, hP⟩ := h
  have h1 := Fl.pot_least valid3 hP hf flow3
  have h2 := Fl.pot_least valid3 pot3 flow3 hf
  rw [show Fl.costF a3 g3 = 1 by decide +kernel] at h1 h2
  omega
theorem nocut3 : ¬ Fl.Cut s3 a3 := fun h => h.no valid3 _ flow3
theorem nocut4 : ¬ Fl.Cut s4 a4 := fun h => h.no valid4 _ flow4
end Go.Proofs.YtiihgpgpbgafiaaDoor

/- Ring of the law. -/
namespace Go.Proofs.YtiihgpgpbgafiaaDoor
open Go.RowKit
attribute [local go_sem ↓] Go.wp_at_zero Go.wp_at_succ

theorem two_newsR {w : World} {g : Nat} {a b : Value} (h0 : w.cell? ⟨g, 0, none⟩ = some a) (h1 : w.cell? ⟨g, 1, none⟩ = some b) : ∀ q, some (⟨g, 0, none⟩ : Addr) = some q → ∀ j u, [a, b][j]? = some u → w.cell? (q.add j) = some u := by
  intro q hq j u hj
  cases hq
  rw [Addr.add_lit, Nat.zero_add]
  match j, hj with
  | 0, hj => simp at hj; subst hj; exact h0
  | 1, hj => simp at hj; subst hj; exact h1
theorem own_prsN {w : World} {B : Nat} {rs : List Row} {k n : Nat} {p : Option Addr} {c : Nat} {E : List (Int × Int)} (h : Owns w B rs) (hk : rs[k]? = some ⟨.slice p n c, 61, 2, n, arVs E⟩) (hn : E.length = n) (hm : n ≤ 100000) : Prs w p E := by
  subst hn
  exact own_prs h hk hm
theorem ringE_take {n v : Nat} (h : v < n) : (ringE n).take (v + 1) = (ringE n).take v ++ [((v : Int), (((v + 1) % n : Nat) : Int))] := by
  rw [List.take_succ_eq_append_getElem (by simp [ringE]; exact h)]
  congr 1
  simp [ringE]
theorem ringA_take {n v : Nat} (h : v < n) : (ringA n).take (v + 1) = (ringA n).take v ++ [[2 * (v : Int), 2 * (((v + n - 1) % n : Nat) : Int) + 1]] := by
  rw [List.take_succ_eq_append_getElem (by simp [ringA]; exact h)]
  congr 1
  simp [ringA]
theorem arVs_app (a b : List (Int × Int)) : arVs (a ++ b) = arVs a ++ arVs b := by simp [arVs]
abbrev rgR (g h : Nat) (n : Nat) (vE vO : Value) (v : Nat) (vals : List Value) : List Row :=
  ⟨vO, 28, 1, v, vals⟩ :: bx g 25 3 [.int .i64 n, vE, vO] :: ⟨vE, 61, 2, v, arVs ((ringE n).take v)⟩ :: bx h 25 3 [.int .i64 0, .slice none 0 0, .slice none 0 0] :: matRows vals ((ringA n).take v)
theorem rg_start (w : World) (n : Nat) : Owns ((w.alloc (.cells #[.int .i64 0, .slice none 0 0, .slice none 0 0] 25)).alloc (.cells #[.int .i64 n, .slice none 0 0, .slice none 0 0] 25)) w.heap.size (rgR (w.heap.size + 1) w.heap.size n (.slice none 0 0) (.slice none 0 0) 0 []) := by
  have h1 := ((Owns.nil w w.heap.size).made (Nat.le_refl _) #[.int .i64 0, .slice none 0 0, .slice none 0 0] 25 3 1 w.heap.size rfl (by decide) rfl)
  have h2 := h1.made (by first | rfl | omega | (simp <;> omega)) #[.int .i64 n, .slice none 0 0, .slice none 0 0] 25 3 1 (w.heap.size + 1) rfl (by decide) (by simp)
  have h3 := ((h2.perm (List.Perm.swap _ _ _)).none 61 2)
  have h4 := (h3.perm ((List.Perm.cons _ (List.Perm.swap _ _ _)).trans (List.Perm.swap _ _ _))).none 28 1
  exact h4
def RingPost (n : Nat) (w : World) (e : Ending) (w' : World) : Prop := Grew w w' ∧ ∃ pE cE pA cA, e = .returned (.agg #[.int .i64 n, .slice pE n cE, .slice pA n cA]) ∧ RotAt w' pE pA (ringE n) (ringA n)
theorem ringE_len (n : Nat) : (ringE n).length = n := by simp [ringE]
theorem ringA_len (n : Nat) : (ringA n).length = n := by simp [ringA]
set_option maxRecDepth 8000 in
set_option maxHeartbeats 16000000 in
theorem ring_w (n : Nat) (w : World) (hn : 3 ≤ n) (hn4 : n ≤ 4) : Calls Tryd.prog 27 #[.int .i64 n] w (RingPost n w) := by
  have Hst := Lib.hid (rg_start w n)
  have HG : Hid (Grew w ((w.alloc (.cells #[.int .i64 0, .slice none 0 0, .slice none 0 0] 25)).alloc (.cells #[.int .i64 n, .slice none 0 0, .slice none 0 0] 25))) := Lib.hid (by (repeat (first | exact gR _ | refine gO ?_ _ | refine gA ?_ _ | refine gD ?_ | refine gN ?_ _)))
  go_enter Tryd.func27, Tryd.ntmps27
  go_wp2
  obtain ⟨g, hg⟩ : ∃ g, w.heap.size + 1 = g := ⟨_, rfl⟩
  obtain ⟨wB, hwB⟩ : ∃ wB, (w.alloc (.cells #[.int .i64 0, .slice none 0 0, .slice none 0 0] 25)).alloc (.cells #[.int .i64 n, .slice none 0 0, .slice none 0 0] 25) = wB := ⟨_, rfl⟩
  rw [hwB, hg] at Hst
  rw [hwB] at HG
  rw [hwB, hg]
  clear hwB
  go_loopw [4] (fun kv wr => ∃ (v : Nat) (vE vO : Value) (vals : List Value), v ≤ n ∧ kv = .int .i64 v ∧ Grew w wr ∧ vals.length = v ∧ Owns wr w.heap.size (rgR g w.heap.size n vE vO v vals)) (fun kv _ => n - (intOf kv).toNat)
  case atStart => exact ⟨0, _, _, [], Nat.zero_le _, rfl, HG.out.trans (by (repeat (first | exact gR _ | refine gO ?_ _ | refine gA ?_ _ | refine gD ?_ | refine gN ?_ _))), rfl, Hst.out.grew (by (repeat (first | exact gR _ | refine gO ?_ _ | refine gA ?_ _ | refine gD ?_ | refine gN ?_ _)))⟩
  case round =>
    clear Hst HG
    obtain ⟨v, vE, vO, vals, hv, rfl, hgr, hvl, hOk⟩ := hrel
    obtain ⟨pO, cO, rfl⟩ := own_form hOk (k := 0) rfl
    obtain ⟨pX, cX, rfl⟩ := own_form hOk (k := 2) rfl
    have Hgr := Lib.hid hgr
    have HOk := Lib.hid hOk
    have Hvl := Lib.hid hvl
    have hszr := hgr.below.size
    have b1 := own_bx hOk (j := 1) rfl
    have hgl := b1.2.1
    have y0 := b1.2.2.2 0 _ rfl
    have y1 := b1.2.2.2 1 _ rfl
    have z1 := b1.2.2.1 1
    clear hgr hOk hvl b1
    by_cases hlt : v < n
    · obtain ⟨x1, hx1⟩ : ∃ x1 : Nat, (v + 1) % n = x1 := ⟨_, rfl⟩
      obtain ⟨x2, hx2⟩ : ∃ x2 : Nat, (v + n - 1) % n = x2 := ⟨_, rfl⟩
      have hx1l : x1 < n := by rw [← hx1]; exact Nat.mod_lt _ (by omega)
      have hx2l : x2 < n := by rw [← hx2]; exact Nat.mod_lt _ (by omega)
      have hvi : (v : Int) < (n : Int) := by omega
      have hwa : IntKind.i64.wrap ((v : Int) + 1) = (v : Int) + 1 := IntWalk.i64_in _ ⟨by omega, by omega⟩
      have hem : ((v : Int) + 1) % (n : Int) = (x1 : Int) := by rw [← hx1]; push_cast; rfl
      have het : ((v : Int) + 1).tmod (n : Int) = (x1 : Int) := by rw [Int.tmod_eq_emod_of_nonneg (by omega)]; exact hem
      have hnz : ((n : Int) == 0) = false := by rw [beq_eq_false_iff_ne]; omega
      have hnz2 : ¬ ((n : Int) = 0) := by omega
      have hnz3 : ¬ (n = 0) := by omega
      have HE1 : Hid (arVs ((ringE n).take (v + 1)) = arVs ((ringE n).take v) ++ [.int .i64 v, .int .i64 x1]) := Lib.hid (by rw [ringE_take hlt, arVs_app, hx1]; rfl)
      have HA1 : Hid ((ringA n).take (v + 1) = (ringA n).take v ++ [[2 * (v : Int), 2 * (x2 : Int) + 1]]) := Lib.hid (by rw [ringA_take hlt, hx2])
      clear hx1
      go_upto_region 5 with fail
      refine wp_region_T (s := 11) (S := fun w' => w'.cell? ⟨g, 1, none⟩ = some (.slice pX v cX)) (by kernel_rfl) (by simpa using y1) (fun hH => ?_)
      refine wpAnyT_takeL (i := 0) (v := ?_) rfl (by kernel_rfl) (by kernel_rfl) (by kernel_rfl) (by kernel_rfl) (fun _ _ _ h => h) (Or.inl ⟨by rfl, ?_⟩) (by assumption) ?_
      rotate_left
      · (intro w hSw; (try dsimp only at hSw); go_simp; (try with_reducible rfl))
      (try simp only [Act.put, List.setIfInBounds_toArray, List.set_cons_zero, List.set_cons_succ])
      refine wpAnyT_takeL (i := 1) (v := ?_) rfl (by kernel_rfl) (by kernel_rfl) (by kernel_rfl) (by kernel_rfl) (fun _ _ _ h => h) (Or.inl ⟨by rfl, ?_⟩) (by assumption) ?_
      rotate_left
      · (intro w hSw; (try dsimp only at hSw); go_simp; (try with_reducible rfl))
      (try simp only [Act.put, List.setIfInBounds_toArray, List.set_cons_zero, List.set_cons_succ])
      refine wpAnyT_takeL (i := 2) (v := ?_) rfl (by kernel_rfl) (by kernel_rfl) (by kernel_rfl) (by kernel_rfl) (fun _ _ _ h => h) (Or.inl ⟨by rfl, ?_⟩) (by assumption) ?_
      rotate_left
      · (intro w hSw; (try dsimp only at hSw); go_simp; (try with_reducible rfl))
      (try simp only [Act.put, List.setIfInBounds_toArray, List.set_cons_zero, List.set_cons_succ])
      refine wpAnyT_takeL (i := 3) (v := ?_) rfl (by kernel_rfl) (by kernel_rfl) (by kernel_rfl) (by kernel_rfl) (fun _ _ _ h => h) (Or.inl ⟨by rfl, ?_⟩) (by assumption) ?_
      rotate_left
      · (intro w hSw; (try dsimp only at hSw); go_simp; (try with_reducible rfl))
      (try simp only [Act.put, List.setIfInBounds_toArray, List.set_cons_zero, List.set_cons_succ])
      refine wpAnyT_takeL (i := 4) (v := ?_) rfl (by kernel_rfl) (by kernel_rfl) (by kernel_rfl) (by kernel_rfl) (fun _ _ _ h => h) (Or.inl ⟨by rfl, ?_⟩) (by assumption) ?_
      rotate_left
      · (intro w hSw; (try dsimp only at hSw); go_simp; (try with_reducible rfl))
      (try simp only [Act.put, List.setIfInBounds_toArray, List.set_cons_zero, List.set_cons_succ])
      refine wpAnyT_takeL (i := 5) (v := ?_) rfl (by kernel_rfl) (by kernel_rfl) (by kernel_rfl) (by kernel_rfl) (fun _ _ _ h => h) (Or.inl ⟨by rfl, ?_⟩) (by assumption) ?_
      rotate_left
      · (intro w hSw; (try dsimp only at hSw); go_simp; (try with_reducible rfl))
      (try simp only [Act.put, List.setIfInBounds_toArray, List.set_cons_zero, List.set_cons_succ])
      refine wpAnyT_takeL (i := 6) (v := ?_) rfl (by kernel_rfl) (by kernel_rfl) (by kernel_rfl) (by kernel_rfl) (fun _ _ _ h => h) (Or.inl ⟨by rfl, ?_⟩) (by assumption) ?_
      rotate_left
      · (intro w hSw; (try dsimp only at hSw); go_simp; (try with_reducible rfl))
      (try simp only [Act.put, List.setIfInBounds_toArray, List.set_cons_zero, List.set_cons_succ])
      refine wpAnyT_takeL (i := 7) (v := ?_) rfl (by kernel_rfl) (by kernel_rfl) (by kernel_rfl) (by kernel_rfl) (fun _ _ _ h => h) (Or.inl ⟨by rfl, ?_⟩) (by assumption) ?_
      rotate_left
      · (intro w hSw; (try dsimp only at hSw); go_simp; (try with_reducible rfl))
      (try simp only [Act.put, List.setIfInBounds_toArray, List.set_cons_zero, List.set_cons_succ])
      refine wpAnyT_all (rs := [8]) (by kernel_rfl) (by simp) (AllT.consL (i := 8) rfl (fun K hK => ?_) AllT.nil)
      go_simp
      refine hK.out _ _ ?_ (fun hH => ?_)
      · (first | (simp [go_sem, ↓IntWalk.iteOmega, *]; done) | go_keep)
      clear hK K
      (try simp only [Act.put, List.setIfInBounds_toArray, List.set_cons_zero, List.set_cons_succ])
      refine wpAnyT_all (rs := [9]) (by kernel_rfl) (by simp) (AllT.consL (i := 9) rfl (fun K hK => ?_) AllT.nil)
      refine step_append_owns rfl _ _ 22 (by rfl) 61 2 16 (.agg #[.int .i64 0, .int .i64 0]) Tryd.underlying22 Tryd.infoArc rfl (by decide) w.heap.size _ 2 _ _ _ (HOk.out.grew (by (repeat (first | exact gR _ | refine gO ?_ _ | refine gA ?_ _ | refine gD ?_ | refine gN ?_ _)))) rfl (by rfl) _ 1 1 (by rfl) [.int .i64 v, .int .i64 x1] rfl (fun h => by cases h) (two_newsR (by (simp [go_sem, ↓IntWalk.iteOmega])) (by (simp [go_sem, ↓IntWalk.iteOmega]))) (by simp [Value.oneCell']) (by simp only [maxLen]; omega) (by omega) (by first | rfl | omega | (simp <;> omega)) ?_; intro v1 w1 hO1 hg1 hb1 _; obtain ⟨p1, c1, rfl⟩ := own_form hO1 (k := 2) rfl; have b1 := own_bx hO1 (j := 1) rfl; have y1 := b1.2.2.2 1 _ rfl; have z1 := b1.2.2.1 1; have hgl1 := b1.2.1; have HO3 := Lib.hid hO1; have HG1 := Lib.hid (Grew.grownBy (w0 := w) (Hgr.out.trans (by (repeat (first | exact gR _ | refine gO ?_ _ | refine gA ?_ _ | refine gD ?_ | refine gN ?_ _)))) hg1 hb1); clear hO1 hg1 hb1 b1
      refine hK.out _ _ ?_ (fun hH => ?_)
      · (first | (simp [go_sem, ↓IntWalk.iteOmega, *]; done) | go_keep)
      clear hK K
      (try simp only [Act.put, List.setIfInBounds_toArray, List.set_cons_zero, List.set_cons_succ])
      refine wpAnyT_takeL (i := 10) (v := ?_) rfl (by kernel_rfl) (by kernel_rfl) (by kernel_rfl) (by kernel_rfl) (fun _ _ _ h => h) (Or.inl ⟨by rfl, ?_⟩) (by assumption) ?_
      rotate_left
      · (intro w hSw; (try dsimp only at hSw); go_simp; (try with_reducible rfl))
      (try simp only [Act.put, List.setIfInBounds_toArray, List.set_cons_zero, List.set_cons_succ])
      refine wpAnyT_all (rs := [11]) (by kernel_rfl) (by simp) (AllT.lastL rfl (fun K hK => ?_))
      go_simp
      refine hK.out _ _ ?_
      clear hK K
      (try simp only [Act.put, List.setIfInBounds_toArray, List.set_cons_zero, List.set_cons_succ])
      refine wpAnyT_done (by kernel_rfl) ?_ _
      have HO4 := Lib.hid (HO3.out.set (k := 1) rfl 1 (.slice p1 (v + 1) c1))
      have HG4 := Lib.hid (Owns.setGrew HO3.out (Nat.le_refl _) HG1.out (k := 1) rfl 1 (.slice p1 (v + 1) c1))
      obtain ⟨w8, hw8⟩ : ∃ w8, w1.setCell ⟨g, 1, none⟩ (.slice p1 (v + 1) c1) = w8 := ⟨_, rfl⟩
      rw [hw8] at HO4 HG4 ⊢
      clear hw8 y0 y1 z1 hem het
      have b1 := own_bx HO4.out (j := 1) rfl
      have y2 := b1.2.2.2 2 _ rfl
      have z2 := b1.2.2.1 2
      have hgl8 := b1.2.1
      have hsz8 := HG4.out.below.size
      clear b1
      have hwb : IntKind.i64.wrap (2 * (v : Int)) = 2 * (v : Int) := IntWalk.i64_in _ ⟨by omega, by omega⟩
      have hwc : IntKind.i64.wrap ((v : Int) + (n : Int)) = (v : Int) + (n : Int) := IntWalk.i64_in _ ⟨by omega, by omega⟩
      have hwd : IntKind.i64.wrap ((v : Int) + (n : Int) - 1) = (v : Int) + (n : Int) - 1 := IntWalk.i64_in _ ⟨by omega, by omega⟩
      have hwe : IntKind.i64.wrap (2 * (x2 : Int)) = 2 * (x2 : Int) := IntWalk.i64_in _ ⟨by omega, by omega⟩
      have hwf : IntKind.i64.wrap (2 * (x2 : Int) + 1) = 2 * (x2 : Int) + 1 := IntWalk.i64_in _ ⟨by omega, by omega⟩
      have hem : ((v : Int) + (n : Int) - 1) % (n : Int) = (x2 : Int) := by rw [← hx2, Int.natCast_emod]; congr 1; omega
      have het : ((v : Int) + (n : Int) - 1).tmod (n : Int) = (x2 : Int) := by rw [Int.tmod_eq_emod_of_nonneg (by omega)]; exact hem
      clear hx2
      go_upto_region 6 with fail
      refine wp_region_T (s := 16) (S := fun w' => w'.cell? ⟨g, 2, none⟩ = some (.slice pO v cO)) (by kernel_rfl) (by simpa using y2) (fun hH => ?_)
      refine wpAnyT_takeL (i := 0) (v := ?_) rfl (by kernel_rfl) (by kernel_rfl) (by kernel_rfl) (by kernel_rfl) (fun _ _ _ h => h) (Or.inl ⟨by rfl, ?_⟩) (by assumption) ?_
      rotate_left
      · (intro w hSw; (try dsimp only at hSw); go_simp; (try with_reducible rfl))
      (try simp only [Act.put, List.setIfInBounds_toArray, List.set_cons_zero, List.set_cons_succ])
      refine wpAnyT_takeL (i := 1) (v := ?_) rfl (by kernel_rfl) (by kernel_rfl) (by kernel_rfl) (by kernel_rfl) (fun _ _ _ h => h) (Or.inl ⟨by rfl, ?_⟩) (by assumption) ?_
      rotate_left
      · (intro w hSw; (try dsimp only at hSw); go_simp; (try with_reducible rfl))
      (try simp only [Act.put, List.setIfInBounds_toArray, List.set_cons_zero, List.set_cons_succ])
      refine wpAnyT_takeL (i := 2) (v := ?_) rfl (by kernel_rfl) (by kernel_rfl) (by kernel_rfl) (by kernel_rfl) (fun _ _ _ h => h) (Or.inl ⟨by rfl, ?_⟩) (by assumption) ?_
      rotate_left
      · (intro w hSw; (try dsimp only at hSw); go_simp; (try with_reducible rfl))
      (try simp only [Act.put, List.setIfInBounds_toArray, List.set_cons_zero, List.set_cons_succ])
      refine wpAnyT_takeL (i := 3) (v := ?_) rfl (by kernel_rfl) (by kernel_rfl) (by kernel_rfl) (by kernel_rfl) (fun _ _ _ h => h) (Or.inl ⟨by rfl, ?_⟩) (by assumption) ?_
      rotate_left
      · (intro w hSw; (try dsimp only at hSw); go_simp; (try with_reducible rfl))
      (try simp only [Act.put, List.setIfInBounds_toArray, List.set_cons_zero, List.set_cons_succ])
      refine wpAnyT_takeL (i := 4) (v := ?_) rfl (by kernel_rfl) (by kernel_rfl) (by kernel_rfl) (by kernel_rfl) (fun _ _ _ h => h) (Or.inl ⟨by rfl, ?_⟩) (by assumption) ?_
      rotate_left
      · (intro w hSw; (try dsimp only at hSw); go_simp; (try with_reducible rfl))
      (try simp only [Act.put, List.setIfInBounds_toArray, List.set_cons_zero, List.set_cons_succ])
      refine wpAnyT_takeL (i := 5) (v := ?_) rfl (by kernel_rfl) (by kernel_rfl) (by kernel_rfl) (by kernel_rfl) (fun _ _ _ h => h) (Or.inl ⟨by rfl, ?_⟩) (by assumption) ?_
      rotate_left
      · (intro w hSw; (try dsimp only at hSw); go_simp; (try with_reducible rfl))
      (try simp only [Act.put, List.setIfInBounds_toArray, List.set_cons_zero, List.set_cons_succ])
      refine wpAnyT_takeL (i := 6) (v := ?_) rfl (by kernel_rfl) (by kernel_rfl) (by kernel_rfl) (by kernel_rfl) (fun _ _ _ h => h) (Or.inl ⟨by rfl, ?_⟩) (by assumption) ?_
      rotate_left
      · (intro w hSw; (try dsimp only at hSw); go_simp; (try with_reducible rfl))
      (try simp only [Act.put, List.setIfInBounds_toArray, List.set_cons_zero, List.set_cons_succ])
      refine wpAnyT_takeL (i := 7) (v := ?_) rfl (by kernel_rfl) (by kernel_rfl) (by kernel_rfl) (by kernel_rfl) (fun _ _ _ h => h) (Or.inl ⟨by rfl, ?_⟩) (by assumption) ?_
      rotate_left
      · (intro w hSw; (try dsimp only at hSw); go_simp; (try with_reducible rfl))
      (try simp only [Act.put, List.setIfInBounds_toArray, List.set_cons_zero, List.set_cons_succ])
      refine wpAnyT_takeL (i := 8) (v := ?_) rfl (by kernel_rfl) (by kernel_rfl) (by kernel_rfl) (by kernel_rfl) (fun _ _ _ h => h) (Or.inl ⟨by rfl, ?_⟩) (by assumption) ?_
      rotate_left
      · (intro w hSw; (try dsimp only at hSw); go_simp; (try with_reducible rfl))
      (try simp only [Act.put, List.setIfInBounds_toArray, List.set_cons_zero, List.set_cons_succ])
      refine wpAnyT_takeL (i := 9) (v := ?_) rfl (by kernel_rfl) (by kernel_rfl) (by kernel_rfl) (by kernel_rfl) (fun _ _ _ h => h) (Or.inl ⟨by rfl, ?_⟩) (by assumption) ?_
      rotate_left
      · (intro w hSw; (try dsimp only at hSw); go_simp; (try with_reducible rfl))
      (try simp only [Act.put, List.setIfInBounds_toArray, List.set_cons_zero, List.set_cons_succ])
      refine wpAnyT_takeL (i := 10) (v := ?_) rfl (by kernel_rfl) (by kernel_rfl) (by kernel_rfl) (by kernel_rfl) (fun _ _ _ h => h) (Or.inl ⟨by rfl, ?_⟩) (by assumption) ?_
      rotate_left
      · (intro w hSw; (try dsimp only at hSw); go_simp; (try with_reducible rfl))
      (try simp only [Act.put, List.setIfInBounds_toArray, List.set_cons_zero, List.set_cons_succ])
      refine wpAnyT_takeL (i := 11) (v := ?_) rfl (by kernel_rfl) (by kernel_rfl) (by kernel_rfl) (by kernel_rfl) (fun _ _ _ h => h) (Or.inl ⟨by rfl, ?_⟩) (by assumption) ?_
      rotate_left
      · (intro w hSw; (try dsimp only at hSw); go_simp; (try with_reducible rfl))
      (try simp only [Act.put, List.setIfInBounds_toArray, List.set_cons_zero, List.set_cons_succ])
      have HO5 := Lib.hid (HO4.out.made hsz8 #[.int .i64 (2 * (v : Int)), .int .i64 (2 * (x2 : Int) + 1)] 3 1 2 w8.heap.size rfl (by decide) rfl)
      refine wpAnyT_all (rs := [12]) (by kernel_rfl) (by simp) (AllT.consL (i := 12) rfl (fun K hK => ?_) AllT.nil)
      go_simp
      refine hK.out _ _ ?_ (fun hH => ?_)
      · (first | (simp [go_sem, ↓IntWalk.iteOmega, *]; done) | go_keep)
      clear hK K
      (try simp only [Act.put, List.setIfInBounds_toArray, List.set_cons_zero, List.set_cons_succ])
      refine wpAnyT_all (rs := [13]) (by kernel_rfl) (by simp) (AllT.consL (i := 13) rfl (fun K hK => ?_) AllT.nil)
      go_simp
      refine hK.out _ _ ?_ (fun hH => ?_)
      · (first | (simp [go_sem, ↓IntWalk.iteOmega, *]; done) | go_keep)
      clear hK K
      (try simp only [Act.put, List.setIfInBounds_toArray, List.set_cons_zero, List.set_cons_succ])
      refine wpAnyT_all (rs := [14]) (by kernel_rfl) (by simp) (AllT.consL (i := 14) rfl (fun K hK => ?_) AllT.nil)
      refine step_append_owns rfl _ _ 23 (by rfl) 28 1 24 (.slice none 0 0) Tryd.underlying23 Tryd.infoInts rfl (by decide) w.heap.size _ 1 _ _ _ (HO5.out.grew (by (repeat (first | exact gR _ | refine gO ?_ _ | refine gA ?_ _ | refine gD ?_ | refine gN ?_ _)))) rfl (by rfl) _ 1 1 (by rfl) [.slice (some ⟨w8.heap.size, 0, none⟩) 2 2] rfl (fun h => by cases h) (one_news _ (by (simp [go_sem, ↓IntWalk.iteOmega]))) (by simp [Value.oneCell']) (by simp only [maxLen]; omega) (by omega) (by first | rfl | omega | (simp <;> omega)) ?_; intro v2 w9 hO2 hg2 hb2 _; obtain ⟨p2, c2, rfl⟩ := own_form hO2 (k := 1) rfl; have b1 := own_bx hO2 (j := 2) rfl; have y2 := b1.2.2.2 2 _ rfl; have z2 := b1.2.2.1 2; have hgl2 := b1.2.1; have HO6 := Lib.hid hO2; have HG6 := Lib.hid (Grew.grownBy (w0 := w) (HG4.out.trans (by (repeat (first | exact gR _ | refine gO ?_ _ | refine gA ?_ _ | refine gD ?_ | refine gN ?_ _)))) hg2 hb2); clear hO2 hg2 hb2 b1
      refine hK.out _ _ ?_ (fun hH => ?_)
      · (first | (simp [go_sem, ↓IntWalk.iteOmega, *]; done) | go_keep)
      clear hK K
      (try simp only [Act.put, List.setIfInBounds_toArray, List.set_cons_zero, List.set_cons_succ])
      clear hwa hwb hwc hwd hwe hwf hem het
      refine wpAnyT_takeL (i := 15) (v := ?_) rfl (by kernel_rfl) (by kernel_rfl) (by kernel_rfl) (by kernel_rfl) (fun _ _ _ h => h) (Or.inl ⟨by rfl, ?_⟩) (by assumption) ?_
      rotate_left
      · (intro w hSw; (try dsimp only at hSw); go_simp; (try with_reducible rfl))
      (try simp only [Act.put, List.setIfInBounds_toArray, List.set_cons_zero, List.set_cons_succ])
      refine wpAnyT_all (rs := [16]) (by kernel_rfl) (by simp) (AllT.lastL rfl (fun K hK => ?_))
      go_simp
      refine hK.out _ _ ?_
      clear hK K
      (try simp only [Act.put, List.setIfInBounds_toArray, List.set_cons_zero, List.set_cons_succ])
      refine wpAnyT_done (by kernel_rfl) ?_ _
      go_wp2
      go_roundw
      case rel => exact ⟨v + 1, .slice p1 (v + 1) c1, .slice p2 (v + 1) c2, vals ++ [.slice (some ⟨w8.heap.size, 0, none⟩) 2 2], by omega, by go_num, (Owns.setGrew HO6.out (Nat.le_refl _) HG6.out (k := 2) rfl 2 (.slice p2 (v + 1) c2)).trans (by (repeat (first | exact gR _ | refine gO ?_ _ | refine gA ?_ _ | refine gD ?_ | refine gN ?_ _))), by rw [List.length_append, Hvl.out]; rfl, by
        have hz := (HO6.out.set (k := 2) rfl 2 (.slice p2 (v + 1) c2)).perm (List.perm_append_singleton _ _).symm
        have hm := matRows_snoc (vals := vals) (m := (ringA n).take v) (by rw [Hvl.out, List.length_take, ringA_len]; omega) (.slice (some ⟨w8.heap.size, 0, none⟩) 2 2) [2 * (v : Int), 2 * (x2 : Int) + 1]
        unfold rgR
        rw [HA1.out, hm, HE1.out]
        exact hz.grew (by (repeat (first | exact gR _ | refine gO ?_ _ | refine gA ?_ _ | refine gD ?_ | refine gN ?_ _)))⟩
      case measure => (simp [intOf] <;> omega)
    · obtain rfl : v = n := by omega
      have b4 := own_bx HOk.out (j := 3) rfl
      have r0 := b4.2.2.2 0 _ rfl
      have r1 := b4.2.2.2 1 _ rfl
      have r2 := b4.2.2.2 2 _ rfl
      have r3 := b4.2.2.1 0
      have r4 := b4.2.2.1 1
      have r5 := b4.2.2.1 2
      have hrl := b4.2.1
      have b1 := own_bx HOk.out (j := 1) rfl
      have y2 := b1.2.2.2 2 _ rfl
      have HF1 := Lib.hid (((HOk.out.set (k := 3) rfl 0 (.int .i64 v)).set (k := 3) rfl 1 (.slice pX v cX)).set (k := 3) rfl 2 (.slice pO v cO))
      have g1 := Owns.setGrew HOk.out (Nat.le_refl _) Hgr.out (k := 3) rfl 0 (.int .i64 v)
      have g2 := Owns.setGrew (HOk.out.set (k := 3) rfl 0 (.int .i64 v)) (Nat.le_refl _) g1 (k := 3) rfl 1 (.slice pX v cX)
      have HF2 := Lib.hid (Owns.setGrew ((HOk.out.set (k := 3) rfl 0 (.int .i64 v)).set (k := 3) rfl 1 (.slice pX v cX)) (Nat.le_refl _) g2 (k := 3) rfl 2 (.slice pO v cO))
      clear b4 b1 g1 g2
      go_wp2
      refine bodyPost_ret (v := .agg #[.int .i64 v, .slice pX v cX, .slice pO v cO]) (by simp [results, Tryd.results27, go_sem, ↓IntWalk.iteOmega, y0, y1, y2, r0, r1, r2, r3, r4, r5]) rfl ?_
      have hF1 := HF1.out.grew (show Grew _ _ by (repeat (first | exact gR _ | refine gO ?_ _ | refine gA ?_ _ | refine gD ?_ | refine gN ?_ _)))
      have hel := ringE_len v
      have hal := ringA_len v
      have h2 := Owns.tail (Owns.tail hF1)
      rw [show (ringE v).take v = ringE v from List.take_of_length_le (by omega)] at h2
      have hP := own_prsN (k := 0) (E := ringE v) (p := pX) (c := cX) h2 rfl hel (by omega)
      have hM := hF1.perm (List.Perm.cons _ (List.perm_append_comm (l₁ := [_, _, _]) (l₂ := matRows vals ((ringA v).take v))))
      rw [show (ringA v).take v = ringA v from List.take_of_length_le (by omega)] at hM
      obtain ⟨qa, ca, ea, hA⟩ := mat_of_owns (m := ringA v) (by rw [Hvl.out, hal]) (fun l hl x hx => by
        unfold ringA at hl
        obtain ⟨u, hu, rfl⟩ := List.mem_map.1 hl
        have hu2 := List.mem_range.1 hu
        have hm2 : (u + v - 1) % v < v := Nat.mod_lt _ (by omega)
        simp only [List.mem_cons, List.not_mem_nil, or_false] at hx
        rcases hx with rfl | rfl <;> omega) (by rw [hal]; exact hM)
      rw [hal] at ea
      simp only [Value.slice.injEq, true_and] at ea
      obtain ⟨rfl, rfl⟩ := ea
      refine ⟨HF2.out.trans (by (repeat (first | exact gR _ | refine gO ?_ _ | refine gA ?_ _ | refine gD ?_ | refine gN ?_ _))), pX, cX, pO, cO, rfl, hP, hA, by omega, by omega, fun u hu => ?_⟩
      rw [rowOf_eq _ hu]
      simp [ringA]
end Go.Proofs.YtiihgpgpbgafiaaDoor

/- awake, small; BendNets. -/
namespace Go.Proofs.YtiihgpgpbgafiaaDoor
open Go.RowKit
attribute [local go_sem ↓] Go.wp_at_zero Go.wp_at_succ

theorem ring4_w (w : World) : Calls Tryd.prog 27 #[.int .i64 4] w fun e w' => Grew w w' ∧ ∃ pE cE pA cA, e = .returned (.agg #[.int .i64 4, .slice pE 4 cE, .slice pA 4 cA]) ∧ RotAt w' pE pA (ringE 4) (ringA 4) := ring_w 4 w (by omega) (by omega)
theorem ring3_w (w : World) : Calls Tryd.prog 27 #[.int .i64 3] w fun e w' => Grew w w' ∧ ∃ pE cE pA cA, e = .returned (.agg #[.int .i64 3, .slice pE 3 cE, .slice pA 3 cA]) ∧ RotAt w' pE pA (ringE 3) (ringA 3) := ring_w 3 w (by omega) (by omega)
theorem least4_w (pE pA : Option Addr) (cE cA : Nat) (w : World) (hR : RotAt w pE pA (ringE 4) (ringA 4)) (hL : Lim w) : Calls Tryd.prog 20 #[.agg #[.int .i64 4, .slice pE 4 cE, .slice pA 4 cA], .int .i64 0] w fun e w' => e = .returned (.tuple #[.int .i64 0, .int .i64 0]) ∧ Grew w w' := by
  have h := least_p 4 pE pA 4 4 cE cA (ringE 4) (ringA 4) 0 w hR hL (net_valid (by decide) (by decide)) rfl rfl (by decide) (by decide)
  rw [ring_s4.1, ring_s4.2, ring_n4] at h
  refine h.mono fun e w' ⟨hG, hr⟩ => ⟨?_, hG⟩
  rcases hr with ⟨k, _⟩ | ⟨_, k, _⟩ | ⟨_, _, f, h1, h2⟩
  · exact absurd rfl k
  · exact absurd k nocut4
  · rw [h2, ring_l4 h1]
theorem least3_w (pE pA : Option Addr) (cE cA : Nat) (w : World) (hR : RotAt w pE pA (ringE 3) (ringA 3)) (hL : Lim w) : Calls Tryd.prog 20 #[.agg #[.int .i64 3, .slice pE 3 cE, .slice pA 3 cA], .int .i64 1] w fun e w' => e = .returned (.tuple #[.int .i64 1, .int .i64 0]) ∧ Grew w w' := by
  have h := least_p 3 pE pA 3 3 cE cA (ringE 3) (ringA 3) 1 w hR hL (net_valid (by decide) (by decide)) rfl rfl (by decide) (by decide)
  rw [ring_s3.1, ring_s3.2, ring_n3] at h
  refine h.mono fun e w' ⟨hG, hr⟩ => ⟨?_, hG⟩
  rcases hr with ⟨k, _⟩ | ⟨_, k, _⟩ | ⟨_, _, f, h1, h2⟩
  · exact absurd rfl k
  · exact absurd k nocut3
  · rw [h2, ring_l3 h1]
theorem solve4_w (pE pA : Option Addr) (cE cA : Nat) (w : World) (hR : RotAt w pE pA (ringE 4) (ringA 4)) (hL : Lim w) : Calls Tryd.prog 19 #[.agg #[.int .i64 4, .slice pE 4 cE, .slice pA 4 cA], .int .i64 0] w fun e w' => Grew w w' ∧ ∃ pX cX pY cY pG cG pB cB, e = .returned (.tuple #[.agg #[.int .i64 4, .slice pX 4 cX, .slice pY 4 cY, .slice pG 8 cG, .slice pB 8 cB, .int .i64 0], .int .i64 0]) := by
  have h := solve40_p 4 pE pA 4 4 cE cA (ringE 4) (ringA 4) 0 w hR hL rfl rfl (by decide) (by decide)
  unfold SolvePost at h
  rw [ring_s4.1, ring_s4.2, ring_n4] at h
  refine h.mono fun e w' ⟨hG, hr⟩ => ⟨hG, ?_⟩
  rcases hr with ⟨k, _⟩ | ⟨_, k, _⟩ | ⟨_, f, h1, pX, cX, pY, cY, pG, cG, pB, cB, h2, _⟩
  · exact absurd rfl k
  · exact absurd k nocut4
  · exact ⟨pX, cX, pY, cY, pG, cG, pB, cB, h2⟩
set_option maxRecDepth 8000 in
set_option maxHeartbeats 8000000 in
theorem awake_l (w : World) (hL : Lim w) : Calls Tryd.prog 9 #[] w fun e w' => e = .returned (.bool true) ∧ Grew w w' := by
  have HL := Lib.hid hL
  clear hL
  go_enter Tryd.func9, Tryd.ntmps9
  go_wp2_with (first
    | (go_at_call 27; apply Calls.mono; (with_reducible exact ring4_w _); rintro e w1 ⟨hg1, pE, cE, pA, cA, rfl, hR⟩; have HR := Lib.hid hR; clear hR; obtain ⟨x1, rfl⟩ := hg1)
    | (go_at_call 27; apply Calls.mono; (with_reducible exact ring3_w _); rintro e w1 ⟨hg1, pE3, cE3, pA3, cA3, rfl, hR⟩; have HR3 := Lib.hid hR; clear hR; obtain ⟨x1, rfl⟩ := hg1)
    | (go_at_call 20; apply Calls.mono; (with_reducible exact least4_w _ _ _ _ _ (HR.out.grew (by (repeat (first | exact gR _ | refine gO ?_ _ | refine gA ?_ _ | refine gD ?_ | refine gN ?_ _)))) (HL.out.grew (by (repeat (first | exact gR _ | refine gO ?_ _ | refine gA ?_ _ | refine gD ?_ | refine gN ?_ _))))); rintro e w2 ⟨rfl, x2, rfl⟩)
    | (go_at_call 20; apply Calls.mono; (with_reducible exact least3_w _ _ _ _ _ (HR3.out.grew (by (repeat (first | exact gR _ | refine gO ?_ _ | refine gA ?_ _ | refine gD ?_ | refine gN ?_ _)))) (HL.out.grew (by (repeat (first | exact gR _ | refine gO ?_ _ | refine gA ?_ _ | refine gD ?_ | refine gN ?_ _))))); rintro e w2 ⟨rfl, x2, rfl⟩)
    | (go_at_call 19; apply Calls.mono; (with_reducible exact solve4_w _ _ _ _ _ (HR.out.grew (by (repeat (first | exact gR _ | refine gO ?_ _ | refine gA ?_ _ | refine gD ?_ | refine gN ?_ _)))) (HL.out.grew (by (repeat (first | exact gR _ | refine gO ?_ _ | refine gA ?_ _ | refine gD ?_ | refine gN ?_ _))))); rintro e w3 ⟨⟨x3, rfl⟩, pX, cX, pY, cY, pG, cG, pB, cB, rfl⟩))
  go_ret
  exact ⟨rfl, by (repeat (first | exact gR _ | refine gO ?_ _ | refine gA ?_ _ | refine gD ?_ | refine gN ?_ _))⟩

def smallB (N : Int) (E : List (Int × Int)) (A : List (List Int)) : Bool := decide (N ≤ 12 ∧ E.length ≤ 24 ∧ A.length ≤ 12 ∧ ∀ v, v < A.length → (rowOf A v).length ≤ 60)
set_option maxHeartbeats 4000000 in
theorem small_l (N : Int) (pE pA : Option Addr) (nE nA cE cA : Nat) (E : List (Int × Int)) (A : List (List Int)) (w : World) (hA : Mat w pA A) (hnE : E.length = nE) (hnA : A.length = nA) :
    Calls Tryd.prog 8 #[.agg #[.int .i64 N, .slice pE nE cE, .slice pA nA cA]] w fun e w' => e = .returned (.bool (smallB N E A)) ∧ Grew w w' := by
  subst hnE hnA
  have HA := Lib.hid hA
  have hm := hA.1
  clear hA
  by_cases h1 : 12 < N
  · have Hf : Hid (smallB N E A = false) := Lib.hid (decide_eq_false (fun h => by omega))
    go_enter Tryd.func8, Tryd.ntmps8
    go_wp2
    go_ret
    exact ⟨by rw [Hf.out]; rfl, by (repeat (first | exact gR _ | refine gO ?_ _ | refine gA ?_ _ | refine gD ?_ | refine gN ?_ _))⟩
  by_cases h2 : 24 < E.length
  · have Hf : Hid (smallB N E A = false) := Lib.hid (decide_eq_false (fun h => by omega))
    have h2i : (24 : Int) < (E.length : Int) := by omega
    go_enter Tryd.func8, Tryd.ntmps8
    go_wp2
    go_ret
    exact ⟨by rw [Hf.out]; rfl, by (repeat (first | exact gR _ | refine gO ?_ _ | refine gA ?_ _ | refine gD ?_ | refine gN ?_ _))⟩
  by_cases h3 : 12 < A.length
  · have Hf : Hid (smallB N E A = false) := Lib.hid (decide_eq_false (fun h => by omega))
    have h3i : (12 : Int) < (A.length : Int) := by omega
    go_enter Tryd.func8, Tryd.ntmps8
    go_wp2
    go_ret
    exact ⟨by rw [Hf.out]; rfl, by (repeat (first | exact gR _ | refine gO ?_ _ | refine gA ?_ _ | refine gD ?_ | refine gN ?_ _))⟩
  go_enter Tryd.func8, Tryd.ntmps8
  go_wp2
  go_loop [3] (fun i => ∃ v : Nat, v ≤ A.length ∧ i = .int .i64 v ∧ ∀ u, u < v → (rowOf A u).length ≤ 60) (fun i => A.length - (intOf i).toNat)
  case atStart => exact ⟨0, Nat.zero_le _, rfl, fun u hu => by omega⟩
  case round =>
    obtain ⟨v, hv, rfl, hall⟩ := hrel
    have Hall := Lib.hid hall
    clear hall
    by_cases hlv : v < A.length
    · obtain ⟨bA, oA, rp, rc, rfl, lA, cA'⟩ := HA.out.rows (by omega)
      obtain ⟨a1, a2⟩ := cA' w (Grew.refl _) v hlv
      obtain ⟨rv, hrv⟩ : ∃ rv, rp v = rv := ⟨_, rfl⟩
      rw [hrv] at a1
      obtain ⟨ln, hln⟩ : ∃ ln, (rowOf A v).length = ln := ⟨_, rfl⟩
      have hlm : ln ≤ 9223372036854775807 := by rw [← hln]; exact a2.1
      rw [hln] at a1
      have Hln := Lib.hid hln
      by_cases h4 : 60 < ln
      · have Hf : Hid (smallB N E A = false) := Lib.hid (decide_eq_false (fun h => by have := h.2.2.2 v hlv; rw [Hln.out] at this; omega))
        have h4i : (60 : Int) < (ln : Int) := by omega
        clear cA' a2 hrv hln
        go_wp2
        go_ret
        exact ⟨by rw [Hf.out]; rfl, by (repeat (first | exact gR _ | refine gO ?_ _ | refine gA ?_ _ | refine gD ?_ | refine gN ?_ _))⟩
      · have h4i : ¬ (60 : Int) < (ln : Int) := by omega
        clear cA' a2 hrv hln
        go_wp2
        go_round
        case rel => exact ⟨v + 1, by omega, by go_num, fun u hu => by
          by_cases h : u = v
          · rw [h, Hln.out]; omega
          · exact Hall.out u (by omega)⟩
        case measure => (simp [intOf] <;> omega)
    · have Hf : Hid (smallB N E A = true) := Lib.hid (decide_eq_true ⟨by omega, by omega, by omega, fun u hu => Hall.out u (by omega)⟩)
      go_wp2
      go_ret
      exact ⟨by rw [Hf.out]; rfl, by (repeat (first | exact gR _ | refine gO ?_ _ | refine gA ?_ _ | refine gD ?_ | refine gN ?_ _))⟩

set_option maxRecDepth 8000 in
set_option maxHeartbeats 8000000 in
theorem netsL (N : Int) (pE pA : Option Addr) (nE nA cE cA : Nat) (E : List (Int × Int)) (A : List (List Int)) (o : Int) (w : World) (hE : Prs w pE E) (hM : Mat w pA A) (hL : Lim w) (hnE : E.length = nE) (hnA : A.length = nA) :
    Calls Tryd.prog 3 #[.agg #[.int .i64 N, .slice pE nE cE, .slice pA nA cA], .int .i64 o] w fun e w' => e = .returned (.bool true) ∧ Grew w w' := by
  have HL := Lib.hid hL
  obtain ⟨b, hb⟩ : ∃ b, smallB N E A = b := ⟨_, rfl⟩
  have Hs : Hid (∀ W1, Grew w W1 → Calls Tryd.prog 8 #[.agg #[.int .i64 N, .slice pE nE cE, .slice pA nA cA]] W1 fun e w' => e = .returned (.bool b) ∧ Grew W1 w') := Lib.hid (fun W1 h => by rw [← hb]; exact small_l _ _ _ _ _ _ _ _ _ _ (hM.grew h) hnE hnA)
  have Haw : Hid (∀ W1, Grew w W1 → Calls Tryd.prog 9 #[] W1 fun e w' => e = .returned (.bool true) ∧ Grew W1 w') := Lib.hid (fun W1 h => awake_l W1 (HL.out.grew h))
  cases b
  · clear hE hM hL hb
    go_enter Tryd.func3, Tryd.ntmps3
    go_wp2_with (first
      | ((go_at_call 8; apply Calls.mono; (with_reducible exact Hs.out _ (by (repeat (first | exact gR _ | refine gO ?_ _ | refine gA ?_ _ | refine gD ?_ | refine gN ?_ _)))); rintro e w' ⟨rfl, x, rfl⟩))
      | ((go_at_call 9; apply Calls.mono; (with_reducible exact Haw.out _ (by (repeat (first | exact gR _ | refine gO ?_ _ | refine gA ?_ _ | refine gD ?_ | refine gN ?_ _)))); rintro e w' ⟨rfl, x, rfl⟩)))
    go_ret
    exact ⟨rfl, by (repeat (first | exact gR _ | refine gO ?_ _ | refine gA ?_ _ | refine gD ?_ | refine gN ?_ _))⟩
  · have hsm := of_decide_eq_true hb
    have HR : Hid (RotAt w pE pA E A) := Lib.hid ⟨hE, hM, by omega, by omega, fun v hv => by have := hsm.2.2.2 v hv; omega⟩
    have hE3 : E.length ≤ 30 := by omega
    have hA3 : A.length ≤ 30 := by omega
    have Hp := Lib.hid (fun (W1 : World) (h : Grew w W1) => net_p N pE pA nE nA cE cA E A o W1 (HR.out.grew h) (HL.out.grew h) hnE hnA hE3 hA3)
    have Hr := Lib.hid (fun (W1 : World) (h : Grew w W1) => net_r N pE pA nE nA cE cA E A o W1 (HR.out.grew h) hnE hnA hE3 hA3)
    obtain ⟨er, her⟩ : ∃ er, netE N E A o = er := ⟨_, rfl⟩
    obtain ⟨s, hs⟩ : ∃ s, netS N E A o = s := ⟨_, rfl⟩
    obtain ⟨a, ha⟩ : ∃ a, netA N E A o = a := ⟨_, rfl⟩
    rw [her, hs, ha] at Hp Hr
    clear hE hM hL hb hsm her hs ha hnE hnA hE3 hA3
    go_enter Tryd.func3, Tryd.ntmps3
    go_wp2_with (first
      | ((go_at_call 8; apply Calls.mono; (with_reducible exact Hs.out _ (by (repeat (first | exact gR _ | refine gO ?_ _ | refine gA ?_ _ | refine gD ?_ | refine gN ?_ _)))); rintro e w' ⟨rfl, x, rfl⟩))
      | (go_at_call 10; apply Calls.mono; (with_reducible exact Hp.out _ (by (repeat (first | exact gR _ | refine gO ?_ _ | refine gA ?_ _ | refine gD ?_ | refine gN ?_ _)))); rintro e w2 ⟨hg2, pS, cS, qA, cQ, rfl, hS, hA2, hnil⟩; have HS := Lib.hid (show Ints _ pS s from hS); have HA := Lib.hid hA2; clear hS hA2 hnil; obtain ⟨x2, rfl⟩ := hg2)
      | (go_at_call 11; apply Calls.mono; (with_reducible exact Hr.out _ (by (repeat (first | exact gR _ | refine gO ?_ _ | refine gA ?_ _ | refine gD ?_ | refine gN ?_ _)))); rintro e w3 ⟨hg3, pS2, cS2, qA2, cQ2, rfl, hS, hA2, hnil⟩; have HS2 := Lib.hid (show Ints _ pS2 s from hS); have HA2 := Lib.hid hA2; clear hS hA2 hnil; obtain ⟨x3, rfl⟩ := hg3)
      | (go_at_call 12; apply Calls.mono; (with_reducible exact samenet_t pS qA pS2 qA2 s.length a.length cS cQ cS2 cQ2 s a _ (HS.out.grew (by (repeat (first | exact gR _ | refine gO ?_ _ | refine gA ?_ _ | refine gD ?_ | refine gN ?_ _)))) (HS2.out.grew (by (repeat (first | exact gR _ | refine gO ?_ _ | refine gA ?_ _ | refine gD ?_ | refine gN ?_ _)))) (HA.out.grew (by (repeat (first | exact gR _ | refine gO ?_ _ | refine gA ?_ _ | refine gD ?_ | refine gN ?_ _)))) (HA2.out.grew (by (repeat (first | exact gR _ | refine gO ?_ _ | refine gA ?_ _ | refine gD ?_ | refine gN ?_ _)))) rfl rfl); rintro e w4 ⟨rfl, x4, rfl⟩)
      | ((go_at_call 9; apply Calls.mono; (with_reducible exact Haw.out _ (by (repeat (first | exact gR _ | refine gO ?_ _ | refine gA ?_ _ | refine gD ?_ | refine gN ?_ _)))); rintro e w' ⟨rfl, x, rfl⟩)))
    go_ret
    exact ⟨rfl, by (repeat (first | exact gR _ | refine gO ?_ _ | refine gA ?_ _ | refine gD ?_ | refine gN ?_ _))⟩
end Go.Proofs.YtiihgpgpbgafiaaDoor

/- A law's row, lifted, where package-level variables are laid. -/
namespace Go.Proofs.YtiihgpgpbgafiaaDoor
open Go.RowKit Go.ChangeShapes Go.WideShapes

theorem law_laid {H : Type} {enc : TypeId × Value → H} {C : Checked} {os : Os} {f : FuncId} {fn : Func} {s : ChangeSpec} {a : Assume} {apart fresh handsOn again : Bool} {tb : TypeId} (L : List (String × DataW Unit))
    (hown : ownKnob C.prog.godebug = none) (started : os.Started) (hi : C.prog.inits.idxOf? f = none) (hf : C.prog.funcs[f]? = some fn)
    (hwit : ∃ (w : World) (tape : Tape) (i : Input), w.os = os ∧ (w.forCall tape i).Shaped C.prog ∧ i.vars = [] ∧ Input.okWide C.prog (w.forCall tape i) .any w.heap.size f i ∧
      ((s.pre enc C.prog fn [] apart (w.forCall tape i).memory i.args ∧ laidMet C.prog L (w.forCall tape i).memory) ∧ sizedMet enc C.prog fn (OpenSpec.ofChange s) apart (w.forCall tape i).memory i.args) ∧ a.holds C.prog (lone (Frame.enter C.prog f i.args .normal) [] (w.forCall tape i)))
    (hl : laidOutB C.prog = true) (hres : fn.resultTypes = #[tb]) (hb : C.prog.underlying tb = some .bool) (hread : (fn.params.toList.all fun t => C.prog.readableRec t && decide (t < C.prog.types.size)) = true)
    (hvars : s.vars = [])
    (hs : ∀ ds : List (DataW H), ds.length = fn.params.size → (s.fn H ds).results = [.lit (.bool true)] ∧ (s.fn H ds).args = ds ∧ (s.fn H ds).vars = [])
    (hwalk : ∀ (W : World) (base : Nat) (args : Array Value) (ds : List (DataW H)) (ps : List MemPlace),
      (∀ (j : Nat) (t : TypeId) (v : Value), fn.params[j]? = some t → args[j]? = some v → Value.okWide C.prog W Reach.any base t v) →
      DataW.TrodAll enc C.prog W 0 (fun _ => true) true fn.params.toList args.toList ds ps → laidMet C.prog L W →
      Calls C.prog f args W fun e w' => e = .returned (.bool true) ∧ Grew W w') :
    ReturnsInHanded a C os f .any (fun w args => (s.pre enc C.prog fn [] apart w args ∧ laidMet C.prog L w) ∧ sizedMet enc C.prog fn (OpenSpec.ofChange s) apart w args) (s.post enc C.prog fn apart fresh handsOn again) := by
  refine returnsInHanded_of_change_and (X := fun w _ => laidMet C.prog L w) (fun _ _ _ hh h => h.of_heap hh) hown started hi hf hwit ?_
  intro W base args ds gs before hval hW _ _ hL _
  obtain ⟨p, q, h1, h2, _, _, _⟩ := id hW
  have hgs : gs = [] := by
    rw [hvars] at h2
    cases gs with
    | nil => rfl
    | cons => exact h2.elim
  subst hgs
  have hlen : ds.length = fn.params.size := by
    have : ∀ {ts : List TypeId} {vs : List Value} {ds : List (DataW H)} {ps : List MemPlace}, DataW.TrodAll enc C.prog W 0 (fun _ => true) true ts vs ds ps → ds.length = ts.length := by
      intro ts
      induction ts with
      | nil => intro vs ds ps h; cases vs <;> cases ds <;> first | rfl | exact h.elim
      | cons t ts ih =>
        intro vs ds ps h
        cases vs with
        | nil => exact h.elim
        | cons v vs =>
          cases ds with
          | nil => exact h.elim
          | cons d ds =>
            obtain ⟨_, _, _, h', _⟩ := h
            simp [ih h']
    simpa using this h1
  have hs' := hs ds hlen
  refine (hwalk W base args ds p hval h1 hL).mono fun e W' ⟨he, hg⟩ => ⟨_, he, ?_⟩
  exact law_post hl hres hb hread hvars (by rw [List.append_nil]; exact hs'.1) (by rw [List.append_nil]; exact hs'.2.1) (by rw [List.append_nil]; exact hs'.2.2) hW hg
end Go.Proofs.YtiihgpgpbgafiaaDoor
