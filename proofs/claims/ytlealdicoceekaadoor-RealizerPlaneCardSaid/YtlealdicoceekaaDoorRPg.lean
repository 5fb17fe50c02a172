/- Joined by a program from the texts ReaG RefD RefE RefF MpI ReaH ReaI RefG RefH RefI RefJ. -/
import Derived.Test.YtlealdicoceekaaDoorRPf
import Derived.Maps.Keyed
/- Parents of the program. -/
set_option linter.unusedSimpArgs false
set_option linter.unusedVariables false
namespace Go.Proofs.YtlealdicoceekaaDoor
open Go.RowKit
attribute [local go_sem ↓] Go.wp_at_zero Go.wp_at_succ

theorem idx_neg_iff {v : Int} {l : List Int} : idx v l < 0 ↔ v ∉ l :=
  ⟨fun h k => by have := idx_yes k; omega, fun h => by rw [idx_no h]; omega⟩
section
variable {N : Int} {E : List (Int × Int)} {A : List (List Int)} {L : List Int}
theorem at_pos (hT : trgB N E A = true) (hS : Sch E A L) {v t : Nat} (hv : v < A.length) (hi : (v : Int) ∉ rts E A) (ht : t < 3) : 0 ≤ atF L t (rowOf A v) := by
  have h := up_ok hT hS hv hi ht
  have hr := atF_range (L := L) (t := t) (rowOf A v)
  apply Classical.byContradiction
  intro hn
  have e : atF L t (rowOf A v) = -1 := by omega
  have key : ∀ {xs : List Int}, atF L t xs = -1 → ∀ d ∈ xs, lab L d ≠ t := by
    intro xs
    induction xs with
    | nil => intro _ d hd; cases hd
    | cons x xs ih =>
      intro he d hd
      unfold atF at he
      by_cases h1 : lab L x = t
      · rw [if_pos h1] at he; omega
      · rw [if_neg h1] at he
        have hxr := atF_range (L := L) (t := t) xs
        by_cases h2 : atF L t xs = -1
        · rcases List.mem_cons.1 hd with rfl | hd
          · exact h1
          · exact ih h2 d hd
        · rw [if_neg h2] at he; omega
  exact key e _ h.1 h.2
end
set_option maxRecDepth 4000 in
set_option maxHeartbeats 4000000 in
theorem parents_p (N : Int) (pE pA pL : Option Addr) (nE nA nL cE cA cL : Nat) (E : List (Int × Int)) (A : List (List Int)) (L : List Int) (t : Int) (w : World) (hR : RotIn w pE pA cE E A) (hL : Lim w) (hI : Ints w pL L) (hnE : E.length = nE) (hnA : A.length = nA) (hnL : L.length = nL) (hL1 : nL ≤ 1000) :
    Calls Tryd.prog 13 #[.agg #[.int .i64 N, .slice pE nE cE, .slice pA nA cA], .slice pL nL cL, .int .i64 t] w (TwoPost (parRes N E A L t).1 (parRes N E A L t).2 w) := by
  have HR := Lib.hid hR
  have HL := Lib.hid hL
  have HI := Lib.hid hI
  obtain ⟨er, her⟩ : ∃ er, err38 N E A L = er := ⟨_, rfl⟩
  have Hrd : Hid (∀ W1, Grew w W1 → Calls Tryd.prog 35 #[.agg #[.int .i64 N, .slice pE nE cE, .slice pA nA cA], .slice pL nL cL] W1 (ReadPost er N pE pA nE nA cE cA E A W1)) := Lib.hid (fun W1 h => by
    rw [← her]
    exact read_p _ _ _ _ _ _ _ _ _ _ _ _ _ _ (HR.out.grew h) (HL.out.grew h) (HI.out.grew h) hnE hnA hnL hL1)
  by_cases he0 : er = 0
  case neg =>
    have Hf : Hid (parRes N E A L t = ([], er)) := Lib.hid (by
      unfold err38 at her
      unfold parRes
      split
      · rename_i h; rw [if_pos h] at her; rw [her]
      · rename_i h; rw [if_neg h] at her
        split
        · rename_i h2; rw [if_pos h2] at her; rw [her]
        · rename_i h2; rw [if_neg h2] at her; exact absurd her.symm he0)
    have hern : (er == 0) = false := beq_eq_false_iff_ne.2 he0
    have hern2 : (er != 0) = true := by simp [bne, hern]
    have He0 := Lib.hid he0
    clear her he0 hR hL hI
    go_enter Tryd.func13, Tryd.ntmps13
    go_wp2_with (go_at_call 35; apply Calls.mono; (with_reducible exact Hrd.out _ (by (repeat (first | exact gR _ | refine gO ?_ _ | refine gA ?_ _ | refine gD ?_ | refine gN ?_ _)))); rintro e wo ⟨hgo, h⟩; have Hgo := Lib.hid ((show Grew w _ by (repeat (first | exact gR _ | refine gO ?_ _ | refine gA ?_ _ | refine gD ?_ | refine gN ?_ _))).trans hgo); clear hgo; rcases h with ⟨_, rfl⟩ | ⟨h, _⟩; rotate_left; exact absurd h He0.out)
    go_ret2
    rw [Hf.out]
    exact TwoPost.none (Hgo.out.trans (by (repeat (first | exact gR _ | refine gO ?_ _ | refine gA ?_ _ | refine gD ?_ | refine gN ?_ _))))
  subst he0
  have hT : trgB N E A = true := by
    cases h : trgB N E A
    · unfold err38 at her; rw [if_pos h] at her; omega
    · rfl
  have hF : fitB E A L = true := by
    cases h : fitB E A L
    · unfold err38 at her; rw [if_neg (by rw [hT]; simp), if_pos h] at her; omega
    · rfl
  have hS := fit_sch hT hF
  have hV := trg_valid hT
  have HV := Lib.hid hV
  have HS := Lib.hid hS
  have HT := Lib.hid hT
  have hNA : N = (nA : Int) := by have := hV.al; omega
  have hnA1 : nA ≤ 100 := by have := hR.a1; omega
  have HnA := Lib.hid hnA
  have HnE := Lib.hid hnE
  have HnL := Lib.hid hnL
  subst hNA
  by_cases ht : t < 0 ∨ 2 < t
  · have Hf : Hid (parRes nA E A L t = ([], 3)) := Lib.hid (by unfold parRes; rw [if_neg (by rw [hT]; simp), if_neg (by rw [hF]; simp), if_pos ht])
    clear her hR hL hI hT hF hS hV
    rcases (by omega : t < 0 ∨ (0 ≤ t ∧ 2 < t)) with k | ⟨k, k2⟩
    · go_enter Tryd.func13, Tryd.ntmps13
      go_wp2_with (go_at_call 35; apply Calls.mono; (with_reducible exact Hrd.out _ (by (repeat (first | exact gR _ | refine gO ?_ _ | refine gA ?_ _ | refine gD ?_ | refine gN ?_ _)))); rintro e wo ⟨hgo, h⟩; have Hgo := Lib.hid ((show Grew w _ by (repeat (first | exact gR _ | refine gO ?_ _ | refine gA ?_ _ | refine gD ?_ | refine gN ?_ _))).trans hgo); clear hgo; rcases h with ⟨h, _⟩ | ⟨_, b, gf, rfl, _, hPl⟩; exact absurd rfl h; have HPl := Lib.hid hPl; clear hPl)
      go_ret2
      rw [Hf.out]
      exact TwoPost.none (Hgo.out.trans (by (repeat (first | exact gR _ | refine gO ?_ _ | refine gA ?_ _ | refine gD ?_ | refine gN ?_ _))))
    · have k0 : ¬ t < 0 := by omega
      go_enter Tryd.func13, Tryd.ntmps13
      go_wp2_with (go_at_call 35; apply Calls.mono; (with_reducible exact Hrd.out _ (by (repeat (first | exact gR _ | refine gO ?_ _ | refine gA ?_ _ | refine gD ?_ | refine gN ?_ _)))); rintro e wo ⟨hgo, h⟩; have Hgo := Lib.hid ((show Grew w _ by (repeat (first | exact gR _ | refine gO ?_ _ | refine gA ?_ _ | refine gD ?_ | refine gN ?_ _))).trans hgo); clear hgo; rcases h with ⟨h, _⟩ | ⟨_, b, gf, rfl, _, hPl⟩; exact absurd rfl h; have HPl := Lib.hid hPl; clear hPl)
      go_ret2
      rw [Hf.out]
      exact TwoPost.none (Hgo.out.trans (by (repeat (first | exact gR _ | refine gO ?_ _ | refine gA ?_ _ | refine gD ?_ | refine gN ?_ _))))
  · obtain ⟨tn, rfl⟩ : ∃ tn : Nat, t = (tn : Int) := ⟨t.toNat, by omega⟩
    have htn : tn < 3 := by omega
    have Hf : Hid (parRes nA E A L tn = (parL E A L tn, 0)) := Lib.hid (by unfold parRes; rw [if_neg (by rw [hT]; simp), if_neg (by rw [hF]; simp), if_neg ht])
    have k0 : ¬ (tn : Int) < 0 := by omega
    have k1 : ¬ 2 < (tn : Int) := by omega
    have hmk := mk_ints nA (by omega)
    have hE0 := Lib.hid (trg_pos hT)
    clear her hR hL hI hT hF hS hV ht
    have Hc0 : Hid ((w.alloc (.cells #[.int .i64 nA, .slice pE nE cE, .slice pA nA cA] 25)).cell? ⟨w.heap.size, 0, none⟩ = some (.int .i64 nA)) := Lib.hid (by simp [go_sem])
    have HwB : Hid (Grew w (w.alloc (.cells #[.int .i64 nA, .slice pE nE cE, .slice pA nA cA] 25))) := Lib.hid ((Grew.refl w).alloc _)
    go_enter Tryd.func13, Tryd.ntmps13
    go_wp2_with (go_at_call 35; apply Calls.mono; (with_reducible exact Hrd.out _ (by (repeat (first | exact gR _ | refine gO ?_ _ | refine gA ?_ _ | refine gD ?_ | refine gN ?_ _)))); rintro e wo ⟨hgo, h⟩; have HgB := Lib.hid ((show Grew (w.alloc (.cells #[.int .i64 nA, .slice pE nE cE, .slice pA nA cA] 25)) _ by (repeat (first | exact gR _ | refine gO ?_ _ | refine gA ?_ _ | refine gD ?_ | refine gN ?_ _))).trans hgo); clear hgo; rcases h with ⟨h, _⟩ | ⟨_, b, gf, rfl, _, hPl⟩; exact absurd rfl h; have HPl := Lib.hid hPl; clear hPl; have q0 := HgB.out.cellEq Hc0.out)
    have Hgo : Hid (Grew w wo) := Lib.hid (HwB.out.trans HgB.out)
    have HO0 := Lib.hid (own_newI (Owns.nil wo wo.heap.size) (Nat.le_refl _) nA wo.heap.size (by omega) rfl)
    have Hg0 : Hid (Grew wo (wo.alloc (.cells (Array.replicate nA (.int .i64 0)) 3))) := Lib.hid ((Grew.refl wo).alloc _)
    obtain ⟨wA, hwA⟩ : ∃ wA, wo.alloc (.cells (Array.replicate nA (.int .i64 0)) 3) = wA := ⟨_, rfl⟩
    rw [hwA] at HO0 Hg0 ⊢
    obtain ⟨g, hg⟩ : ∃ g, wo.heap.size = g := ⟨_, rfl⟩
    have Hgs := Lib.hid hg
    rw [hg] at HO0 ⊢
    clear hwA hg q0
    go_loopw [34] (fun vv wr => ∃ v : Nat, v ≤ nA ∧ vv = .int .i64 v ∧ Grew wo wr ∧ ∃ X : List Int, X.length = nA ∧ Owns wr g [rI g nA X] ∧ ∀ u, u < v → ge X u = ge (parL E A L tn) u) (fun vv _ => nA - (intOf vv).toNat)
    case atStart => exact ⟨0, Nat.zero_le _, rfl, Hg0.out.trans (by (repeat (first | exact gR _ | refine gO ?_ _ | refine gA ?_ _ | refine gD ?_ | refine gN ?_ _))), _, by simp, HO0.out.grew (by (repeat (first | exact gR _ | refine gO ?_ _ | refine gA ?_ _ | refine gD ?_ | refine gN ?_ _))), fun u hu => by omega⟩
    case round =>
      obtain ⟨v, hv, rfl, hgr, X, hXl, hO, hall⟩ := hrel
      have Hgr := Lib.hid hgr
      have HO := Lib.hid hO
      have Hall := Lib.hid hall
      have HXl := Lib.hid hXl
      have hszr := hgr.below.size
      clear hgr hO hall hXl
      by_cases hlt : v < nA
      · have x1 := own_atI HO.out (j := 0) rfl hlt
        have x2 := own_fr HO.out (j := 0) rfl v
        have hgl := own_lt HO.out (j := 0) rfl
        go_upto_region 11 with fail
        have HOS := Lib.hid (own_setI HO.out (j := 0) rfl v (-1))
        have HgS : Hid (Grew wo (wr.setCell ⟨g, v, none⟩ (.int .i64 (-1)))) := Lib.hid (Hgr.out.setCell (show wo.heap.size ≤ g from Nat.le_of_eq Hgs.out) _)
        have hsS : (wr.setCell ⟨g, v, none⟩ (.int .i64 (-1))).heap.size = wr.heap.size := World.size_setCell _ _ _
        obtain ⟨wS, hwS⟩ : ∃ wS, wr.setCell ⟨g, v, none⟩ (.int .i64 (-1)) = wS := ⟨_, rfl⟩
        rw [hwS] at HOS HgS hsS ⊢
        replace HOS : Hid (Owns wS g [rI g nA (X.set v (-1))]) := HOS
        clear hwS x1 x2
        obtain ⟨r, hr⟩ : ∃ r, idx (v : Int) (rts E A) = r := ⟨_, rfl⟩
        have Hrt : Hid (∀ W1, Grew wS W1 → Calls Tryd.prog 36 #[.pointer (some ⟨b, 0, none⟩), .int .i64 v] W1 fun e w' => e = .returned (.int .i64 r) ∧ W1 = w') := Lib.hid (fun W1 h => root_p HV.out hE0.out (by have := HnA.out; omega) (HPl.out.grew (HgS.out.trans h)) v r hr)
        by_cases hr0 : r < 0
        · have hni : (v : Int) ∉ rts E A := idx_neg_iff.1 (by omega)
          have hpos := at_pos HT.out HS.out (v := v) (t := tn) (by have := HnA.out; omega) hni htn
          have hup := up_dart HT.out HS.out (v := v) (t := tn) (by have := HnA.out; omega) hni htn
          obtain ⟨d, hd⟩ : ∃ d : Nat, upF A L tn v = (d : Int) := ⟨(upF A L tn v).toNat, by have := hup.1.1; omega⟩
          have hd2 : d < 2 * E.length := by have := hup.1.2; omega
          obtain ⟨o, ho⟩ : ∃ o : Nat, oth (d : Int) = (o : Int) := ⟨(oth d).toNat, by have := oth_in (d := d) (M := E.length) (by omega) (by omega); omega⟩
          have ho2 : o < 2 * E.length := by have := oth_in (d := d) (M := E.length) (by omega) (by omega); omega
          have hx2 : bits BinOp.xor IntKind.i64 (d : Int) 1 = (o : Int) := by rw [← ho]; exact xor_small d (by have := HR.out.e1; omega)
          have Hpv : Hid (ge (parL E A L tn) v = tailE E o) := Lib.hid (by
            unfold parL
            rw [ge_tab _ (by have := HnA.out; omega), if_neg hni]
            unfold parF
            rw [hd, ho])
          have Hup : Hid (∀ W1, Grew wS W1 → Calls Tryd.prog 37 #[.pointer (some ⟨b, 0, none⟩), .slice pL nL cL, .int .i64 v, .int .i64 tn] W1 fun e w' => e = .returned (.int .i64 (d : Int)) ∧ Grew W1 w') := Lib.hid (fun W1 h => up_p HV.out (HPl.out.grew (HgS.out.trans h)) (HR.out.hA.grew (Hgo.out.trans (HgS.out.trans h))) HnA.out pL nL cL (HI.out.grew (Hgo.out.trans (HgS.out.trans h))) HnL.out HS.out.len hL1 v (by have := HnA.out; omega) tn hpos _ hd)
          have Htl : Hid (∀ W1, Grew wS W1 → Calls Tryd.prog 31 #[.pointer (some ⟨b, 0, none⟩), .int .i64 o] W1 fun e w' => e = .returned (.int .i64 (tailE E o)) ∧ W1 = w') := Lib.hid (fun W1 h => tail38_c b pE nE cE E W1 (HPl.out.grew (HgS.out.trans h)).c1 (HR.out.hE.grew (Hgo.out.trans (HgS.out.trans h))) HnE.out HR.out.e1 o ho2)
          have x1 := own_atI HOS.out (j := 0) rfl hlt
          have x2 := own_fr HOS.out (j := 0) rfl v
          clear hr hni hpos hup hd ho
          go_wp2_with (first
            | ((go_at_call 36; apply Calls.mono; (with_reducible exact Hrt.out _ (by (repeat (first | exact gR _ | refine gO ?_ _ | refine gA ?_ _ | refine gD ?_ | refine gN ?_ _)))); rintro e w' ⟨rfl, rfl⟩))
            | (go_at_call 37; apply Calls.mono; (with_reducible exact Hup.out _ (by (repeat (first | exact gR _ | refine gO ?_ _ | refine gA ?_ _ | refine gD ?_ | refine gN ?_ _)))); rintro e wu ⟨rfl, hgu⟩; have HOU := Lib.hid (HOS.out.grew (Grew.trans (by (repeat (first | exact gR _ | refine gO ?_ _ | refine gA ?_ _ | refine gD ?_ | refine gN ?_ _))) hgu)); have HgU := Lib.hid (HgS.out.trans (Grew.trans (by (repeat (first | exact gR _ | refine gO ?_ _ | refine gA ?_ _ | refine gD ?_ | refine gN ?_ _))) hgu)); have HgU2 := Lib.hid ((show Grew wS _ by (repeat (first | exact gR _ | refine gO ?_ _ | refine gA ?_ _ | refine gD ?_ | refine gN ?_ _))).trans hgu); have x1 := own_atI HOU.out (j := 0) rfl hlt; have x2 := own_fr HOU.out (j := 0) rfl v; clear hgu)
            | ((go_at_call 31; apply Calls.mono; (with_reducible exact Htl.out _ (HgU2.out.trans (by (repeat (first | exact gR _ | refine gO ?_ _ | refine gA ?_ _ | refine gD ?_ | refine gN ?_ _))))); rintro e w' ⟨rfl, rfl⟩)))
          go_roundw
          case rel => exact ⟨v + 1, by omega, by go_num, (HgU.out.setCell (show wo.heap.size ≤ g from Nat.le_of_eq Hgs.out) _).trans (by (repeat (first | exact gR _ | refine gO ?_ _ | refine gA ?_ _ | refine gD ?_ | refine gN ?_ _))), (X.set v (-1)).set v (tailE E o), by rw [List.length_set, List.length_set]; exact HXl.out, (own_setI HOU.out (j := 0) rfl v (tailE E o)).grew (by (repeat (first | exact gR _ | refine gO ?_ _ | refine gA ?_ _ | refine gD ?_ | refine gN ?_ _))), fun u hu => by
            by_cases e : v = u
            · rw [← e, ge_set_same _ (by rw [List.length_set, HXl.out]; exact hlt)]; exact Hpv.out.symm
            · rw [ge_set_other _ e, ge_set_other _ e]; exact Hall.out u (by omega)⟩
          case measure => (simp [intOf] <;> omega)
        · have hyi : (v : Int) ∈ rts E A := Classical.byContradiction fun k => by have := idx_neg_iff.2 k; omega
          have Hpv : Hid (ge (parL E A L tn) v = -1) := Lib.hid (by
            unfold parL
            rw [ge_tab _ (by have := HnA.out; omega), if_pos hyi])
          clear hr hyi
          go_wp2_with ((go_at_call 36; apply Calls.mono; (with_reducible exact Hrt.out _ (by (repeat (first | exact gR _ | refine gO ?_ _ | refine gA ?_ _ | refine gD ?_ | refine gN ?_ _)))); rintro e w' ⟨rfl, rfl⟩))
          go_roundw
          case rel => exact ⟨v + 1, by omega, by go_num, HgS.out.trans (by (repeat (first | exact gR _ | refine gO ?_ _ | refine gA ?_ _ | refine gD ?_ | refine gN ?_ _))), X.set v (-1), by rw [List.length_set]; exact HXl.out, HOS.out.grew (by (repeat (first | exact gR _ | refine gO ?_ _ | refine gA ?_ _ | refine gD ?_ | refine gN ?_ _))), fun u hu => by
            by_cases e : v = u
            · rw [← e, ge_set_same _ (by rw [HXl.out]; exact hlt)]; exact Hpv.out.symm
            · rw [ge_set_other _ e]; exact Hall.out u (by omega)⟩
          case measure => (simp [intOf] <;> omega)
      · obtain rfl : v = nA := by omega
        have Hpl : Hid ((parL E A L tn).length = v) := Lib.hid (by unfold parL; rw [tab_length]; exact HnA.out)
        have HX : Hid (X = parL E A L tn) := Lib.hid (by
          refine List.ext_getElem (by rw [HXl.out, Hpl.out]) fun i h1 h2 => ?_
          have := Hall.out i (by rw [HXl.out] at h1; exact h1)
          rwa [ge_eq _ h1, ge_eq _ h2] at this)
        have Hbd : Hid (∀ x ∈ parL E A L tn, -9223372036854775808 ≤ x ∧ x ≤ 9223372036854775807) := Lib.hid (fun x hx => by
          obtain ⟨i, hi, rfl⟩ := mem_ge.1 hx
          unfold parL at hi ⊢
          rw [tab_length] at hi
          rw [ge_tab _ hi]
          split
          · omega
          · rename_i hni
            have := head_in HV.out (up_dart HT.out HS.out hi hni htn).1.oth
            unfold parF
            have := HnA.out
            omega)
        go_wp2
        go_ret2
        rw [Hf.out]
        have hOf := HO.out.grew (show Grew wr _ by (repeat (first | exact gR _ | refine gO ?_ _ | refine gA ?_ _ | refine gD ?_ | refine gN ?_ _)))
        rw [HX.out] at hOf
        obtain ⟨q, cap, e, h1, h2, _⟩ := hOf.ints (k := 0) rfl Hpl.out Hbd.out
        cases e
        exact ⟨Hgo.out.trans (Hgr.out.trans (by (repeat (first | exact gR _ | refine gO ?_ _ | refine gA ?_ _ | refine gD ?_ | refine gN ?_ _)))), _, _, by rw [Hpl.out]; rfl, h1, by rw [Hpl.out]; exact Nat.le_refl _, by simp only [maxLen]; omega⟩
end Go.Proofs.YtlealdicoceekaaDoor

/- The reference: parents. -/
namespace Go.Proofs.YtlealdicoceekaaDoor
open Go.RowKit
attribute [local go_sem ↓] Go.wp_at_zero Go.wp_at_succ

end Go.Proofs.YtlealdicoceekaaDoor

/- What the reference checks is what the program checks; the reference's check, Parents. -/
namespace Go.Proofs.YtlealdicoceekaaDoor
open Go.RowKit

section
variable {N : Int} {E : List (Int × Int)} {A : List (List Int)} {L : List Int}
theorem oth_even (i : Nat) : oth (2 * (i : Int)) = 2 * (i : Int) + 1 := by unfold oth; rw [if_pos (by omega)]
theorem oth_odd (i : Nat) : oth (2 * (i : Int) + 1) = 2 * (i : Int) := by unfold oth; rw [if_neg (by omega)]; omega
end
end Go.Proofs.YtlealdicoceekaaDoor

/- The reference: check, Parents. -/
namespace Go.Proofs.YtlealdicoceekaaDoor
open Go.RowKit
attribute [local go_sem ↓] Go.wp_at_zero Go.wp_at_succ

/-- What a function of the reference returns: a list and an error. -/
def TwoR (xs : List Int) (er : Int) (w : World) (e : Ending) (w' : World) : Prop :=
  Grew w w' ∧ ∃ q cap, e = .returned (.tuple #[.slice q xs.length cap, .int .i64 er]) ∧ Ints w' q xs
theorem TwoR.none {w w' : World} {er : Int} (hg : Grew w w') : TwoR [] er w (.returned (.tuple #[.slice none 0 0, .int .i64 er])) w' :=
  ⟨hg, Option.none, 0, rfl, Ints.nil _ _⟩
section
variable (N : Int) (pE pA pL : Option Addr) (nE nA nL cE cA cL : Nat) (E : List (Int × Int)) (A : List (List Int)) (L : List Int) (w : World)
end
end Go.Proofs.YtlealdicoceekaaDoor

/- Maps from numbers to truth values, made by the call. -/
namespace Go.Proofs.YtlealdicoceekaaDoor
open Go.RowKit
open Go.Maps (Keyed IsMap Tidy)
attribute [local go_sem ↓] Go.wp_at_zero Go.wp_at_succ

theorem mi_law : Keyed Tryd.prog 3 := Go.Maps.int_keyed Tryd.underlying3
def okI (a : Int) : Prop := (Lit.int .i64 a).wf = true
theorem okI_small {a : Int} (h : -1000000 ≤ a ∧ a ≤ 1000000) : okI a := by
  have e1 : IntKind.i64.min = -9223372036854775808 := rfl
  have e2 : IntKind.i64.max = 9223372036854775807 := rfl
  unfold okI
  simp only [Lit.wf, e1, e2]
  simp; omega
theorem klI_eq {a : Int} (h : okI a) : keyOf Tryd.prog 3 (.int .i64 a) = some (.int .i64 a) := by
  unfold keyOf
  rw [Tryd.underlying3]
  have h' := h
  unfold okI at h'
  simp [mapKey, Tryd.underlying3, h']
/-- The map holds just the numbers of S. -/
def MetI (D : DataW Unit) (S : List Int) : Prop := Tidy D ∧ ∀ a, okI a → D.atKey (.int .i64 a) (.lit (.bool false)) = .lit (.bool (decide (a ∈ S)))
theorem MetI.nil : MetI (.map []) [] := ⟨Go.Maps.tidy_empty, fun a _ => by simp [DataW.atKey]⟩
theorem MetI.put {D : DataW Unit} {S : List Int} (h : MetI D S) {b : Int} (hb : okI b) : MetI (D.put (.int .i64 b) (.lit (.bool true))) (S ++ [b]) := by
  refine ⟨h.1.put (mi_law.key (klI_eq hb)) _, fun a ha => ?_⟩
  by_cases e : a = b
  · subst e
    rw [Maps.atKey_put_same h.1.isMap (mi_law.key (klI_eq ha))]
    simp
  · rw [Maps.atKey_put_other (fun k => e (by injection k)), h.2 a ha]
    simp [e]
theorem MetI.look {w : World} {b n : Nat} {D : DataW Unit} {S : List Int} (h : MetI D S) (hO : w.ownsMap Tryd.prog 3 (plainElem Tryd.prog 4) b n D) {a : Int} (ha : okI a) {t : Bool} (ht : decide (a ∈ S) = t) :
    (Instr.lookup 62 (.map (some b)) (.int .i64 a) false).run Tryd.prog w = .ok (.bool t) w := by
  obtain ⟨v, ps, hrun, hv⟩ := hO.lookup (t := 62) mi_law Tryd.underlying62 (zero_bool w) (plainElem_bool Tryd.underlying4 false) (klI_eq ha)
  rw [h.2 a ha, ht] at hv
  have : v = .bool t := by
    unfold plainElem at hv
    rw [Tryd.underlying4] at hv
    cases v <;> simp at hv
    rw [hv.1]
  rw [← this]
  exact hrun
/-- With the number of entries. -/
def SzI (D : DataW Unit) (S : List Int) : Prop := MetI D S ∧ (∀ a, okI a → Maps.has D (.int .i64 a) = decide (a ∈ S)) ∧ Maps.size D = S.length
theorem SzI.nil : SzI (.map []) [] := ⟨MetI.nil, fun a _ => by simp [Maps.has], rfl⟩
theorem SzI.put {D : DataW Unit} {S : List Int} (h : SzI D S) {b : Int} (hb : okI b) (hn : b ∉ S) : SzI (D.put (.int .i64 b) (.lit (.bool true))) (S ++ [b]) := by
  refine ⟨h.1.put hb, fun a ha => ?_, ?_⟩
  · by_cases e : a = b
    · subst e
      rw [Maps.has_put_same h.1.1.isMap (mi_law.key (klI_eq ha))]
      simp
    · rw [Maps.has_put_other (fun k => e (by injection k)), h.2.1 a ha]
      simp [e]
  · rw [Maps.size_put h.1.1, h.2.1 b hb, decide_eq_false hn, List.length_append, ← h.2.2]
    rfl
theorem mi_len {w : World} {b n : Nat} {D : DataW Unit} {S : List Int} (h : SzI D S) (hO : w.ownsMap Tryd.prog 3 (plainElem Tryd.prog 4) b n D) : ∃ es clock, w.heap[b]? = some (.map es clock) ∧ es.size = S.length := by
  obtain ⟨es, clock, hb, F, hs, hD⟩ := hO
  refine ⟨es, clock, hb, ?_⟩
  have := h.2.2
  rw [hD] at this
  unfold Maps.size at this
  simp only [length_sorted] at this
  simpa using this
theorem wpList_insert_own {H : Type} {P : Program} (w : World) {ops : Array Oper} {rest : List Oper} {o : Oper} {a : Act} {Q : Exit → Act → World → Prop}
    (hg : o.guard = none) (m x v : Operand) (t : TypeId) (hop : o.op = Op.insert t m x v)
    (k e : TypeId) (K : Keyed P k) (ht : P.underlying t = some (.map k e)) (R : Value → Option (DataW H × List MemPlace)) (b n : Nat) (D : DataW H)
    (hm : a.eval m = .map (some b)) (hown : w.ownsMap P k R b n D) (hn : n < maxLen) (key val : Value) (kl : Lit) (hx : a.eval x = key) (hv : a.eval v = val) (hkey : keyOf P k key = some kl)
    (d : DataW H) (ps : List MemPlace) (hval : R val = some (d, ps))
    (hK : ∀ w', w'.ownsMap P k R b (n + 1) (D.put kl d) → w.grownBy w' (some b) → wpList P ops Q rest (a.put o.dst undef) w') :
    wpList P ops Q (o :: rest) a w := by
  refine wpList_plain hg fun K' hK' => ?_
  obtain ⟨w', hrun, r1, r2⟩ := hown.update K ht hn hkey hval
  unfold Oper.wp
  simp [execOp, hop, hm, hx, hv, hrun, Result.andThen]
  exact hK' _ _ (hK w' r1 r2)
end Go.Proofs.YtlealdicoceekaaDoor

/- region of the program: how many faces are reached without crossing walls. -/
namespace Go.Proofs.YtlealdicoceekaaDoor
open Go.RowKit
attribute [local go_sem ↓] Go.wp_at_zero Go.wp_at_succ

/-! ### Reaching, plain -/
inductive Rc (R : Int → Int → Prop) (a : Int) : Int → Prop
  | refl : Rc R a a
  | step {x y : Int} : Rc R a x → R x y → Rc R a y
structure Bf (R : Int → Int → Prop) (a : Int) (S Q : List Int) : Prop where
  nd : S.Nodup
  st : a ∈ S
  rch : ∀ f ∈ S, Rc R a f
  qs : ∀ f ∈ Q, f ∈ S
  done : ∀ f ∈ S, f ∉ Q → ∀ g, R f g → g ∈ S
theorem Bf.start (R : Int → Int → Prop) (a : Int) : Bf R a [a] [a] :=
  ⟨by simp, by simp, fun f hf => by rw [List.mem_singleton.1 hf]; exact Rc.refl, fun f hf => hf, fun f hf hn => absurd hf hn⟩
theorem Bf.add {R : Int → Int → Prop} {a : Int} {S Q : List Int} (h : Bf R a S Q) {x y : Int} (hx : x ∈ S) (hr : R x y) (hy : y ∉ S) : Bf R a (S ++ [y]) (Q ++ [y]) := by
  refine ⟨List.nodup_append.2 ⟨h.nd, by simp, fun u hu v hv e => by rw [List.mem_singleton.1 hv] at e; exact hy (e ▸ hu)⟩, List.mem_append_left _ h.st, fun f hf => ?_, fun f hf => ?_, fun f hf hn g hg => ?_⟩
  · rcases List.mem_append.1 hf with k | k
    · exact h.rch f k
    · rw [List.mem_singleton.1 k]; exact (h.rch x hx).step hr
  · rcases List.mem_append.1 hf with k | k
    · exact List.mem_append_left _ (h.qs f k)
    · exact List.mem_append_right _ k
  · rcases List.mem_append.1 hf with k | k
    · exact List.mem_append_left _ (h.done f k (fun e => hn (List.mem_append_left _ e)) g hg)
    · exact absurd (List.mem_append_right _ k) hn
theorem Bf.cut {R : Int → Int → Prop} {a x : Int} {S Q : List Int} (h : Bf R a S (x :: Q)) (hx : ∀ g, R x g → g ∈ S) : Bf R a S Q :=
  ⟨h.nd, h.st, h.rch, fun f hf => h.qs f (List.mem_cons_of_mem _ hf), fun f hf hn g hg => by
    by_cases e : f = x
    · rw [e] at hg; exact hx g hg
    · exact h.done f hf (fun k => (List.mem_cons.1 k).elim e hn) g hg⟩
theorem Bf.all {R : Int → Int → Prop} {a : Int} {S : List Int} (h : Bf R a S []) {f : Int} (hf : Rc R a f) : f ∈ S := by
  induction hf with
  | refl => exact h.st
  | step _ hr ih => exact h.done _ ih (by simp) _ hr
open Classical in
/-- How many of the first F numbers are reached. -/
noncomputable def regN (R : Int → Int → Prop) (F : Nat) (a : Int) : Nat := ((idL F).filter fun f => decide (Rc R a f)).length
theorem Bf.count {R : Int → Int → Prop} {a : Int} {S : List Int} {F : Nat} (h : Bf R a S []) (hr : ∀ f ∈ S, 0 ≤ f ∧ f < (F : Int)) : S.length = regN R F a := by
  unfold regN
  refine Nat.le_antisymm (List.Nodup.length_le_of_subset h.nd fun f hf => ?_) (List.Nodup.length_le_of_subset ((idL_nodup F).sublist List.filter_sublist) fun f hf => ?_)
  · rw [List.mem_filter]
    exact ⟨mem_idL.2 (hr f hf), by simpa using h.rch f hf⟩
  · rw [List.mem_filter] at hf
    exact h.all (by simpa using hf.2)
/-- Two faces on the two sides of an edge that is no wall. -/
def edgR (M : Nat) (X W : List Int) (f g : Int) : Prop := ∃ d : Nat, d < M ∧ ge X d = f ∧ ((d : Int) / 2) ∉ W ∧ ge X (oth d).toNat = g

section
variable {w : World} {b gf : Nat} {N : Int} {pE pA : Option Addr} {nE nA cE cA : Nat} {E : List (Int × Int)} {A : List (List Int)}
theorem face_range (hV : vRot N E A) {d : Nat} (hd : d < 2 * E.length) : 0 ≤ ge (faceL N E A) d ∧ ge (faceL N E A) d < ((facesO N E A).length : Int) ∧ (facesO N E A).length ≤ 2 * E.length := by
  have hO := facs_ok hV
  unfold faceL
  rw [ge_tab _ hd]
  obtain ⟨i, hi, hm⟩ := hO.cov d (by omega) (by omega)
  have : fcI (facesO N E A) d < (facesO N E A).length := by
    unfold fcI
    rw [List.findIdx_lt_length]
    exact ⟨rowOf (facesO N E A) i, by rw [rowOf_eq _ hi]; exact List.getElem_mem hi, decide_eq_true hm⟩
  exact ⟨by omega, by omega, hO.len⟩
set_option maxRecDepth 8000 in
set_option maxHeartbeats 16000000 in
theorem region_p (hV : vRot N E A) (h1 : E.length ≤ 100) (hP : Plan w b gf N pE pA nE nA cE cA E A) (hnE : E.length = nE) (bw nW : Nat) (DW : DataW Unit) (W : List Int) (hW : MetI DW W) (hO : w.ownsMap Tryd.prog 3 (plainElem Tryd.prog 4) bw nW DW)
    (d : Nat) (hd : d < 2 * E.length) :
    Calls Tryd.prog 44 #[.pointer (some ⟨b, 0, none⟩), .map (some bw), .int .i64 d] w fun e w' => e = .returned (.int .i64 (regN (edgR (2 * E.length) (faceL N E A) W) (facesO N E A).length (ge (faceL N E A) d) : Nat)) ∧ Grew w w' := by
  subst hnE
  have HP := Lib.hid hP
  have HV := Lib.hid hV
  have HOW := Lib.hid hO
  have HW := Lib.hid hW
  have c3 := hP.c3
  obtain ⟨X, hX⟩ : ∃ X, faceL N E A = X := ⟨_, rfl⟩
  have hXl : X.length = 2 * E.length := by rw [← hX]; exact tab_length _ _
  have HF : Hid (Ints w (some ⟨gf, 0, none⟩) X) := Lib.hid (by rw [← hX]; exact hP.f)
  obtain ⟨F, hFe⟩ : ∃ F, (facesO N E A).length = F := ⟨_, rfl⟩
  have Hfr : Hid (∀ d : Nat, d < 2 * E.length → 0 ≤ ge X d ∧ ge X d < (F : Int)) := Lib.hid (fun d hd => by
    have := face_range hV hd
    rw [hX, hFe] at this
    exact ⟨this.1, this.2.1⟩)
  have hF200 : F ≤ 200 := by have := face_range hV hd; rw [hFe] at this; omega
  rw [hX, hFe]
  obtain ⟨M, hM⟩ : ∃ M, 2 * E.length = M := ⟨_, rfl⟩
  rw [hM] at c3 hXl Hfr hd ⊢
  have hM200 : M ≤ 200 := by omega
  have Hex : Hid (M = 2 * E.length) := Lib.hid hM.symm
  have HXl := Lib.hid hXl
  have c0 : Hid (∀ i, i < M → ∀ W1, Grew w W1 → W1.cell? ⟨gf, i, none⟩ = some (.int .i64 (ge X i))) := Lib.hid (fun i hi W1 h => by
    obtain ⟨b', o', e1, _, hc⟩ := HF.out.cells (by rw [hXl]; omega)
    cases e1
    have := hc W1 h i (by rw [hXl]; exact hi)
    rwa [Nat.zero_add] at this)
  have hf0 := c0.out d hd w (Grew.refl _)
  have hgfl := World.block_lt_of_cell? w _ hf0
  dsimp only at hgfl
  have hr0 := Hfr.out d hd
  obtain ⟨a0, ha0⟩ : ∃ a0 : Nat, ge X d = (a0 : Int) := ⟨(ge X d).toNat, by omega⟩
  have Ha0 := Lib.hid ha0
  rw [ha0] at hf0 hr0 ⊢
  have hdi : (d : Int) < (M : Int) := by omega
  have Hok0 : Hid (okI (a0 : Int)) := Lib.hid (okI_small (by omega))
  have hmm := @run_makeMap Tryd.prog
  have hb := hP.lt
  have hbwl := hO.lt
  clear hP hV hW hO hX hFe hM h1 ha0 hXl
  go_enter Tryd.func44, Tryd.ntmps44
  go_wp2_with (first
    | (refine wpList_insert_own _ rfl _ _ _ 62 rfl 3 4 mi_law Tryd.underlying62 (plainElem Tryd.prog 4) w.heap.size 0 (.map []) rfl (by have h := World.ownsMap_made (H := Unit) w Tryd.prog 3 (plainElem Tryd.prog 4); exact h) (by simp only [maxLen]; omega) _ _ (.int .i64 (a0 : Int)) rfl rfl (klI_eq Hok0.out) (.lit (.bool true)) [] (plainElem_bool Tryd.underlying4 true) ?_; intro w1 hO1 hg1; have Hw1 := Lib.hid (Grew.grownBy (w0 := w) (show Grew w _ by (repeat (first | exact gR _ | refine gO ?_ _ | refine gA ?_ _ | refine gD ?_ | refine gN ?_ _))) hg1 (fun k h => by have := Option.some.inj h; omega)); have HO1 := Lib.hid hO1; have hs1 : w.heap.size < w1.heap.size := hO1.lt; have q3 := Hw1.out.cellEq c3; have qf := Hw1.out.cellEq hf0; clear hO1 hg1))
  have HSz1 : Hid (SzI ((DataW.map [] : DataW Unit).put (.int .i64 (a0 : Int)) (.lit (.bool true))) [(a0 : Int)]) := Lib.hid (SzI.nil.put Hok0.out (by simp))
  obtain ⟨bm, hbm⟩ : ∃ bm, w.heap.size = bm := ⟨_, rfl⟩
  have Hbm := Lib.hid hbm
  rw [hbm] at HO1 hs1 ⊢
  have HC3 := Lib.hid c3
  clear q3 qf c3 hf0 hbm
  go_loopg [8] (F + 1) (fun k v8 wr => ∃ (S q : List Int) (g off p cap : Nat) (ys : List Value) (D : DataW Unit), v8 = .slice (some ⟨g, off, none⟩) q.length cap ∧ Bf (edgR M X W) a0 S q ∧ (∀ f ∈ S, 0 ≤ f ∧ f < (F : Int)) ∧ q.length + (F - S.length) ≤ k ∧ k ≤ F + 1 ∧ Grew w wr ∧ ys.length = p ∧ (0 < cap → off = p) ∧
    Owns wr (bm + 1) [qRow 3 g p cap ys (intVs q)] ∧ SzI D S ∧ wr.ownsMap Tryd.prog 3 (plainElem Tryd.prog 4) bm S.length D)
  case atStart =>
    refine ⟨[(a0 : Int)], [(a0 : Int)], w1.heap.size, 0, 0, 1, [], _, by simp, Bf.start _ _, fun f hf => by rw [List.mem_singleton.1 hf]; exact hr0, by simp; omega, Nat.le_refl _, Hw1.out.trans (by (repeat (first | exact gR _ | refine gO ?_ _ | refine gA ?_ _ | refine gD ?_ | refine gN ?_ _))), rfl, fun _ => rfl, ?_, HSz1.out, ownsMap_grew HO1.out (by (repeat (first | exact gR _ | refine gO ?_ _ | refine gA ?_ _ | refine gD ?_ | refine gN ?_ _)))⟩
    exact ((Owns.nil w1 (bm + 1)).made (by omega) #[.int .i64 (a0 : Int)] 3 1 1 w1.heap.size rfl (by decide) rfl).grew (by (repeat (first | exact gR _ | refine gO ?_ _ | refine gA ?_ _ | refine gD ?_ | refine gN ?_ _)))
  case round =>
    obtain ⟨S, q, g, off, p, cap, ys, D, rfl, hB, hSr, hgk, hgkb, hgr, hys, hoff, hOk, hD, hOm⟩ := hrel
    have HB := Lib.hid hB
    have HSr := Lib.hid hSr
    have Hgr := Lib.hid hgr
    have HD := Lib.hid hD
    have HOm := Lib.hid hOm
    have HOk := Lib.hid hOk
    have Hgk := Lib.hid hgk
    have hszr := hgr.below.size
    have hbml := hOm.lt
    clear hB hSr hgr hD hOm hOk hgk
    cases q with
    | nil =>
      have Hcnt : Hid (S.length = regN (edgR M X W) F a0) := Lib.hid (HB.out.count HSr.out)
      obtain ⟨es, clock, hmb, hes⟩ := mi_len HD.out HOm.out
      have Hes := Lib.hid hes
      clear hes
      have hu : Tryd.prog.underlying 62 = some (.map (Tryd.prog.mapKeyOf 62) (Tryd.prog.mapElemOf 62)) := by kernel_rfl
      have hln := fun ty => run_len_map (P := Tryd.prog) (w := wr) 62 ty bm es clock hu hmb
      rw [List.length_nil]
      go_wp2
      go_ret
      rw [← Hcnt.out, ← Hes.out]
      exact ⟨rfl, Hgr.out.trans (by (repeat (first | exact gR _ | refine gO ?_ _ | refine gA ?_ _ | refine gD ?_ | refine gN ?_ _)))⟩
    | cons x q =>
      obtain ⟨hfl, _, _, hfm, hfc⟩ := owns_first HOk.out (k := 0) rfl hys
      simp only [intVs_length, List.length_cons] at hfl
      have hop := hoff (by omega)
      subst hop
      have hxS : x ∈ S := HB.out.qs x (by simp)
      have q3 := Hgr.out.cellEq HC3.out
      have HxS0 := Lib.hid hxS
      have hSF : S.length ≤ F := nodup_len HB.out.nd HSr.out
      clear hfc hoff hxS hfm
      rw [List.length_cons]
      go_wp2
      clear q3
      go_loopw [8, 39] (fun v8 iv wk => ∃ k2 : Nat, k2 ≤ M ∧ iv = .int .i64 k2 ∧ ∃ (S q : List Int) (g p cap : Nat) (ys : List Value) (D : DataW Unit), v8 = .slice (some ⟨g, p, none⟩) (q.length + 1) cap ∧ Bf (edgR M X W) a0 S (x :: q) ∧ (∀ f ∈ S, 0 ≤ f ∧ f < (F : Int)) ∧ (∀ d : Nat, d < k2 → ge X d = x → ((d : Int) / 2) ∉ W → ge X (oth d).toNat ∈ S) ∧ q.length + 1 + (F - S.length) ≤ gk ∧ Grew w wk ∧ ys.length = p ∧
        Owns wk (bm + 1) [qRow 3 g p cap ys (intVs (x :: q))] ∧ SzI D S ∧ wk.ownsMap Tryd.prog 3 (plainElem Tryd.prog 4) bm S.length D) (fun _ iv _ => M - (intOf iv).toNat)
      case atStart => exact ⟨0, Nat.zero_le _, rfl, S, q, g, off, cap, ys, D, rfl, HB.out, HSr.out, fun d hd => by omega, by have := Hgk.out; simp at this; omega, Hgr.out.trans (by (repeat (first | exact gR _ | refine gO ?_ _ | refine gA ?_ _ | refine gD ?_ | refine gN ?_ _))), hys, HOk.out.grew (by (repeat (first | exact gR _ | refine gO ?_ _ | refine gA ?_ _ | refine gD ?_ | refine gN ?_ _))), HD.out, ownsMap_grew HOm.out (by (repeat (first | exact gR _ | refine gO ?_ _ | refine gA ?_ _ | refine gD ?_ | refine gN ?_ _)))⟩
      case round =>
        clear HB HSr Hgr HD HOm HOk Hgk hys hszr hfl HxS0 hSF hbml
        obtain ⟨k2, hk2, rfl, S, q, g, p, cap, ys, D, rfl, hB, hSr, hnx, hgk, hgr, hys, hOk, hD, hOm⟩ := hrel
        have HB := Lib.hid hB
        have HSr := Lib.hid hSr
        have Hgr := Lib.hid hgr
        have HD := Lib.hid hD
        have HOm := Lib.hid hOm
        have HOk := Lib.hid hOk
        have Hgk := Lib.hid hgk
        have Hnx := Lib.hid hnx
        have hszr := hgr.below.size
        have hbml := hOm.lt
        have hSF : S.length ≤ F := nodup_len hB.nd hSr
        have hxS : x ∈ S := hB.qs x (by simp)
        have HxS := Lib.hid hxS
        have hxr := hSr x hxS
        obtain ⟨xn, rfl⟩ : ∃ xn : Nat, x = (xn : Int) := ⟨x.toNat, by omega⟩
        have hql : q.length + 1 ≤ 401 := by omega
        clear hB hSr hgr hD hOm hOk hgk hnx hxS hxr
        by_cases hlt : k2 < M
        · have e1 := c0.out k2 hlt _ Hgr.out
          have hr1 := Hfr.out k2 hlt
          obtain ⟨f1, hf1⟩ : ∃ f1 : Nat, ge X k2 = (f1 : Int) := ⟨(ge X k2).toNat, by omega⟩
          obtain ⟨o, ho⟩ : ∃ o : Nat, oth (k2 : Int) = (o : Int) := ⟨(oth k2).toNat, by have := oth_in (d := k2) (M := E.length) (by omega) (by have := Hex.out; omega); omega⟩
          have ho2 : o < M := by have := oth_in (d := k2) (M := E.length) (by omega) (by have := Hex.out; omega); have := Hex.out; omega
          have hxo : bits BinOp.xor IntKind.i64 (k2 : Int) 1 = (o : Int) := by rw [← ho]; exact xor_small k2 (by omega)
          have e2 := c0.out o ho2 _ Hgr.out
          have hr2 := Hfr.out o ho2
          obtain ⟨f2, hf2⟩ : ∃ f2 : Nat, ge X o = (f2 : Int) := ⟨(ge X o).toNat, by omega⟩
          rw [hf1] at e1
          rw [hf2] at e2 hr2
          have q3 := Hgr.out.cellEq HC3.out
          obtain ⟨hfl, _, _, hfm, hfc⟩ := owns_first HOk.out (k := 0) rfl hys
          simp only [intVs_length, List.length_cons] at hfl
          have e3 := hfc 0 (.int .i64 (xn : Int)) rfl
          rw [Nat.add_zero] at e3
          have hki : (k2 : Int) < (M : Int) := by omega
          have hoi : (o : Int) < (M : Int) := by omega
          have Hoto : Hid ((oth (k2 : Int)).toNat = o) := Lib.hid (by rw [ho]; simp)
          have Hf1 := Lib.hid hf1
          have Hf2 := Lib.hid hf2
          have Hok2 : Hid (okI (f2 : Int)) := Lib.hid (okI_small (by omega))
          obtain ⟨tw, htw⟩ : ∃ tw, decide (((k2 : Int) / 2) ∈ W) = tw := ⟨_, rfl⟩
          obtain ⟨tm, htm⟩ : ∃ tm, decide ((f2 : Int) ∈ S) = tm := ⟨_, rfl⟩
          have hlw := HW.out.look (ownsMap_grew HOW.out Hgr.out) (okI_small (a := (k2 : Int) / 2) (by omega)) htw
          have hlm := HD.out.1.look HOm.out Hok2.out htm
          have Htw := Lib.hid htw
          have Htm := Lib.hid htm
          clear hf1 hf2 ho hfc hfm hr1 htw htm
          by_cases hfx : f1 = xn
          · subst hfx
            cases tw
            · cases tm
              · have Hnw : Hid (((k2 : Int) / 2) ∉ W) := Lib.hid (of_decide_eq_false Htw.out)
                have Hnm : Hid ((f2 : Int) ∉ S) := Lib.hid (of_decide_eq_false Htm.out)
                have HR : Hid (edgR M X W (f1 : Int) (f2 : Int)) := Lib.hid ⟨k2, hlt, Hf1.out, Hnw.out, by rw [Hoto.out, Hf2.out]⟩
                have HB2 := Lib.hid (HB.out.add HxS.out HR.out Hnm.out)
                have HSr2 : Hid (∀ f ∈ S ++ [(f2 : Int)], 0 ≤ f ∧ f < (F : Int)) := Lib.hid (fun f hf => by
                  rcases List.mem_append.1 hf with k | k
                  · exact HSr.out f k
                  · rw [List.mem_singleton.1 k]; exact hr2)
                have hSF2 : S.length + 1 ≤ F := by
                  have := nodup_len HB2.out.nd HSr2.out
                  simpa using this
                go_wp2_with (first
                  | (at_mapUpdate; refine wpList_mapUpdate_own _ rfl _ _ _ 62 rfl 3 4 mi_law Tryd.underlying62 (plainElem Tryd.prog 4) bm S.length D rfl HOm.out (by simp only [maxLen]; omega) _ _ (.int .i64 (f2 : Int)) rfl rfl (klI_eq Hok2.out) (.lit (.bool true)) [] (plainElem_bool Tryd.underlying4 true) ?_; intro w2 hO2 hg2; have HOm2 := Lib.hid hO2; have hbm2 := hO2.lt; have Hgr2 := Lib.hid (Grew.grownBy (w0 := w) Hgr.out hg2 (fun k h => by have := Option.some.inj h; have := Hbm.out; omega)); have HOk2 := Lib.hid (HOk.out.gr (Gr.of_grownBy hg2) (fun k hk _ e => by have := Option.some.inj e; omega)); clear hO2 hg2 e1 e2 e3 q3 hlw hlm)
                  | (at_builtin; refine wp_append_que rfl _ _ 26 rfl 3 8 (.int .i64 0) Tryd.underlying26 Tryd.infoInt rfl (bm + 1) _ 0 g p p cap (q.length + 1) ys (intVs ((f1 : Int) :: q)) (HOk2.out.grew (by (repeat (first | exact gR _ | refine gO ?_ _ | refine gA ?_ _ | refine gD ?_ | refine gN ?_ _)))) rfl hys (fun _ => rfl) (by simp [intVs_length]) rfl _ 1 rfl (.int .i64 (f2 : Int)) (by (simp [go_sem, ↓IntWalk.iteOmega])) (by simp [Value.oneCell']) (by simp only [maxLen]; omega) (by omega) (by first | rfl | omega | (simp <;> omega)) ?_; intro g1 off1 p1 cap1 ys1 w3 hO3 hys1 hoff1 hcap1 hg3 hb3; have hop1 := hoff1 (by omega); subst hop1; have Hg3 := Lib.hid (Grew.grownBy (w0 := w) (Hgr2.out.trans (by (repeat (first | exact gR _ | refine gO ?_ _ | refine gA ?_ _ | refine gD ?_ | refine gN ?_ _)))) hg3 (fun k h => by have := Option.some.inj h; have := Hbm.out; omega)); have HO3 := Lib.hid hO3; have HOm3 := Lib.hid ((ownsMap_grew HOm2.out (by (repeat (first | exact gR _ | refine gO ?_ _ | refine gA ?_ _ | refine gD ?_ | refine gN ?_ _)))).kept hg3 (fun e => by have := Option.some.inj e; omega)); clear hO3 hg3 hoff1))
                go_roundw
                case rel =>
                  refine ⟨k2 + 1, by omega, by go_num, S ++ [(f2 : Int)], q ++ [(f2 : Int)], g1, off1, cap1, ys1, _, by simp, HB2.out, HSr2.out, fun d' hd' h1 h2 => ?_, ?_, Hg3.out.trans (by (repeat (first | exact gR _ | refine gO ?_ _ | refine gA ?_ _ | refine gD ?_ | refine gN ?_ _))), hys1, ?_, HD.out.put Hok2.out Hnm.out, ?_⟩
                  · by_cases e : d' = k2
                    · rw [e, Hoto.out, Hf2.out]; simp
                    · exact List.mem_append_left _ (Hnx.out d' (by omega) h1 h2)
                  · have := Hgk.out
                    simp only [List.length_append, List.length_cons, List.length_nil]
                    omega
                  · have h := HO3.out
                    have e : intVs ((f1 : Int) :: (q ++ [(f2 : Int)])) = intVs ((f1 : Int) :: q) ++ [.int .i64 (f2 : Int)] := by simp [intVs]
                    rw [e]
                    exact h.grew (by (repeat (first | exact gR _ | refine gO ?_ _ | refine gA ?_ _ | refine gD ?_ | refine gN ?_ _)))
                  · rw [List.length_append]
                    exact ownsMap_grew HOm3.out (by (repeat (first | exact gR _ | refine gO ?_ _ | refine gA ?_ _ | refine gD ?_ | refine gN ?_ _)))
                case measure => (simp [intOf] <;> omega)
              · have Hm : Hid ((f2 : Int) ∈ S) := Lib.hid (of_decide_eq_true Htm.out)
                go_wp2
                go_roundw
                case rel => exact ⟨k2 + 1, by omega, by go_num, S, q, g, p, cap, ys, D, rfl, HB.out, HSr.out, fun d' hd' h1 h2 => by
                  by_cases e : d' = k2
                  · rw [e, Hoto.out, Hf2.out]; exact Hm.out
                  · exact Hnx.out d' (by omega) h1 h2, Hgk.out, Hgr.out.trans (by (repeat (first | exact gR _ | refine gO ?_ _ | refine gA ?_ _ | refine gD ?_ | refine gN ?_ _))), hys, HOk.out.grew (by (repeat (first | exact gR _ | refine gO ?_ _ | refine gA ?_ _ | refine gD ?_ | refine gN ?_ _))), HD.out, ownsMap_grew HOm.out (by (repeat (first | exact gR _ | refine gO ?_ _ | refine gA ?_ _ | refine gD ?_ | refine gN ?_ _)))⟩
                case measure => (simp [intOf] <;> omega)
            · have Hw : Hid (((k2 : Int) / 2) ∈ W) := Lib.hid (of_decide_eq_true Htw.out)
              go_wp2
              go_roundw
              case rel => exact ⟨k2 + 1, by omega, by go_num, S, q, g, p, cap, ys, D, rfl, HB.out, HSr.out, fun d' hd' h1 h2 => by
                by_cases e : d' = k2
                · rw [e] at h2; exact absurd Hw.out h2
                · exact Hnx.out d' (by omega) h1 h2, Hgk.out, Hgr.out.trans (by (repeat (first | exact gR _ | refine gO ?_ _ | refine gA ?_ _ | refine gD ?_ | refine gN ?_ _))), hys, HOk.out.grew (by (repeat (first | exact gR _ | refine gO ?_ _ | refine gA ?_ _ | refine gD ?_ | refine gN ?_ _))), HD.out, ownsMap_grew HOm.out (by (repeat (first | exact gR _ | refine gO ?_ _ | refine gA ?_ _ | refine gD ?_ | refine gN ?_ _)))⟩
              case measure => (simp [intOf] <;> omega)
          · have hfb : ((f1 : Int) == (xn : Int)) = false := beq_eq_false_iff_ne.2 (by omega)
            have Hfx : Hid (f1 ≠ xn) := Lib.hid hfx
            clear hfx
            go_wp2
            go_roundw
            case rel => exact ⟨k2 + 1, by omega, by go_num, S, q, g, p, cap, ys, D, rfl, HB.out, HSr.out, fun d' hd' h1 h2 => by
              by_cases e : d' = k2
              · rw [e, Hf1.out] at h1; exact absurd (by omega) Hfx.out
              · exact Hnx.out d' (by omega) h1 h2, Hgk.out, Hgr.out.trans (by (repeat (first | exact gR _ | refine gO ?_ _ | refine gA ?_ _ | refine gD ?_ | refine gN ?_ _))), hys, HOk.out.grew (by (repeat (first | exact gR _ | refine gO ?_ _ | refine gA ?_ _ | refine gD ?_ | refine gN ?_ _))), HD.out, ownsMap_grew HOm.out (by (repeat (first | exact gR _ | refine gO ?_ _ | refine gA ?_ _ | refine gD ?_ | refine gN ?_ _)))⟩
            case measure => (simp [intOf] <;> omega)
        · obtain rfl : k2 = M := by omega
          have HBc := Lib.hid (HB.out.cut (fun y hy => by
            obtain ⟨d', hd', h1, h2, h3⟩ := hy
            rw [← h3]
            exact Hnx.out d' hd' h1 h2))
          obtain ⟨hfl, _, _, hfm, _⟩ := owns_first HOk.out (k := 0) rfl hys
          simp only [intVs_length, List.length_cons] at hfl
          by_cases hc1 : cap = 1
          · have hq0 : q = [] := List.length_eq_zero_iff.1 (by omega)
            subst hc1 hq0
            go_wp2
            go_roundg (gk - 1)
            case rel => exact ⟨S, [], g, p, p + 1, 0, ys ++ [.int .i64 (xn : Int)], D, rfl, HBc.out, HSr.out, (by have := Hgk.out; simp at this ⊢; omega), (by omega), Hgr.out.trans (by (repeat (first | exact gR _ | refine gO ?_ _ | refine gA ?_ _ | refine gD ?_ | refine gN ?_ _))), (by simp [hys]), (fun h => by cases h), (by have h : Owns wr (bm + 1) [qRow 3 g p (0 + 1) ys (.int .i64 (xn : Int) :: intVs [])] := HOk.out; rw [qRow_cut] at h; exact h.grew (by (repeat (first | exact gR _ | refine gO ?_ _ | refine gA ?_ _ | refine gD ?_ | refine gN ?_ _)))), HD.out, ownsMap_grew HOm.out (by (repeat (first | exact gR _ | refine gO ?_ _ | refine gA ?_ _ | refine gD ?_ | refine gN ?_ _)))⟩
            case measure => have := Hgk.out; omega
          · obtain ⟨cap, rfl⟩ : ∃ c', cap = c' + 1 := ⟨cap - 1, by omega⟩
            go_wp2
            go_roundg (gk - 1)
            case rel => exact ⟨S, q, g, p + 1, p + 1, cap, ys ++ [.int .i64 (xn : Int)], D, rfl, HBc.out, HSr.out, (by have := Hgk.out; omega), (by omega), Hgr.out.trans (by (repeat (first | exact gR _ | refine gO ?_ _ | refine gA ?_ _ | refine gD ?_ | refine gN ?_ _))), (by simp [hys]), (fun _ => rfl), (by have h := HOk.out; rw [show intVs ((xn : Int) :: q) = .int .i64 (xn : Int) :: intVs q from rfl, qRow_cut] at h; exact h.grew (by (repeat (first | exact gR _ | refine gO ?_ _ | refine gA ?_ _ | refine gD ?_ | refine gN ?_ _)))), HD.out, ownsMap_grew HOm.out (by (repeat (first | exact gR _ | refine gO ?_ _ | refine gA ?_ _ | refine gD ?_ | refine gN ?_ _)))⟩
            case measure => have := Hgk.out; omega
end
end Go.Proofs.YtlealdicoceekaaDoor

/- Draw of the program. -/
namespace Go.Proofs.YtlealdicoceekaaDoor
open Go.RowKit
attribute [local go_sem ↓] Go.wp_at_zero Go.wp_at_succ

/-- The walls of a vertex: the outer edges and the paths of the first t trees; its point. -/
def wallT (E : List (Int × Int)) (A : List (List Int)) (L : List Int) (v : Int) : Nat → List Int
  | 0 => (sdL A).map (· / 2)
  | t + 1 => wallT E A L v t ++ pathW E A L t A.length v
def wallF (E : List (Int × Int)) (A : List (List Int)) (L : List Int) (v : Int) : List Int := wallT E A L v 3
theorem pathW_len (E : List (Int × Int)) (A : List (List Int)) (L : List Int) (t : Int) : ∀ (k : Nat) (v : Int), (pathW E A L t k v).length ≤ k
  | 0, v => by unfold pathW; simp
  | k + 1, v => by
    unfold pathW
    split
    · simp
    · rw [List.length_cons]
      have := pathW_len E A L t k (parF E A L t v)
      omega
theorem wallT_len (E : List (Int × Int)) (A : List (List Int)) (L : List Int) (v : Int) : ∀ t : Nat, (wallT E A L v t).length ≤ 3 + t * A.length
  | 0 => by unfold wallT; simp [sdL]
  | t + 1 => by
    unfold wallT
    rw [List.length_append]
    have := wallT_len E A L v t
    have := pathW_len E A L t A.length v
    rw [Nat.add_mul]
    omega
noncomputable def regF (N : Int) (E : List (Int × Int)) (A : List (List Int)) (L : List Int) (v : Int) (d : Int) : Nat :=
  regN (edgR (2 * E.length) (faceL N E A) (wallF E A L v)) (facesO N E A).length (ge (faceL N E A) d.toNat)
noncomputable def ptF (N : Int) (E : List (Int × Int)) (A : List (List Int)) (L : List Int) (v : Int) : Int × Int :=
  if v ∈ rts E A then (if idx v (rts E A) = 0 then (0, 0) else if idx v (rts E A) = 1 then (2 * N - 5, 0) else (0, 2 * N - 5))
  else ((regF N E A L v (oth (nxF A (nxF A 0))) : Int), (regF N E A L v 1 : Int))
noncomputable def drawL (N : Int) (E : List (Int × Int)) (A : List (List Int)) (L : List Int) : List (Int × Int) := (List.range A.length).map fun v : Nat => ptF N E A L v
noncomputable def drawRes (N : Int) (E : List (Int × Int)) (A : List (List Int)) (L : List Int) : List (Int × Int) × Int :=
  if trgB N E A = false then ([], 13) else if fitB E A L = false then ([], 1) else (drawL N E A L, 0)
/-- Points and an error. -/
def PtsPost (xs : List (Int × Int)) (er : Int) (w : World) (e : Ending) (w' : World) : Prop :=
  Grew w w' ∧ ∃ q cap, e = .returned (.tuple #[.slice q xs.length cap, .int .i64 er]) ∧ Prs w' q xs ∧ xs.length ≤ cap ∧ cap ≤ maxLen
theorem PtsPost.none {w w' : World} {er : Int} (hg : Grew w w') : PtsPost [] er w (.returned (.tuple #[.slice none 0 0, .int .i64 er])) w' :=
  ⟨hg, Option.none, 0, rfl, ⟨by simp, 0, 0, (fun h => by simp at h), (fun i h => by simp at h)⟩, Nat.le_refl _, Nat.zero_le _⟩
/-- Points in a block of their own. -/
structure PtB (w : World) (g n : Nat) (P : List (Int × Int)) : Prop where
  c : ∀ i, i < n → (w.cell? ⟨g, i * 2, none⟩ = some (.int .i64 (pr P i).1) ∧ w.frozen? ⟨g, i * 2, none⟩ = false) ∧ w.cell? ⟨g, i * 2 + 1, none⟩ = some (.int .i64 (pr P i).2) ∧ w.frozen? ⟨g, i * 2 + 1, none⟩ = false
  lt : g < w.heap.size
  len : P.length = n
theorem PtB.grew {w w' : World} {g n : Nat} {P : List (Int × Int)} (h : PtB w g n P) (hg : Grew w w') : PtB w' g n P :=
  ⟨fun i hi => ⟨⟨hg.cellEq (h.c i hi).1.1, hg.frozenEq h.lt (h.c i hi).1.2⟩, hg.cellEq (h.c i hi).2.1, hg.frozenEq h.lt (h.c i hi).2.2⟩, Nat.lt_of_lt_of_le h.lt hg.below.size, h.len⟩
theorem PtB.set {w : World} {g n : Nat} {P : List (Int × Int)} (h : PtB w g n P) {v : Nat} (hv : v < n) (x y : Int) : PtB ((w.setCell ⟨g, v * 2, none⟩ (.int .i64 x)).setCell ⟨g, v * 2 + 1, none⟩ (.int .i64 y)) g n (P.set v (x, y)) := by
  refine ⟨fun i hi => ?_, by rw [World.size_setCell, World.size_setCell]; exact h.lt, by rw [List.length_set]; exact h.len⟩
  obtain ⟨⟨a1, a2⟩, a3, a4⟩ := h.c i hi
  have hl := h.len
  by_cases e : i = v
  · subst e
    have e1 : pr (P.set i (x, y)) i = (x, y) := by unfold pr; simp [hl, hi]
    have e2 : ¬ (i * 2 = i * 2 + 1) := by omega
    rw [e1]
    exact ⟨⟨by simp [go_sem, a1], by simp [go_sem, a2]⟩, by simp [go_sem, a3], by simp [go_sem, a4]⟩
  · have e1 : pr (P.set v (x, y)) i = pr P i := by unfold pr; simp [List.getElem?_set, Ne.symm e]
    have n1 : ¬ (i * 2 = v * 2) := by omega
    have n2 : ¬ (i * 2 = v * 2 + 1) := by omega
    have n3 : ¬ (i * 2 + 1 = v * 2) := by omega
    rw [e1]
    exact ⟨⟨by simp [go_sem, a1, n1, n2, e], by simp [go_sem, a2, n1, n2, e]⟩, by simp [go_sem, a3, n3, e], by simp [go_sem, a4, n3, e]⟩
theorem pts_made (w : World) (n : Nat) (tp : TypeId) : PtB (w.alloc (.cells (Array.replicate (n * 2) (.int .i64 0)) tp)) w.heap.size n (List.replicate n (0, 0)) := by
  refine ⟨fun i hi => ?_, by simp, by simp⟩
  have e : pr (List.replicate n ((0 : Int), (0 : Int))) i = (0, 0) := by unfold pr; simp [hi]
  have h1 : i * 2 < n * 2 := by omega
  have h2 : i * 2 + 1 < n * 2 := by omega
  rw [e]
  exact ⟨⟨by simp [go_sem, h1], by simp [go_sem]⟩, by simp [go_sem, h2], by simp [go_sem]⟩
theorem pt_rep (m : Nat) : madeCells #[Value.int .i64 0, .int .i64 0] m = Array.replicate m (Value.int .i64 0) := by
  unfold madeCells
  apply Array.ext
  · simp
  · intro i h1 h2
    simp only [Array.getElem_map, Array.getElem_range, Array.getElem_replicate]
    rcases Nat.mod_two_eq_zero_or_one i with h | h
    · show (#[Value.int .i64 0, .int .i64 0] : Array Value)[i % 2]! = _
      rw [h]; rfl
    · show (#[Value.int .i64 0, .int .i64 0] : Array Value)[i % 2]! = _
      rw [h]; rfl
theorem infoPt : (Tryd.prog.info? 43).map (fun i => (i.zero, i.size, i.bytes)) = some (some (.agg #[.int .i64 0, .int .i64 0]), 2, 16) := by kernel_rfl
theorem mk_pts (n : Nat) (hn : n ≤ 100000) (W : World) : (Instr.makeSlice 36 (.int .i64 n) (.int .i64 n)).run Tryd.prog W = .ok (.slice (some ⟨W.heap.size, 0, none⟩) n n) (W.alloc (.cells (Array.replicate (n * 2) (.int .i64 0)) 43)) := by
  obtain ⟨i0, hi, hz0, hz1, hz2⟩ := info_parts infoPt
  have h := run_make (P := Tryd.prog) W 36 43 i0 (.agg #[.int .i64 0, .int .i64 0]) Tryd.underlying36 hi hz0 .i64 .i64 (n : Int) (n : Int) (by omega) (by omega) (by rw [hz2]; omega) (by omega)
  rw [hz1, show (Value.agg #[.int .i64 0, .int .i64 0]).cells = #[.int .i64 0, .int .i64 0] from rfl, Int.toNat_natCast, pt_rep] at h
  exact h
set_option maxRecDepth 8000 in
set_option maxHeartbeats 16000000 in
theorem draw_p (N : Int) (pE pA pL : Option Addr) (nE nA nL cE cA cL : Nat) (E : List (Int × Int)) (A : List (List Int)) (L : List Int) (w : World) (hR : RotIn w pE pA cE E A) (hL : Lim w) (hI : Ints w pL L) (hnE : E.length = nE) (hnA : A.length = nA) (hnL : L.length = nL) (hL1 : nL ≤ 1000)
    (hAc : trgB N E A = true → fitB E A L = true → Acy E A L) :
    Calls Tryd.prog 17 #[.agg #[.int .i64 N, .slice pE nE cE, .slice pA nA cA], .slice pL nL cL] w (PtsPost (drawRes N E A L).1 (drawRes N E A L).2 w) := by
  have HR := Lib.hid hR
  have HL := Lib.hid hL
  have HI := Lib.hid hI
  obtain ⟨er, her⟩ : ∃ er, err38 N E A L = er := ⟨_, rfl⟩
  have Hrd : Hid (∀ W1, Grew w W1 → Calls Tryd.prog 35 #[.agg #[.int .i64 N, .slice pE nE cE, .slice pA nA cA], .slice pL nL cL] W1 (ReadPost er N pE pA nE nA cE cA E A W1)) := Lib.hid (fun W1 h => by
    rw [← her]
    exact read_p _ _ _ _ _ _ _ _ _ _ _ _ _ _ (HR.out.grew h) (HL.out.grew h) (HI.out.grew h) hnE hnA hnL hL1)
  by_cases he0 : er = 0
  case neg =>
    have Hf : Hid (drawRes N E A L = ([], er)) := Lib.hid (by
      unfold err38 at her
      unfold drawRes
      split
      · rename_i h; rw [if_pos h] at her; rw [her]
      · rename_i h; rw [if_neg h] at her
        split
        · rename_i h2; rw [if_pos h2] at her; rw [her]
        · rename_i h2; rw [if_neg h2] at her; exact absurd her.symm he0)
    have hern : (er == 0) = false := beq_eq_false_iff_ne.2 he0
    have hern2 : (er != 0) = true := by simp [bne, hern]
    have He0 := Lib.hid he0
    clear her he0 hR hL hI hAc
    go_enter Tryd.func17, Tryd.ntmps17
    go_wp2_with (go_at_call 35; apply Calls.mono; (with_reducible exact Hrd.out _ (by (repeat (first | exact gR _ | refine gO ?_ _ | refine gA ?_ _ | refine gD ?_ | refine gN ?_ _)))); rintro e wo ⟨hgo, h⟩; have Hgo := Lib.hid ((show Grew w _ by (repeat (first | exact gR _ | refine gO ?_ _ | refine gA ?_ _ | refine gD ?_ | refine gN ?_ _))).trans hgo); clear hgo; rcases h with ⟨_, rfl⟩ | ⟨h, _⟩; rotate_left; exact absurd h He0.out)
    go_ret2
    rw [Hf.out]
    exact PtsPost.none (Hgo.out.trans (by (repeat (first | exact gR _ | refine gO ?_ _ | refine gA ?_ _ | refine gD ?_ | refine gN ?_ _))))
  subst he0
  have hT : trgB N E A = true := by
    cases h : trgB N E A
    · unfold err38 at her; rw [if_pos h] at her; omega
    · rfl
  have hF : fitB E A L = true := by
    cases h : fitB E A L
    · unfold err38 at her; rw [if_neg (by rw [hT]; simp), if_pos h] at her; omega
    · rfl
  have hS := fit_sch hT hF
  have hV := trg_valid hT
  have HAc := Lib.hid (hAc hT hF)
  have HV := Lib.hid hV
  have HS := Lib.hid hS
  have HT := Lib.hid hT
  have hNA : N = (nA : Int) := by have := hV.al; omega
  have hN3 := trg_three hT
  have hnA1 : nA ≤ 100 := by have := hR.a1; omega
  have HnA := Lib.hid hnA
  have HnE := Lib.hid hnE
  have HnL := Lib.hid hnL
  subst hNA
  have hnA3 : 3 ≤ nA := by omega
  have Hf : Hid (drawRes nA E A L = (drawL nA E A L, 0)) := Lib.hid (by unfold drawRes; rw [if_neg (by rw [hT]; simp), if_neg (by rw [hF]; simp)])
  have hmk := mk_pts nA (by omega)
  have hE0 := Lib.hid (trg_pos hT)
  have Hc0 : Hid ((w.alloc (.cells #[.int .i64 nA, .slice pE nE cE, .slice pA nA cA] 25)).cell? ⟨w.heap.size, 0, none⟩ = some (.int .i64 nA)) := Lib.hid (by simp [go_sem])
  have HwB : Hid (Grew w (w.alloc (.cells #[.int .i64 nA, .slice pE nE cE, .slice pA nA cA] 25))) := Lib.hid ((Grew.refl w).alloc _)
  have hmm := @run_makeMap Tryd.prog
  obtain ⟨s1, s2, hs1, hs2, hs1l, hs2l⟩ := sdL_nat hV hE0.out
  have Hs1 := Lib.hid hs1
  have Hs2 := Lib.hid hs2
  have he1 := hR.e1
  have a0 : ∀ W, (Instr.index 63 (.agg #[.int .i64 0, .int .i64 (s1 : Int), .int .i64 (s2 : Int)]) (.int .i64 0)).run Tryd.prog W = .ok (.int .i64 0) W := fun W => arr3_0 _ _ _ W
  have a1 : ∀ W, (Instr.index 63 (.agg #[.int .i64 0, .int .i64 (s1 : Int), .int .i64 (s2 : Int)]) (.int .i64 1)).run Tryd.prog W = .ok (.int .i64 (s1 : Int)) W := fun W => arr3_1 _ _ _ W
  have a2 : ∀ W, (Instr.index 63 (.agg #[.int .i64 0, .int .i64 (s1 : Int), .int .i64 (s2 : Int)]) (.int .i64 2)).run Tryd.prog W = .ok (.int .i64 (s2 : Int)) W := fun W => arr3_2 _ _ _ W
  clear her hR hL hI hT hF hS hV hAc hN3 hnA hnE hnL hs1 hs2
  go_enter Tryd.func17, Tryd.ntmps17
  go_upto_region 5 with (go_at_call 35; apply Calls.mono; (with_reducible exact Hrd.out _ (by (repeat (first | exact gR _ | refine gO ?_ _ | refine gA ?_ _ | refine gD ?_ | refine gN ?_ _)))); rintro e wo ⟨hgo, h⟩; have HgB := Lib.hid ((show Grew (w.alloc (.cells #[.int .i64 nA, .slice pE nE cE, .slice pA nA cA] 25)) _ by (repeat (first | exact gR _ | refine gO ?_ _ | refine gA ?_ _ | refine gD ?_ | refine gN ?_ _))).trans hgo); clear hgo; rcases h with ⟨h, _⟩ | ⟨_, b, gf, rfl, _, hPl⟩; exact absurd rfl h; have HPl := Lib.hid hPl; clear hPl; have q0 := HgB.out.cellEq Hc0.out)
  have hsw := World.block_lt_of_cell? wo _ q0
  dsimp only at hsw
  have Hgo : Hid (Grew w wo) := Lib.hid (HwB.out.trans HgB.out)
  go_upto_region 6 with fail
  have HgC : Hid (Grew wo (wo.alloc (.cells #[.int .i64 0, .int .i64 0, .int .i64 (2 * (nA : Int) - 5), .int .i64 0, .int .i64 0, .int .i64 (2 * (nA : Int) - 5)] 61))) := Lib.hid ((Grew.refl wo).alloc _)
  have Hcr : Hid (∀ k : Nat, k < 3 → (wo.alloc (.cells #[.int .i64 0, .int .i64 0, .int .i64 (2 * (nA : Int) - 5), .int .i64 0, .int .i64 0, .int .i64 (2 * (nA : Int) - 5)] 61)).cell? ⟨wo.heap.size, k * 2, none⟩ = some (.int .i64 (if k = 1 then 2 * (nA : Int) - 5 else 0)) ∧ (wo.alloc (.cells #[.int .i64 0, .int .i64 0, .int .i64 (2 * (nA : Int) - 5), .int .i64 0, .int .i64 0, .int .i64 (2 * (nA : Int) - 5)] 61)).cell? ⟨wo.heap.size, k * 2 + 1, none⟩ = some (.int .i64 (if k = 2 then 2 * (nA : Int) - 5 else 0))) := Lib.hid (fun k hk => by
    rcases (by omega : k = 0 ∨ k = 1 ∨ k = 2) with rfl | rfl | rfl
    · exact ⟨by simp [go_sem], by simp [go_sem]⟩
    · exact ⟨by simp [go_sem], by simp [go_sem]⟩
    · exact ⟨by simp [go_sem], by simp [go_sem]⟩)
  have hsC : (wo.alloc (.cells #[.int .i64 0, .int .i64 0, .int .i64 (2 * (nA : Int) - 5), .int .i64 0, .int .i64 0, .int .i64 (2 * (nA : Int) - 5)] 61)).heap.size = wo.heap.size + 1 := by simp
  obtain ⟨wC, hwC⟩ : ∃ wC, wo.alloc (.cells #[.int .i64 0, .int .i64 0, .int .i64 (2 * (nA : Int) - 5), .int .i64 0, .int .i64 0, .int .i64 (2 * (nA : Int) - 5)] 61) = wC := ⟨_, rfl⟩
  rw [hwC] at HgC Hcr hsC ⊢
  obtain ⟨bc, hbc⟩ : ∃ bc, wo.heap.size = bc := ⟨_, rfl⟩
  have Hbc := Lib.hid hbc
  rw [hbc] at Hcr hsC hsw ⊢
  have q1 := HgC.out.cellEq q0
  have hsC2 : bc < wC.heap.size := by omega
  clear hwC q0 hbc hsC
  go_upto_region 7 with fail
  have HPt0 := Lib.hid (pts_made wC nA 43)
  have HgP : Hid (Grew wC (wC.alloc (.cells (Array.replicate (nA * 2) (.int .i64 0)) 43))) := Lib.hid ((Grew.refl wC).alloc _)
  obtain ⟨wP, hwP⟩ : ∃ wP, wC.alloc (.cells (Array.replicate (nA * 2) (.int .i64 0)) 43) = wP := ⟨_, rfl⟩
  obtain ⟨g, hg⟩ : ∃ g, wC.heap.size = g := ⟨_, rfl⟩
  have Hgs := Lib.hid hg
  rw [hwP] at HPt0 HgP ⊢
  rw [hg] at HPt0 hsC2 ⊢
  clear hwP hg q1
  go_wp2
  go_loopw [43] (fun vv wr => ∃ v : Nat, v ≤ nA ∧ vv = .int .i64 v ∧ Grew wC wr ∧ ∃ P : List (Int × Int), PtB wr g nA P ∧ ∀ u, u < v → pr P u = ptF nA E A L u) (fun vv _ => nA - (intOf vv).toNat)
  case atStart => exact ⟨0, Nat.zero_le _, rfl, HgP.out.trans (by (repeat (first | exact gR _ | refine gO ?_ _ | refine gA ?_ _ | refine gD ?_ | refine gN ?_ _))), _, HPt0.out.grew (by (repeat (first | exact gR _ | refine gO ?_ _ | refine gA ?_ _ | refine gD ?_ | refine gN ?_ _))), fun u hu => by omega⟩
  case round =>
    obtain ⟨v, hv, rfl, hgr, P, hP, hall⟩ := hrel
    have Hgr := Lib.hid hgr
    have HP := Lib.hid hP
    have Hall := Lib.hid hall
    have hszr := hgr.below.size
    clear hgr hP hall
    by_cases hlt : v < nA
    · obtain ⟨r, hr⟩ : ∃ r, idx (v : Int) (rts E A) = r := ⟨_, rfl⟩
      have Hgw : Hid (Grew wo wr) := Lib.hid (HgC.out.trans Hgr.out)
      have Hrt : Hid (∀ W1, Grew wr W1 → Calls Tryd.prog 36 #[.pointer (some ⟨b, 0, none⟩), .int .i64 v] W1 fun e w' => e = .returned (.int .i64 r) ∧ W1 = w') := Lib.hid (fun W1 h => root_p HV.out hE0.out (by have := HnA.out; omega) (HPl.out.grew (Hgw.out.trans h)) v r hr)
      by_cases hr0 : 0 ≤ r
      · have hyi : (v : Int) ∈ rts E A := Classical.byContradiction fun k => by have := idx_neg_iff.2 k; omega
        have hrr := idx_range (v : Int) (rts E A)
        obtain ⟨i, hi1, hi2, _⟩ := idx_lt hyi
        have hi3 : i < 3 := by simpa [rts] using hi1
        obtain rfl : r = (i : Int) := by omega
        have Hpv : Hid (ptF nA E A L v = (if i = 1 then 2 * (nA : Int) - 5 else 0, if i = 2 then 2 * (nA : Int) - 5 else 0)) := Lib.hid (by
          unfold ptF
          rw [if_pos hyi, hi2]
          rcases (by omega : i = 0 ∨ i = 1 ∨ i = 2) with rfl | rfl | rfl
          · simp
          · simp
          · simp)
        obtain ⟨p1, p2⟩ := Hcr.out i hi3
        have p1 := Hgr.out.cellEq p1
        have p2 := Hgr.out.cellEq p2
        obtain ⟨x1, hx1⟩ : ∃ x1, (if i = 1 then 2 * (nA : Int) - 5 else 0) = x1 := ⟨_, rfl⟩
        obtain ⟨x2, hx2⟩ : ∃ x2, (if i = 2 then 2 * (nA : Int) - 5 else 0) = x2 := ⟨_, rfl⟩
        rw [hx1] at p1 Hpv
        rw [hx2] at p2 Hpv
        have hii : (i : Int) < 3 := by omega
        obtain ⟨⟨y1, y2⟩, y3, y4⟩ := HP.out.c v hlt
        have hgl := HP.out.lt
        have hvi : (v : Int) < (nA : Int) := by omega
        have hgbc : ¬ bc = g := by omega
        clear hr hyi hrr hi1 hi2 hx1 hx2 hi3
        go_wp2_with ((go_at_call 36; apply Calls.mono; (with_reducible exact Hrt.out _ (by (repeat (first | exact gR _ | refine gO ?_ _ | refine gA ?_ _ | refine gD ?_ | refine gN ?_ _)))); rintro e w' ⟨rfl, rfl⟩))
        go_roundw
        case rel => exact ⟨v + 1, by omega, by go_num, ((Hgr.out.setCell (show wC.heap.size ≤ g from Nat.le_of_eq Hgs.out) _).setCell (show wC.heap.size ≤ g from Nat.le_of_eq Hgs.out) _).trans (by (repeat (first | exact gR _ | refine gO ?_ _ | refine gA ?_ _ | refine gD ?_ | refine gN ?_ _))), P.set v (x1, x2), (HP.out.set hlt x1 x2).grew (by (repeat (first | exact gR _ | refine gO ?_ _ | refine gA ?_ _ | refine gD ?_ | refine gN ?_ _))), fun u hu => by
          by_cases e : u = v
          · rw [e, Hpv.out]; unfold pr; simp [HP.out.len, hlt]
          · have : pr (P.set v (x1, x2)) u = pr P u := by unfold pr; simp [List.getElem?_set, Ne.symm e]
            rw [this]; exact Hall.out u (by omega)⟩
        case measure => (simp [intOf] <;> omega)
      · have hni : (v : Int) ∉ rts E A := idx_neg_iff.1 (by omega)
        have Hni := Lib.hid hni
        have hrn : ¬ 0 ≤ r := hr0
        have HPw := Lib.hid (HPl.out.grew Hgw.out)
        have k0 := HPw.out.s0
        have k1 := HPw.out.s1
        have k2 := HPw.out.s2
        rw [Hs1.out] at k1
        rw [Hs2.out] at k2
        have hbl := HPw.out.lt
        clear hr hni
        obtain ⟨bm, hbm⟩ : ∃ bm, wr.heap.size = bm := ⟨_, rfl⟩
        have Hbm := Lib.hid hbm
        obtain ⟨wr2, hwr2⟩ : ∃ wr2, wr2 = wr := ⟨_, rfl⟩
        subst hwr2
        have HM0 : Hid ((wr2.alloc (.map #[] 0)).ownsMap Tryd.prog 3 (plainElem Tryd.prog 4) bm 0 (.map [] : DataW Unit)) := Lib.hid (by
          have h := World.ownsMap_made (H := Unit) wr2 Tryd.prog 3 (plainElem Tryd.prog 4)
          rw [hbm] at h
          exact h)
        have HgM : Hid (Grew wr2 (wr2.alloc (.map #[] 0))) := Lib.hid ((Grew.refl wr2).alloc _)
        go_upto_region 14 with ((go_at_call 36; apply Calls.mono; (with_reducible exact Hrt.out _ (by (repeat (first | exact gR _ | refine gO ?_ _ | refine gA ?_ _ | refine gD ?_ | refine gN ?_ _)))); rintro e w' ⟨rfl, rfl⟩))
        obtain ⟨wM, hwM⟩ : ∃ wM, wr2.alloc (.map #[] 0) = wM := ⟨_, rfl⟩
        rw [hwM] at HM0 HgM ⊢
        (try rw [hbm])
        have k0 := HgM.out.cellEq k0
        have k1 := HgM.out.cellEq k1
        have k2 := HgM.out.cellEq k2
        clear hwM hbm
        go_wp2
        go_loopw [62] (fun iv wk => ∃ i : Nat, i ≤ 3 ∧ iv = .int .i64 i ∧ Grew wr2 wk ∧ ∃ D : DataW Unit, MetI D ((sdL A).take i |>.map (· / 2)) ∧ wk.ownsMap Tryd.prog 3 (plainElem Tryd.prog 4) bm i D) (fun iv _ => 3 - (intOf iv).toNat)
        case atStart => exact ⟨0, by omega, rfl, HgM.out.trans (by (repeat (first | exact gR _ | refine gO ?_ _ | refine gA ?_ _ | refine gD ?_ | refine gN ?_ _))), _, MetI.nil, ownsMap_grew HM0.out (by (repeat (first | exact gR _ | refine gO ?_ _ | refine gA ?_ _ | refine gD ?_ | refine gN ?_ _)))⟩
        case round =>
          obtain ⟨i, hi, rfl, hgk, D, hD, hOm⟩ := hrel
          have Hgk := Lib.hid hgk
          have HD := Lib.hid hD
          have HOm := Lib.hid hOm
          have hbml := hOm.lt
          clear hgk hD hOm k0 k1 k2
          rcases (by omega : i = 0 ∨ i = 1 ∨ i = 2 ∨ 3 ≤ i) with rfl | rfl | rfl | hi3
          · have Hok : Hid (okI ((0 : Int))) := Lib.hid (okI_small (by omega))
            go_wp2_with (at_mapUpdate; refine wpList_mapUpdate_own _ rfl _ _ _ 62 rfl 3 4 mi_law Tryd.underlying62 (plainElem Tryd.prog 4) bm 0 D rfl HOm.out (by simp only [maxLen]; omega) _ _ (.int .i64 ((0 : Int))) rfl rfl (klI_eq Hok.out) (.lit (.bool true)) [] (plainElem_bool Tryd.underlying4 true) ?_; intro w2 hO2 hg2; have HOm2 := Lib.hid hO2; have Hgk2 := Lib.hid (Grew.grownBy (w0 := wr2) Hgk.out hg2 (fun k h => by have := Option.some.inj h; have := Hbm.out; omega)); clear hO2 hg2)
            go_roundw
            case rel => exact ⟨1, by omega, by go_num, Hgk2.out.trans (by (repeat (first | exact gR _ | refine gO ?_ _ | refine gA ?_ _ | refine gD ?_ | refine gN ?_ _))), _, (by
              have h := HD.out.put Hok.out
              have e : ((sdL A).take 1 |>.map (· / 2)) = ((sdL A).take 0 |>.map (· / 2)) ++ [((0 : Int))] := by
                unfold sdL
                skip
                rfl
              rw [e]
              exact h), ownsMap_grew HOm2.out (by (repeat (first | exact gR _ | refine gO ?_ _ | refine gA ?_ _ | refine gD ?_ | refine gN ?_ _)))⟩
            case measure => (simp [intOf] <;> omega)
          · have Hok : Hid (okI ((s1 : Int) / 2)) := Lib.hid (okI_small (by omega))
            go_wp2_with (at_mapUpdate; refine wpList_mapUpdate_own _ rfl _ _ _ 62 rfl 3 4 mi_law Tryd.underlying62 (plainElem Tryd.prog 4) bm 1 D rfl HOm.out (by simp only [maxLen]; omega) _ _ (.int .i64 ((s1 : Int) / 2)) rfl rfl (klI_eq Hok.out) (.lit (.bool true)) [] (plainElem_bool Tryd.underlying4 true) ?_; intro w2 hO2 hg2; have HOm2 := Lib.hid hO2; have Hgk2 := Lib.hid (Grew.grownBy (w0 := wr2) Hgk.out hg2 (fun k h => by have := Option.some.inj h; have := Hbm.out; omega)); clear hO2 hg2)
            go_roundw
            case rel => exact ⟨2, by omega, by go_num, Hgk2.out.trans (by (repeat (first | exact gR _ | refine gO ?_ _ | refine gA ?_ _ | refine gD ?_ | refine gN ?_ _))), _, (by
              have h := HD.out.put Hok.out
              have e : ((sdL A).take 2 |>.map (· / 2)) = ((sdL A).take 1 |>.map (· / 2)) ++ [((s1 : Int) / 2)] := by
                unfold sdL
                rw [Hs1.out]
                rfl
              rw [e]
              exact h), ownsMap_grew HOm2.out (by (repeat (first | exact gR _ | refine gO ?_ _ | refine gA ?_ _ | refine gD ?_ | refine gN ?_ _)))⟩
            case measure => (simp [intOf] <;> omega)
          · have Hok : Hid (okI ((s2 : Int) / 2)) := Lib.hid (okI_small (by omega))
            go_wp2_with (at_mapUpdate; refine wpList_mapUpdate_own _ rfl _ _ _ 62 rfl 3 4 mi_law Tryd.underlying62 (plainElem Tryd.prog 4) bm 2 D rfl HOm.out (by simp only [maxLen]; omega) _ _ (.int .i64 ((s2 : Int) / 2)) rfl rfl (klI_eq Hok.out) (.lit (.bool true)) [] (plainElem_bool Tryd.underlying4 true) ?_; intro w2 hO2 hg2; have HOm2 := Lib.hid hO2; have Hgk2 := Lib.hid (Grew.grownBy (w0 := wr2) Hgk.out hg2 (fun k h => by have := Option.some.inj h; have := Hbm.out; omega)); clear hO2 hg2)
            go_roundw
            case rel => exact ⟨3, by omega, by go_num, Hgk2.out.trans (by (repeat (first | exact gR _ | refine gO ?_ _ | refine gA ?_ _ | refine gD ?_ | refine gN ?_ _))), _, (by
              have h := HD.out.put Hok.out
              have e : ((sdL A).take 3 |>.map (· / 2)) = ((sdL A).take 2 |>.map (· / 2)) ++ [((s2 : Int) / 2)] := by
                unfold sdL
                rw [Hs2.out]
                rfl
              rw [e]
              exact h), ownsMap_grew HOm2.out (by (repeat (first | exact gR _ | refine gO ?_ _ | refine gA ?_ _ | refine gD ?_ | refine gN ?_ _)))⟩
            case measure => (simp [intOf] <;> omega)
          · have Hie : Hid (i = 3) := Lib.hid (by omega)
            have HD0 : Hid (MetI D (wallT E A L v 0)) := Lib.hid (by
              have e : ((sdL A).take 3 |>.map (· / 2)) = wallT E A L v 0 := rfl
              rw [← e, ← Hie.out]; exact HD.out)
            have HOm0 : Hid (wr.ownsMap Tryd.prog 3 (plainElem Tryd.prog 4) bm (wallT E A L v 0).length D) := Lib.hid (by
              have e : (wallT E A L v 0).length = i := by rw [Hie.out]; rfl
              rw [e]; exact HOm.out)
            have hi3i : ¬ (i : Int) < 3 := by omega
            clear hi3
            go_wp2
            go_loopw [69] (fun tv wk => ∃ t : Nat, t ≤ 3 ∧ tv = .int .i64 t ∧ Grew wr2 wk ∧ ∃ D : DataW Unit, MetI D (wallT E A L v t) ∧ wk.ownsMap Tryd.prog 3 (plainElem Tryd.prog 4) bm (wallT E A L v t).length D) (fun tv _ => 3 - (intOf tv).toNat)
            case atStart => exact ⟨0, by omega, rfl, Hgk.out.trans (by (repeat (first | exact gR _ | refine gO ?_ _ | refine gA ?_ _ | refine gD ?_ | refine gN ?_ _))), _, HD0.out, ownsMap_grew HOm0.out (by (repeat (first | exact gR _ | refine gO ?_ _ | refine gA ?_ _ | refine gD ?_ | refine gN ?_ _)))⟩
            case round =>
              clear HD HD0 Hgk HOm HOm0 hbml
              obtain ⟨t, ht, rfl, hgk, D, hD, hOm⟩ := hrel
              have Hgk := Lib.hid hgk
              have HD := Lib.hid hD
              have HOm := Lib.hid hOm
              have hbml := hOm.lt
              clear hgk hD hOm
              by_cases htl : t < 3
              · have hti : (t : Int) < 3 := by omega
                have Hend : Hid (endF E A L t A.length (v : Int) ∈ rts E A) := Lib.hid (HAc.out t v htl (by have := HnA.out; omega))
                have hwl : (wallT E A L v (t + 1)).length ≤ 403 := by
                  have h1 := wallT_len E A L v (t + 1)
                  have h2 := HnA.out
                  rw [h2] at h1
                  have : (t + 1) * nA ≤ 3 * nA := Nat.mul_le_mul_right _ (by omega)
                  omega
                go_wp2
                go_loopg [17] (A.length) (fun k uv wk => ∃ u : Nat, uv = .int .i64 u ∧ u < nA ∧ endF E A L t k (u : Int) ∈ rts E A ∧ Grew wr2 wk ∧ ∃ (D : DataW Unit) (V : List Int), MetI D V ∧ V ++ pathW E A L t k (u : Int) = wallT E A L v (t + 1) ∧ wk.ownsMap Tryd.prog 3 (plainElem Tryd.prog 4) bm V.length D)
                case atStart => exact ⟨v, rfl, hlt, Hend.out, Hgk.out.trans (by (repeat (first | exact gR _ | refine gO ?_ _ | refine gA ?_ _ | refine gD ?_ | refine gN ?_ _))), D, _, HD.out, rfl, ownsMap_grew HOm.out (by (repeat (first | exact gR _ | refine gO ?_ _ | refine gA ?_ _ | refine gD ?_ | refine gN ?_ _)))⟩
                case round =>
                  obtain ⟨u, rfl, hul, hend, hgk4, D4, V, hD4, hV4, hOm4⟩ := hrel
                  have Hgk4 := Lib.hid hgk4
                  have HD4 := Lib.hid hD4
                  have HOm4 := Lib.hid hOm4
                  have HV4 := Lib.hid hV4
                  have Hend4 := Lib.hid hend
                  have hbml4 := hOm4.lt
                  have hVl : V.length ≤ 403 := by
                    have := congrArg List.length hV4
                    rw [List.length_append] at this
                    omega
                  clear hgk4 hD4 hOm4 hV4 hend
                  obtain ⟨r2, hr2⟩ : ∃ r2, idx (u : Int) (rts E A) = r2 := ⟨_, rfl⟩
                  have Hrt2 : Hid (∀ W1, Grew wr2 W1 → Calls Tryd.prog 36 #[.pointer (some ⟨b, 0, none⟩), .int .i64 u] W1 fun e w' => e = .returned (.int .i64 r2) ∧ W1 = w') := Lib.hid (fun W1 h => root_p HV.out hE0.out (by have := HnA.out; omega) (HPl.out.grew (Hgw.out.trans h)) u r2 hr2)
                  by_cases hr20 : r2 < 0
                  · have hni : (u : Int) ∉ rts E A := idx_neg_iff.1 (by omega)
                    obtain ⟨k', hk'⟩ : ∃ k', gk = k' + 1 := by
                      cases gk with
                      | zero => exact absurd Hend4.out hni
                      | succ n => exact ⟨n, rfl⟩
                    subst hk'
                    have hpos := at_pos HT.out HS.out (v := u) (t := t) (by have := HnA.out; omega) hni htl
                    have hup := up_dart HT.out HS.out (v := u) (t := t) (by have := HnA.out; omega) hni htl
                    obtain ⟨d, hd⟩ : ∃ d : Nat, upF A L t u = (d : Int) := ⟨(upF A L t u).toNat, by have := hup.1.1; omega⟩
                    have hd2 : d < 2 * E.length := by have := hup.1.2; omega
                    obtain ⟨o, ho⟩ : ∃ o : Nat, oth (d : Int) = (o : Int) := ⟨(oth d).toNat, by have := oth_in (d := d) (M := E.length) (by omega) (by omega); omega⟩
                    have ho2 : o < 2 * E.length := by have := oth_in (d := d) (M := E.length) (by omega) (by omega); omega
                    have hx2 : bits BinOp.xor IntKind.i64 (d : Int) 1 = (o : Int) := by rw [← ho]; exact xor_small d (by omega)
                    have hpar : parF E A L t u = tailE E o := by unfold parF; rw [hd, ho]
                    have hhr := head_in HV.out hup.1.oth
                    rw [hd, ho] at hhr
                    obtain ⟨u', hu'⟩ : ∃ u' : Nat, tailE E o = (u' : Int) := ⟨(tailE E o).toNat, by omega⟩
                    have hu'l : u' < nA := by have := HnA.out; omega
                    have Hend5 : Hid (endF E A L t k' (u' : Int) ∈ rts E A) := Lib.hid (by
                      have := Hend4.out
                      unfold endF at this
                      rw [if_neg hni, hpar, hu'] at this
                      exact this)
                    have HV5 : Hid ((V ++ [(d : Int) / 2]) ++ pathW E A L t k' (u' : Int) = wallT E A L v (t + 1)) := Lib.hid (by
                      have := HV4.out
                      unfold pathW at this
                      rw [if_neg hni, hpar, hu', hd] at this
                      rw [← this]; simp)
                    have Hup : Hid (∀ W1, Grew wr2 W1 → Calls Tryd.prog 37 #[.pointer (some ⟨b, 0, none⟩), .slice pL nL cL, .int .i64 u, .int .i64 t] W1 fun e w' => e = .returned (.int .i64 (d : Int)) ∧ Grew W1 w') := Lib.hid (fun W1 h => up_p HV.out (HPl.out.grew (Hgw.out.trans h)) (HR.out.hA.grew (Hgo.out.trans (Hgw.out.trans h))) HnA.out pL nL cL (HI.out.grew (Hgo.out.trans (Hgw.out.trans h))) HnL.out HS.out.len hL1 u (by have := HnA.out; omega) t hpos _ hd)
                    have Htl : Hid (∀ W1, Grew wr2 W1 → Calls Tryd.prog 31 #[.pointer (some ⟨b, 0, none⟩), .int .i64 o] W1 fun e w' => e = .returned (.int .i64 (u' : Int)) ∧ W1 = w') := Lib.hid (fun W1 h => by
                      have := tail38_c b pE nE cE E W1 (HPl.out.grew (Hgw.out.trans h)).c1 (HR.out.hE.grew (Hgo.out.trans (Hgw.out.trans h))) HnE.out HR.out.e1 o ho2
                      rw [hu'] at this
                      exact this)
                    have Hokd : Hid (okI ((d : Int) / 2)) := Lib.hid (okI_small (by omega))
                    clear hr2 hni hpos hup hd ho hpar hhr hu'
                    go_wp2_with (first
                      | ((go_at_call 36; apply Calls.mono; (with_reducible exact Hrt2.out _ (Hgk4.out.trans (by (repeat (first | exact gR _ | refine gO ?_ _ | refine gA ?_ _ | refine gD ?_ | refine gN ?_ _))))); rintro e w' ⟨rfl, rfl⟩))
                      | (go_at_call 37; apply Calls.mono; (with_reducible exact Hup.out _ (Hgk4.out.trans (by (repeat (first | exact gR _ | refine gO ?_ _ | refine gA ?_ _ | refine gD ?_ | refine gN ?_ _))))); rintro e wu ⟨rfl, hgu⟩; have Hgu2 := Lib.hid ((show Grew wr _ by (repeat (first | exact gR _ | refine gO ?_ _ | refine gA ?_ _ | refine gD ?_ | refine gN ?_ _))).trans hgu); clear hgu)
                      | (at_mapUpdate; refine wpList_mapUpdate_own _ rfl _ _ _ 62 rfl 3 4 mi_law Tryd.underlying62 (plainElem Tryd.prog 4) bm V.length D4 rfl (ownsMap_grew HOm4.out (Hgu2.out.trans (by (repeat (first | exact gR _ | refine gO ?_ _ | refine gA ?_ _ | refine gD ?_ | refine gN ?_ _))))) (by simp only [maxLen]; omega) _ _ (.int .i64 ((d : Int) / 2)) rfl rfl (klI_eq Hokd.out) (.lit (.bool true)) [] (plainElem_bool Tryd.underlying4 true) ?_; intro w5 hO5 hg5; have HOm5 := Lib.hid hO5; have Hgk5 := Lib.hid (Grew.grownBy (w0 := wr2) (Hgk4.out.trans (Hgu2.out.trans (by (repeat (first | exact gR _ | refine gO ?_ _ | refine gA ?_ _ | refine gD ?_ | refine gN ?_ _))))) hg5 (fun k h => by have := Option.some.inj h; have := Hbm.out; omega)); clear hO5 hg5)
                      | ((go_at_call 31; apply Calls.mono; (with_reducible exact Htl.out _ (Hgk5.out.trans (by (repeat (first | exact gR _ | refine gO ?_ _ | refine gA ?_ _ | refine gD ?_ | refine gN ?_ _))))); rintro e w' ⟨rfl, rfl⟩)))
                    go_roundg k'
                    case rel => exact ⟨u', rfl, hu'l, Hend5.out, Hgk5.out.trans (by (repeat (first | exact gR _ | refine gO ?_ _ | refine gA ?_ _ | refine gD ?_ | refine gN ?_ _))), _, V ++ [(d : Int) / 2], HD4.out.put Hokd.out, HV5.out, by rw [List.length_append]; exact ownsMap_grew HOm5.out (by (repeat (first | exact gR _ | refine gO ?_ _ | refine gA ?_ _ | refine gD ?_ | refine gN ?_ _)))⟩
                    case measure => omega
                  · have hyi : (u : Int) ∈ rts E A := Classical.byContradiction fun k => by have := idx_neg_iff.2 k; omega
                    have HV5 : Hid (V = wallT E A L v (t + 1)) := Lib.hid (by
                      have := HV4.out
                      rw [pathW_root hyi, List.append_nil] at this
                      exact this)
                    clear hr2 hyi
                    go_wp2_with ((go_at_call 36; apply Calls.mono; (with_reducible exact Hrt2.out _ (Hgk4.out.trans (by (repeat (first | exact gR _ | refine gO ?_ _ | refine gA ?_ _ | refine gD ?_ | refine gN ?_ _))))); rintro e w' ⟨rfl, rfl⟩))
                    go_roundw
                    case rel => exact ⟨t + 1, by omega, by go_num, Hgk4.out.trans (by (repeat (first | exact gR _ | refine gO ?_ _ | refine gA ?_ _ | refine gD ?_ | refine gN ?_ _))), D4, by rw [← HV5.out]; exact HD4.out, by rw [← HV5.out]; exact ownsMap_grew HOm4.out (by (repeat (first | exact gR _ | refine gO ?_ _ | refine gA ?_ _ | refine gD ?_ | refine gN ?_ _)))⟩
                    case measure => (simp [intOf] <;> omega)
              · have Hte : Hid (t = 3) := Lib.hid (by omega)
                have HDw : Hid (MetI D (wallF E A L v)) := Lib.hid (by unfold wallF; rw [← Hte.out]; exact HD.out)
                have hti : ¬ (t : Int) < 3 := by omega
                obtain ⟨o2, ho2⟩ : ∃ o2 : Nat, oth (s2 : Int) = (o2 : Int) := ⟨(oth s2).toNat, by have := oth_in (d := s2) (M := E.length) (by omega) (by omega); omega⟩
                have ho2l : o2 < 2 * E.length := by have := oth_in (d := s2) (M := E.length) (by omega) (by omega); omega
                have hx2 : bits BinOp.xor IntKind.i64 (s2 : Int) 1 = (o2 : Int) := by rw [← ho2]; exact xor_small s2 (by omega)
                have hx0 : bits BinOp.xor IntKind.i64 0 1 = 1 := by have := xor_small 0 (by omega); rw [show oth ((0 : Nat) : Int) = 1 by decide] at this; exact this
                obtain ⟨n1, hn1⟩ : ∃ n1, regF nA E A L v (oth (nxF A (nxF A 0))) = n1 := ⟨_, rfl⟩
                obtain ⟨n2, hn2⟩ : ∃ n2, regF nA E A L v 1 = n2 := ⟨_, rfl⟩
                have Hpv : Hid (ptF nA E A L v = ((n1 : Int), (n2 : Int))) := Lib.hid (by unfold ptF; rw [if_neg Hni.out, hn1, hn2])
                have Hr1 : Hid (∀ W1, Grew wr W1 → Calls Tryd.prog 44 #[.pointer (some ⟨b, 0, none⟩), .map (some bm), .int .i64 (o2 : Int)] W1 fun e w' => e = .returned (.int .i64 (n1 : Int)) ∧ Grew W1 w') := Lib.hid (fun W1 h => by
                  have := region_p HV.out HR.out.e1 (HPl.out.grew (Hgw.out.trans (Hgk.out.trans h))) HnE.out bm _ D _ HDw.out (ownsMap_grew HOm.out h) o2 ho2l
                  have e : regN (edgR (2 * E.length) (faceL nA E A) (wallF E A L v)) (facesO nA E A).length (ge (faceL nA E A) o2) = n1 := by
                    rw [← hn1]
                    unfold regF
                    rw [Hs2.out, ho2, Int.toNat_natCast]
                  rw [e] at this
                  exact this)
                have Hr2 : Hid (∀ W1, Grew wr W1 → Calls Tryd.prog 44 #[.pointer (some ⟨b, 0, none⟩), .map (some bm), .int .i64 1] W1 fun e w' => e = .returned (.int .i64 (n2 : Int)) ∧ Grew W1 w') := Lib.hid (fun W1 h => by
                  have := region_p HV.out HR.out.e1 (HPl.out.grew (Hgw.out.trans (Hgk.out.trans h))) HnE.out bm _ D _ HDw.out (ownsMap_grew HOm.out h) 1 (by have := hE0.out; omega)
                  have e : regN (edgR (2 * E.length) (faceL nA E A) (wallF E A L v)) (facesO nA E A).length (ge (faceL nA E A) 1) = n2 := by
                    rw [← hn2]; rfl
                  rw [e] at this
                  exact this)
                have HP5 := Lib.hid (HP.out.grew Hgk.out)
                have HPl5 := Lib.hid (HPl.out.grew (Hgw.out.trans Hgk.out))
                have z4 := HPl5.out.s0
                have z6 := HPl5.out.s2
                rw [Hs2.out] at z6
                have hvi : (v : Int) < (nA : Int) := by omega
                have hbl5 := HPl5.out.lt
                clear ho2 hn1 hn2 k0 k1 k2
                go_upto_region 28 with fail
                refine wp_region_T (s := 23) (S := fun w' => w'.cell? ⟨b, 4, none⟩ = some (.int .i64 0) ∧ w'.cell? ⟨b, 6, none⟩ = some (.int .i64 (s2 : Int))) (by kernel_rfl) ⟨by simpa using z4, by simpa using z6⟩ (fun hH => ?_)
                refine wpAnyT_takeV (i := 0) (v := ?_) rfl (by kernel_rfl) (by kernel_rfl) (by kernel_rfl) (by decide) (fun _ _ _ h => h) (Or.inl ⟨by rfl, ?_⟩) (by assumption) ?_
                rotate_left
                · (intro w hSw; (try dsimp only at hSw); go_simp; (try with_reducible rfl))
                (try simp only [Act.put, List.setIfInBounds_toArray, List.set_cons_zero, List.set_cons_succ])
                refine wpAnyT_takeV (i := 1) (v := ?_) rfl (by kernel_rfl) (by kernel_rfl) (by kernel_rfl) (by decide) (fun _ _ _ h => h) (Or.inl ⟨by rfl, ?_⟩) (by assumption) ?_
                rotate_left
                · (intro w hSw; (try dsimp only at hSw); go_simp; (try with_reducible rfl))
                (try simp only [Act.put, List.setIfInBounds_toArray, List.set_cons_zero, List.set_cons_succ])
                refine wpAnyT_takeV (i := 2) (v := ?_) rfl (by kernel_rfl) (by kernel_rfl) (by kernel_rfl) (by decide) (fun _ _ _ h => h) (Or.inl ⟨by rfl, ?_⟩) (by assumption) ?_
                rotate_left
                · (intro w hSw; (try dsimp only at hSw); go_simp; (try with_reducible rfl))
                (try simp only [Act.put, List.setIfInBounds_toArray, List.set_cons_zero, List.set_cons_succ])
                refine wpAnyT_takeV (i := 3) (v := ?_) rfl (by kernel_rfl) (by kernel_rfl) (by kernel_rfl) (by decide) (fun _ _ _ h => h) (Or.inl ⟨by rfl, ?_⟩) (by assumption) ?_
                rotate_left
                · (intro w hSw; (try dsimp only at hSw); go_simp; (try with_reducible rfl))
                (try simp only [Act.put, List.setIfInBounds_toArray, List.set_cons_zero, List.set_cons_succ])
                refine wpAnyT_takeV (i := 4) (v := ?_) rfl (by kernel_rfl) (by kernel_rfl) (by kernel_rfl) (by decide) (fun _ _ _ h => h) (Or.inl ⟨by rfl, ?_⟩) (by assumption) ?_
                rotate_left
                · (intro w hSw; (try dsimp only at hSw); go_simp; (try with_reducible rfl))
                (try simp only [Act.put, List.setIfInBounds_toArray, List.set_cons_zero, List.set_cons_succ])
                refine wpAnyT_takeV (i := 5) (v := ?_) rfl (by kernel_rfl) (by kernel_rfl) (by kernel_rfl) (by decide) (fun _ _ _ h => h) (Or.inl ⟨by rfl, ?_⟩) (by assumption) ?_
                rotate_left
                · (intro w hSw; (try dsimp only at hSw); go_simp; (try with_reducible rfl))
                (try simp only [Act.put, List.setIfInBounds_toArray, List.set_cons_zero, List.set_cons_succ])
                refine wpAnyT_takeV (i := 6) (v := ?_) rfl (by kernel_rfl) (by kernel_rfl) (by kernel_rfl) (by decide) (fun _ _ _ h => h) (Or.inl ⟨by rfl, ?_⟩) (by assumption) ?_
                rotate_left
                · (intro w hSw; (try dsimp only at hSw); go_simp; (try with_reducible rfl))
                (try simp only [Act.put, List.setIfInBounds_toArray, List.set_cons_zero, List.set_cons_succ])
                refine wpAnyT_takeV (i := 7) (v := ?_) rfl (by kernel_rfl) (by kernel_rfl) (by kernel_rfl) (by decide) (fun _ _ _ h => h) (Or.inl ⟨by rfl, ?_⟩) (by assumption) ?_
                rotate_left
                · (intro w hSw; (try dsimp only at hSw); go_simp; (try with_reducible rfl))
                (try simp only [Act.put, List.setIfInBounds_toArray, List.set_cons_zero, List.set_cons_succ])
                refine wpAnyT_takeV (i := 8) (v := ?_) rfl (by kernel_rfl) (by kernel_rfl) (by kernel_rfl) (by decide) (fun _ _ _ h => h) (Or.inl ⟨by rfl, ?_⟩) (by assumption) ?_
                rotate_left
                · (intro w hSw; (try dsimp only at hSw); go_simp; (try with_reducible rfl))
                (try simp only [Act.put, List.setIfInBounds_toArray, List.set_cons_zero, List.set_cons_succ])
                refine wpAnyT_takeV (i := 9) (v := ?_) rfl (by kernel_rfl) (by kernel_rfl) (by kernel_rfl) (by decide) (fun _ _ _ h => h) (Or.inl ⟨by rfl, ?_⟩) (by assumption) ?_
                rotate_left
                · (intro w hSw; (try dsimp only at hSw); go_simp; (try with_reducible rfl))
                (try simp only [Act.put, List.setIfInBounds_toArray, List.set_cons_zero, List.set_cons_succ])
                refine wpAnyT_takeV (i := 11) (v := ?_) rfl (by kernel_rfl) (by kernel_rfl) (by kernel_rfl) (by decide) (fun _ _ _ h => h) (Or.inl ⟨by rfl, ?_⟩) (by assumption) ?_
                rotate_left
                · (intro w hSw; (try dsimp only at hSw); go_simp; (try with_reducible rfl))
                (try simp only [Act.put, List.setIfInBounds_toArray, List.set_cons_zero, List.set_cons_succ])
                refine wpAnyT_takeV (i := 12) (v := ?_) rfl (by kernel_rfl) (by kernel_rfl) (by kernel_rfl) (by decide) (fun _ _ _ h => h) (Or.inl ⟨by rfl, ?_⟩) (by assumption) ?_
                rotate_left
                · (intro w hSw; (try dsimp only at hSw); go_simp; (try with_reducible rfl))
                (try simp only [Act.put, List.setIfInBounds_toArray, List.set_cons_zero, List.set_cons_succ])
                refine wpAnyT_takeV (i := 13) (v := ?_) rfl (by kernel_rfl) (by kernel_rfl) (by kernel_rfl) (by decide) (fun _ _ _ h => h) (Or.inl ⟨by rfl, ?_⟩) (by assumption) ?_
                rotate_left
                · (intro w hSw; (try dsimp only at hSw); go_simp; (try with_reducible rfl))
                (try simp only [Act.put, List.setIfInBounds_toArray, List.set_cons_zero, List.set_cons_succ])
                refine wpAnyT_takeV (i := 14) (v := ?_) rfl (by kernel_rfl) (by kernel_rfl) (by kernel_rfl) (by decide) (fun _ _ _ h => h) (Or.inl ⟨by rfl, ?_⟩) (by assumption) ?_
                rotate_left
                · (intro w hSw; (try dsimp only at hSw); go_simp; (try with_reducible rfl))
                (try simp only [Act.put, List.setIfInBounds_toArray, List.set_cons_zero, List.set_cons_succ])
                refine wpAnyT_takeV (i := 15) (v := ?_) rfl (by kernel_rfl) (by kernel_rfl) (by kernel_rfl) (by decide) (fun _ _ _ h => h) (Or.inl ⟨by rfl, ?_⟩) (by assumption) ?_
                rotate_left
                · (intro w hSw; (try dsimp only at hSw); go_simp; (try with_reducible rfl))
                (try simp only [Act.put, List.setIfInBounds_toArray, List.set_cons_zero, List.set_cons_succ])
                refine wpAnyT_takeV (i := 16) (v := ?_) rfl (by kernel_rfl) (by kernel_rfl) (by kernel_rfl) (by decide) (fun _ _ _ h => h) (Or.inl ⟨by rfl, ?_⟩) (by assumption) ?_
                rotate_left
                · (intro w hSw; (try dsimp only at hSw); go_simp; (try with_reducible rfl))
                (try simp only [Act.put, List.setIfInBounds_toArray, List.set_cons_zero, List.set_cons_succ])
                refine wpAnyT_takeV (i := 17) (v := ?_) rfl (by kernel_rfl) (by kernel_rfl) (by kernel_rfl) (by decide) (fun _ _ _ h => h) (Or.inl ⟨by rfl, ?_⟩) (by assumption) ?_
                rotate_left
                · (intro w hSw; (try dsimp only at hSw); go_simp; (try with_reducible rfl))
                (try simp only [Act.put, List.setIfInBounds_toArray, List.set_cons_zero, List.set_cons_succ])
                refine wpAnyT_takeV (i := 18) (v := ?_) rfl (by kernel_rfl) (by kernel_rfl) (by kernel_rfl) (by decide) (fun _ _ _ h => h) (Or.inl ⟨by rfl, ?_⟩) (by assumption) ?_
                rotate_left
                · (intro w hSw; (try dsimp only at hSw); go_simp; (try with_reducible rfl))
                (try simp only [Act.put, List.setIfInBounds_toArray, List.set_cons_zero, List.set_cons_succ])
                obtain ⟨wk, hwk⟩ : ∃ wk, wr.drew = wk := ⟨_, rfl⟩
                have Hcur : Hid (Grew wr wk) := Lib.hid (by rw [← hwk]; exact (Grew.refl wr).drew)
                rw [hwk] at hH ⊢
                replace z4 := hH.1
                replace z6 := hH.2
                clear hwk
                refine wpAnyT_all (rs := [10]) (by kernel_rfl) (by simp) (AllT.consL (i := 10) rfl (fun K hK => ?_) AllT.nil)
                go_simp; go_wp2_with (go_at_call 44; apply Calls.mono; (with_reducible exact Hr1.out _ (Hcur.out.trans (by (repeat (first | exact gR _ | refine gO ?_ _ | refine gA ?_ _ | refine gD ?_ | refine gN ?_ _))))); rintro e wk ⟨rfl, hgk9⟩; have hgk8 := Grew.trans (by (repeat (first | exact gR _ | refine gO ?_ _ | refine gA ?_ _ | refine gD ?_ | refine gN ?_ _))) hgk9; have Hcur := Lib.hid (Hcur.out.trans hgk8); have z4 := hgk8.cellEq z4; have z6 := hgk8.cellEq z6; clear hgk8 hgk9)
                refine hK.out _ _ ?_ (fun hH => ?_)
                · (first | (simp [go_sem, ↓IntWalk.iteOmega, *]; done) | go_keep)
                clear hK K
                (try simp only [Act.put, List.setIfInBounds_toArray, List.set_cons_zero, List.set_cons_succ])
                refine wpAnyT_all (rs := [19]) (by kernel_rfl) (by simp) (AllT.consL (i := 19) rfl (fun K hK => ?_) AllT.nil)
                go_simp; go_wp2_with (go_at_call 44; apply Calls.mono; (with_reducible exact Hr2.out _ (Hcur.out.trans (by (repeat (first | exact gR _ | refine gO ?_ _ | refine gA ?_ _ | refine gD ?_ | refine gN ?_ _))))); rintro e wk ⟨rfl, hgk9⟩; have hgk8 := Grew.trans (by (repeat (first | exact gR _ | refine gO ?_ _ | refine gA ?_ _ | refine gD ?_ | refine gN ?_ _))) hgk9; have Hcur := Lib.hid (Hcur.out.trans hgk8); have z4 := hgk8.cellEq z4; have z6 := hgk8.cellEq z6; clear hgk8 hgk9)
                refine hK.out _ _ ?_ (fun hH => ?_)
                · (first | (simp [go_sem, ↓IntWalk.iteOmega, *]; done) | go_keep)
                clear hK K
                (try simp only [Act.put, List.setIfInBounds_toArray, List.set_cons_zero, List.set_cons_succ])
                refine wpAnyT_takeV (i := 20) (v := ?_) rfl (by kernel_rfl) (by kernel_rfl) (by kernel_rfl) (by decide) (fun _ _ _ h => h) (Or.inl ⟨by rfl, ?_⟩) (by assumption) ?_
                rotate_left
                · (intro w hSw; (try dsimp only at hSw); go_simp; (try with_reducible rfl))
                (try simp only [Act.put, List.setIfInBounds_toArray, List.set_cons_zero, List.set_cons_succ])
                refine wpAnyT_takeV (i := 21) (v := ?_) rfl (by kernel_rfl) (by kernel_rfl) (by kernel_rfl) (by decide) (fun _ _ _ h => h) (Or.inl ⟨by rfl, ?_⟩) (by assumption) ?_
                rotate_left
                · (intro w hSw; (try dsimp only at hSw); go_simp; (try with_reducible rfl))
                (try simp only [Act.put, List.setIfInBounds_toArray, List.set_cons_zero, List.set_cons_succ])
                have HP6 := Lib.hid (HP5.out.grew Hcur.out)
                obtain ⟨⟨y1, y2⟩, y3, y4⟩ := HP6.out.c v hlt
                have hgl := HP6.out.lt
                have hbg : ¬ b = g := by have := Hgs.out; have := HgC.out.below.size; have := HPl.out.lt; omega
                have Hset := Lib.hid (HP6.out.set hlt (n1 : Int) (n2 : Int))
                refine wpAnyT_all (rs := [22]) (by kernel_rfl) (by simp) (AllT.consL (i := 22) rfl (fun K hK => ?_) AllT.nil)
                go_simp
                refine hK.out _ _ ?_ (fun hH => ?_)
                · (first | (simp [go_sem, ↓IntWalk.iteOmega, *]; done) | go_keep)
                clear hK K
                (try simp only [Act.put, List.setIfInBounds_toArray, List.set_cons_zero, List.set_cons_succ])
                refine wpAnyT_done (by kernel_rfl) ?_ _
                go_wp2_with fail
                go_roundw
                case rel => exact ⟨v + 1, by omega, by go_num, (((Hgr.out.trans (Hgk.out.trans Hcur.out)).setCell (show wC.heap.size ≤ g from Nat.le_of_eq Hgs.out) _).setCell (show wC.heap.size ≤ g from Nat.le_of_eq Hgs.out) _).trans (by (repeat (first | exact gR _ | refine gO ?_ _ | refine gA ?_ _ | refine gD ?_ | refine gN ?_ _))), P.set v ((n1 : Int), (n2 : Int)), Hset.out.grew (by (repeat (first | exact gR _ | refine gO ?_ _ | refine gA ?_ _ | refine gD ?_ | refine gN ?_ _))), fun u hu => by
                  by_cases e : u = v
                  · rw [e, Hpv.out]; unfold pr; simp [HP.out.len, hlt]
                  · have : pr (P.set v ((n1 : Int), (n2 : Int))) u = pr P u := by unfold pr; simp [List.getElem?_set, Ne.symm e]
                    rw [this]; exact Hall.out u (by omega)⟩
                case measure => (simp [intOf] <;> omega)
    · obtain rfl : v = nA := by omega
      have HdL : Hid ((drawL v E A L).length = v) := Lib.hid (by unfold drawL; rw [List.length_map, List.length_range]; exact HnA.out)
      go_wp2
      go_ret2
      rw [Hf.out]
      refine ⟨Hgo.out.trans (HgC.out.trans (Hgr.out.trans (by (repeat (first | exact gR _ | refine gO ?_ _ | refine gA ?_ _ | refine gD ?_ | refine gN ?_ _))))), some ⟨g, 0, none⟩, v, by rw [HdL.out]; rfl, ⟨by rw [HdL.out]; omega, g, 0, fun _ => ⟨rfl, ?_⟩, fun i hi => ?_⟩, by rw [HdL.out]; exact Nat.le_refl _, by simp only [maxLen]; omega⟩
      · exact (HP.out.grew (show Grew wr _ by (repeat (first | exact gR _ | refine gO ?_ _ | refine gA ?_ _ | refine gD ?_ | refine gN ?_ _)))).lt
      · rw [HdL.out] at hi
        obtain ⟨⟨c1, _⟩, c2, _⟩ := (HP.out.grew (show Grew wr _ by (repeat (first | exact gR _ | refine gO ?_ _ | refine gA ?_ _ | refine gD ?_ | refine gN ?_ _)))).c i hi
        have e : pr (drawL v E A L) i = pr P i := by
          rw [Hall.out i hi]
          unfold drawL pr
          have : i < A.length := by have := HnA.out; omega
          simp [this]
        rw [e, Nat.zero_add]
        exact ⟨c1, c2⟩
end Go.Proofs.YtlealdicoceekaaDoor

/- The reference: walls (printed by gen_refg.py). -/
namespace Go.Proofs.YtlealdicoceekaaDoor
open Go.RowKit
attribute [local go_sem ↓] Go.wp_at_zero Go.wp_at_succ

section
variable {N : Int} {E : List (Int × Int)} {A : List (List Int)} {L : List Int}
/-- dart returns the one dart between two joined vertices. -/
theorem dartF_sound {a b : Int} : dartF E a b = -1 ∧ (∀ d, isD E d → ¬ (tailE E d = a ∧ tailE E (oth d) = b)) ∨ ∃ x, isD E x ∧ dartF E a b = x ∧ tailE E x = a ∧ tailE E (oth x) = b := by
  have hpr : ∀ i : Nat, tailE E (2 * (i : Int)) = (pr E i).1 ∧ tailE E (2 * (i : Int) + 1) = (pr E i).2 := fun i => by
    refine ⟨?_, ?_⟩
    · unfold tailE; rw [if_pos (by omega), show (2 * (i : Int) / 2).toNat = i by omega]
    · unfold tailE; rw [if_neg (by omega), show ((2 * (i : Int) + 1) / 2).toNat = i by omega]
  have hdi : ∀ d, isD E d → ∃ i : Nat, i < E.length ∧ (d = 2 * (i : Int) ∨ d = 2 * (i : Int) + 1) := fun d hd => ⟨(d / 2).toNat, by have := hd.1; have := hd.2; omega, by have := hd.1; have := hd.2; omega⟩
  have hoe : ∀ i : Nat, oth (2 * (i : Int)) = 2 * (i : Int) + 1 := oth_even
  have hoo : ∀ i : Nat, oth (2 * (i : Int) + 1) = 2 * (i : Int) := oth_odd
  by_cases hex : ∃ k : Nat, k < E.length ∧ (((pr E k).1 = a ∧ (pr E k).2 = b) ∨ ((pr E k).1 = b ∧ (pr E k).2 = a))
  · have hmin : ∃ k : Nat, k < E.length ∧ (((pr E k).1 = a ∧ (pr E k).2 = b) ∨ ((pr E k).1 = b ∧ (pr E k).2 = a)) ∧ ∀ j, j < k → ¬ ((pr E j).1 = a ∧ (pr E j).2 = b) ∧ ¬ ((pr E j).1 = b ∧ (pr E j).2 = a) := by
      obtain ⟨k, hk⟩ := hex
      have key : ∀ n k : Nat, k ≤ n → (k < E.length ∧ (((pr E k).1 = a ∧ (pr E k).2 = b) ∨ ((pr E k).1 = b ∧ (pr E k).2 = a))) → ∃ k : Nat, k < E.length ∧ (((pr E k).1 = a ∧ (pr E k).2 = b) ∨ ((pr E k).1 = b ∧ (pr E k).2 = a)) ∧ ∀ j, j < k → ¬ ((pr E j).1 = a ∧ (pr E j).2 = b) ∧ ¬ ((pr E j).1 = b ∧ (pr E j).2 = a) := by
        intro n
        induction n with
        | zero => exact fun k h1 h2 => ⟨k, h2.1, h2.2, fun j hj => by omega⟩
        | succ n ih =>
          intro k h1 h2
          by_cases h : ∃ j, j < k ∧ (((pr E j).1 = a ∧ (pr E j).2 = b) ∨ ((pr E j).1 = b ∧ (pr E j).2 = a))
          · obtain ⟨j, hj, hj2⟩ := h
            exact ih j (by omega) ⟨by omega, hj2⟩
          · exact ⟨k, h2.1, h2.2, fun j hj => ⟨fun e => h ⟨j, hj, .inl e⟩, fun e => h ⟨j, hj, .inr e⟩⟩⟩
      exact key k k (Nat.le_refl _) hk
    obtain ⟨k, hk, hor, hall⟩ := hmin
    obtain ⟨d1, d2⟩ := dartF_at (a := a) (b := b) k hk hall
    by_cases h1 : (pr E k).1 = a ∧ (pr E k).2 = b
    · exact .inr ⟨2 * (k : Int), ⟨by omega, by omega⟩, d1 h1, by rw [(hpr k).1]; exact h1.1, by rw [hoe, (hpr k).2]; exact h1.2⟩
    · have h2 := hor.resolve_left h1
      exact .inr ⟨2 * (k : Int) + 1, ⟨by omega, by omega⟩, d2 h1 h2, by rw [(hpr k).2]; exact h2.2, by rw [hoo, (hpr k).1]; exact h2.1⟩
  · refine .inl ⟨dartF_none fun i hi => ⟨fun e => hex ⟨i, hi, .inl e⟩, fun e => hex ⟨i, hi, .inr e⟩⟩, fun d hd e => ?_⟩
    obtain ⟨i, hi, rfl | rfl⟩ := hdi d hd
    · rw [hoe, (hpr i).1, (hpr i).2] at e
      exact hex ⟨i, hi, .inl e⟩
    · rw [hoo, (hpr i).1, (hpr i).2] at e
      exact hex ⟨i, hi, .inr ⟨e.2, e.1⟩⟩
theorem dartF_eq (hT : trgB N E A = true) {d : Int} (hd : isD E d) {a b : Int} (ha : tailE E d = a) (hb : tailE E (oth d) = b) : dartF E a b = d := by
  rcases dartF_sound (E := E) (a := a) (b := b) with ⟨_, h⟩ | ⟨x, hx, he, h1, h2⟩
  · exact absurd ⟨ha, hb⟩ (h d hd)
  · rw [he]
    exact dart_uniq hT hx hd (by rw [h1, ha]) (by rw [h2, hb])
end
/-- The Bools tell which edges are in a list. -/
def WallIs (n : Nat) (W : List Bool) (S : List Int) : Prop := W.length = n ∧ ∀ i, i < n → gb W i = decide ((i : Int) ∈ S)
theorem WallIs.zero (n : Nat) : WallIs n (List.replicate n false) [] := ⟨by simp, fun i hi => by simp [gb, hi]⟩
theorem WallIs.put {n : Nat} {W : List Bool} {S : List Int} (h : WallIs n W S) {k : Nat} (hk : k < n) : WallIs n (W.set k true) (S ++ [(k : Int)]) := by
  refine ⟨by rw [List.length_set]; exact h.1, fun i hi => ?_⟩
  rw [gb_set _ (by rw [h.1]; exact hk)]
  by_cases e : i = k
  · rw [if_pos e, e]
    simp
  · rw [if_neg e, h.2 i hi]
    simp only [List.mem_append, List.mem_singleton]
    have : ¬ (i : Int) = (k : Int) := by omega
    simp [this]
end Go.Proofs.YtlealdicoceekaaDoor

/- Rounds of flooding, plain. -/
namespace Go.Proofs.YtlealdicoceekaaDoor
open Go.RowKit

section
variable {W : List Bool} {X : List Int} {I : List Bool} {F n : Nat}
variable {Wl : List Int} {a : Int}
end
section
variable {N : Int} {E : List (Int × Int)} {A : List (List Int)}
end
end Go.Proofs.YtlealdicoceekaaDoor

/- The reference: Region. -/
namespace Go.Proofs.YtlealdicoceekaaDoor
open Go.RowKit
attribute [local go_sem ↓] Go.wp_at_zero Go.wp_at_succ

end Go.Proofs.YtlealdicoceekaaDoor

/- The reference: Draw. -/
namespace Go.Proofs.YtlealdicoceekaaDoor
open Go.RowKit
attribute [local go_sem ↓] Go.wp_at_zero Go.wp_at_succ

/-- The cells of a list of pairs. -/
def prVs (E : List (Int × Int)) : List Value := E.flatMap fun a => [.int .i64 a.1, .int .i64 a.2]
theorem prVs_get (E : List (Int × Int)) : ∀ i, i < E.length → (prVs E)[i * 2]? = some (.int .i64 (pr E i).1) ∧ (prVs E)[i * 2 + 1]? = some (.int .i64 (pr E i).2) := by
  induction E with
  | nil => intro i hi; simp at hi
  | cons a E ih =>
    intro i hi
    cases i with
    | zero => exact ⟨rfl, rfl⟩
    | succ i =>
      have := ih i (by simpa using hi)
      have e1 : (i + 1) * 2 = i * 2 + 1 + 1 := by omega
      rw [e1]
      exact this
/-- Points and an error. -/
def PtsR (xs : List (Int × Int)) (er : Int) (w : World) (e : Ending) (w' : World) : Prop :=
  Grew w w' ∧ ∃ q cap, e = .returned (.tuple #[.slice q xs.length cap, .int .i64 er]) ∧ Prs w' q xs
theorem PtsR.none {w w' : World} {er : Int} (hg : Grew w w') : PtsR [] er w (.returned (.tuple #[.slice none 0 0, .int .i64 er])) w' :=
  ⟨hg, Option.none, 0, rfl, ⟨by simp, 0, 0, (fun h => by simp at h), (fun i h => by simp at h)⟩⟩
end Go.Proofs.YtlealdicoceekaaDoor
