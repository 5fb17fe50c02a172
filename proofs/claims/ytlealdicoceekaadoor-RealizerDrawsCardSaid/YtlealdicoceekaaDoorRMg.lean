/- Joined by a program from the texts SchE ReaF ReaG RefD RefE RefF MpI ReaH ReaI RefG RefH. -/
import Derived.Test.YtlealdicoceekaaDoorRMf
import Derived.Maps.Keyed
/- What the program's check accepts is a Schnyder labeling, plain. -/
set_option linter.unusedSimpArgs false
set_option linter.unusedVariables false
namespace Go.Proofs.YtlealdicoceekaaDoor

theorem idx_no {v : Int} : ∀ {l : List Int}, v ∉ l → idx v l = -1
  | [], _ => rfl
  | x :: l, h => by
    unfold idx
    rw [if_neg (fun e => h (by rw [e]; simp)), if_pos (idx_no (fun k => h (List.mem_cons_of_mem _ k)))]
theorem idx_yes {v : Int} {l : List Int} (h : v ∈ l) : 0 ≤ idx v l := by
  obtain ⟨i, _, e, _⟩ := idx_lt h
  omega
theorem runB_next {L : List Int} : ∀ {l : List Int} {last lv : Nat}, lv < 3 → runB L last lv l = true → ∃ I o rest, l = I ++ o :: rest ∧ lab L o = lv ∧ (∀ d ∈ I, lab L d < 0 ∧ lab L (oth d) = ((last : Int) + 2) % 3) ∧ runB L lv (lv + 1) rest = true
  | [], last, lv, h, hr => by
    unfold runB at hr
    have := of_decide_eq_true hr
    omega
  | d :: l, last, lv, h, hr => by
    unfold runB at hr
    by_cases h0 : 0 ≤ lab L d
    · rw [if_pos h0] at hr
      by_cases h1 : lab L d = (lv : Int)
      · rw [if_pos h1] at hr
        exact ⟨[], d, l, rfl, h1, fun d hd => by (cases hd), hr⟩
      · rw [if_neg h1] at hr; cases hr
    · rw [if_neg h0] at hr
      by_cases h1 : lab L (oth d) = ((last : Int) + 2) % 3
      · rw [if_pos h1] at hr
        obtain ⟨I, o, rest, e, g1, g2, g3⟩ := runB_next h hr
        refine ⟨d :: I, o, rest, by rw [e]; rfl, g1, fun x hx => ?_, g3⟩
        rcases List.mem_cons.1 hx with rfl | hx
        · exact ⟨by omega, h1⟩
        · exact g2 x hx
      · rw [if_neg h1] at hr; cases hr
theorem runB_last {L : List Int} : ∀ {l : List Int} {last : Nat}, (∀ d ∈ l, lab L d ≤ 2) → runB L last 3 l = true → ∀ d ∈ l, lab L d < 0 ∧ lab L (oth d) = ((last : Int) + 2) % 3
  | [], _, _, _, d, hd => by cases hd
  | c :: l, last, hu, hr, d, hd => by
    unfold runB at hr
    have hc := hu c (by simp)
    by_cases h0 : 0 ≤ lab L c
    · rw [if_pos h0, if_neg (by omega)] at hr; cases hr
    · rw [if_neg h0] at hr
      by_cases h1 : lab L (oth c) = ((last : Int) + 2) % 3
      · rw [if_pos h1] at hr
        rcases List.mem_cons.1 hd with rfl | hd
        · exact ⟨by omega, h1⟩
        · exact runB_last (fun x hx => hu x (List.mem_cons_of_mem _ hx)) hr d hd
      · rw [if_neg h1] at hr; cases hr
section
variable {N : Int} {E : List (Int × Int)} {A : List (List Int)} {L : List Int}
/-- The six outer darts and their tails. -/
theorem outer_tails (hT : trgB N E A = true) : isD E (nxF A 0) ∧ isD E (nxF A (nxF A 0)) ∧ tailE E (nxF A 0) = tailE E 1 ∧ tailE E (oth (nxF A 0)) = tailE E (nxF A (nxF A 0)) ∧ tailE E (oth (nxF A (nxF A 0))) = tailE E 0 := by
  have hV := trg_valid hT
  obtain ⟨i0, i1⟩ := dart01 hT
  have hx : isD E (nxF A 0) := nxF_in hV i0.1 i0.2
  have hy : isD E (nxF A (nxF A 0)) := nxF_in hV hx.1 hx.2
  refine ⟨hx, hy, ?_, ?_, ?_⟩
  · unfold nxF; rw [show oth 0 = 1 by decide, suc_tail hV i1.1 i1.2]
  · show _ = tailE E (sucF A (oth (nxF A 0)))
    rw [suc_tail hV hx.oth.1 hx.oth.2]
  · have h2 : tailE E (sucF A (oth (nxF A (nxF A 0)))) = tailE E 0 := by
      show tailE E (nxF A (nxF A (nxF A 0))) = _
      rw [tri_next hT]
    rw [suc_tail hV hy.oth.1 hy.oth.2] at h2
    exact h2
theorem half_same {d x : Int} (h : x / 2 = d / 2) : x = d ∨ x = oth d := by
  unfold oth
  split <;> omega
theorem half_oth (d : Int) : oth d / 2 = d / 2 := by unfold oth; split <;> omega
theorem outB_iff (hT : trgB N E A = true) {d : Int} (hd : isD E d) : outB A d = true ↔ tailE E d ∈ rts E A ∧ tailE E (oth d) ∈ rts E A := by
  have hV := trg_valid hT
  obtain ⟨hx, hy, t1, t2, t3⟩ := outer_tails hT
  obtain ⟨i0, i1⟩ := dart01 hT
  have hr0 : tailE E 0 ∈ rts E A := by rw [rts_eq]; simp
  have hr1 : tailE E 1 ∈ rts E A := by rw [rts_eq]; simp
  have hr2 : tailE E (nxF A (nxF A 0)) ∈ rts E A := by rw [rts_eq]; simp
  have o0 : oth 0 = 1 := by decide
  constructor
  · intro h
    unfold outB hitB at h
    obtain ⟨x, hx', he⟩ := List.any_eq_true.1 h
    have he2 := half_same (of_decide_eq_true (by simpa using he) : x / 2 = d / 2)
    unfold sdL at hx'
    simp only [List.mem_cons, List.not_mem_nil, or_false] at hx'
    have key : ∀ x, (x = 0 ∨ x = nxF A 0 ∨ x = nxF A (nxF A 0)) → tailE E x ∈ rts E A ∧ tailE E (oth x) ∈ rts E A := fun x hx => by
      rcases hx with rfl | rfl | rfl
      · exact ⟨hr0, by rw [o0]; exact hr1⟩
      · exact ⟨by rw [t1]; exact hr1, by rw [t2]; exact hr2⟩
      · exact ⟨hr2, by rw [t3]; exact hr0⟩
    have k := key x hx'
    rcases he2 with e | e
    · rw [e] at k; exact k
    · rw [e, oth_oth] at k; exact ⟨k.2, k.1⟩
  · rintro ⟨ha, hb⟩
    have hne : tailE E d ≠ tailE E (oth d) := fun e => cho_ne hV (c := fun _ => tailE E d) (s := 0) (t := 0) ⟨d, hd, rfl, e.symm⟩ rfl
    have hit : ∀ x, (x = 0 ∨ x = nxF A 0 ∨ x = nxF A (nxF A 0)) → (x = d ∨ x = oth d) → outB A d = true := fun x hx he => by
      unfold outB hitB
      refine List.any_eq_true.2 ⟨x, by unfold sdL; simpa using hx, ?_⟩
      have : x / 2 = d / 2 := by
        rcases he with e | e
        · rw [e]
        · rw [e, half_oth]
      simpa using this
    rw [rts_eq] at ha hb
    simp only [List.mem_cons, List.not_mem_nil, or_false] at ha hb
    rcases ha with ha | ha | ha <;> rcases hb with hb | hb | hb
    · exact absurd (ha.trans hb.symm) hne
    · exact hit 0 (Or.inl rfl) (Or.inl (dart_uniq hT i0 hd ha.symm (by rw [o0]; exact hb.symm)))
    · exact hit _ (Or.inr (Or.inr rfl)) (Or.inr (dart_uniq hT hy hd.oth hb.symm (by rw [t3, oth_oth]; exact ha.symm)))
    · exact hit 0 (Or.inl rfl) (Or.inr (dart_uniq hT i0 hd.oth hb.symm (by rw [o0, oth_oth]; exact ha.symm)))
    · exact absurd (ha.trans hb.symm) hne
    · exact hit _ (Or.inr (Or.inl rfl)) (Or.inl (dart_uniq hT hx hd (t1.trans ha.symm) (t2.trans hb.symm)))
    · exact hit _ (Or.inr (Or.inr rfl)) (Or.inl (dart_uniq hT hy hd ha.symm (t3.trans hb.symm)))
    · exact hit _ (Or.inr (Or.inl rfl)) (Or.inr (dart_uniq hT hx hd.oth (t1.trans hb.symm) (by rw [oth_oth]; exact t2.trans ha.symm)))
    · exact absurd (ha.trans hb.symm) hne
theorem fit_edge (hT : trgB N E A = true) (h : fitB E A L = true) {d : Int} (hd : isD E d) :
    (outB A d = true ∧ lab L d = -1 ∧ lab L (oth d) = -1) ∨ (outB A d = false ∧ (-1 ≤ lab L d ∧ lab L d ≤ 2) ∧ ((lab L d = -1) ↔ lab L (oth d) ≠ -1) ∧ sideB E A L d = true) := by
  unfold fitB at h
  simp only [Bool.and_eq_true, List.all_eq_true, List.mem_range] at h
  obtain ⟨⟨_, h2⟩, _⟩ := h
  have hd0 := hd.1
  have hd1 := hd.2
  have h3 := h2 (d / 2).toNat (by omega)
  have e2 : (((d / 2).toNat : Nat) : Int) = d / 2 := by omega
  rw [e2] at h3
  have ho : ∀ x y : Int, y / 2 = x / 2 → outB A x = outB A y := fun x y e => by unfold outB hitB; rw [e]
  have hev : d = 2 * (d / 2) ∨ d = oth (2 * (d / 2)) := by
    have : oth (2 * (d / 2)) = 2 * (d / 2) + 1 := by unfold oth; rw [if_pos (by omega)]
    omega
  obtain ⟨c, hc⟩ : ∃ c, 2 * (d / 2) = c := ⟨_, rfl⟩
  rw [hc] at h3 hev
  unfold endsB at h3
  by_cases hob : outB A c = true
  · rw [if_pos hob] at h3
    simp only [Bool.and_eq_true, beq_iff_eq] at h3
    left
    rcases hev with e | e
    · rw [e]; exact ⟨hob, h3.1, h3.2⟩
    · rw [e, oth_oth]
      exact ⟨by rw [ho (oth c) c (half_oth c).symm]; exact hob, h3.2, h3.1⟩
  · rw [if_neg hob] at h3
    have hobf : outB A c = false := by simpa using hob
    simp only [Bool.and_eq_true, rngB, decide_eq_true_iff, bne_iff_ne, ne_eq] at h3
    obtain ⟨⟨⟨⟨r1, r2⟩, hx⟩, s1⟩, s2⟩ := h3
    have hx' : (lab L c = -1) ↔ ¬ lab L (oth c) = -1 := by
      by_cases a1 : lab L c = -1 <;> by_cases a2 : lab L (oth c) = -1
      · simp [a1, a2] at hx
      · simp [a1, a2]
      · simp [a1, a2]
      · exfalso
        apply hx
        rw [beq_eq_false_iff_ne.2 a1, beq_eq_false_iff_ne.2 a2]
    right
    rcases hev with e | e
    · rw [e]; exact ⟨hobf, r1, hx', s1⟩
    · rw [e, oth_oth]
      refine ⟨by rw [ho (oth c) c (half_oth c).symm]; exact hobf, r2, ?_, s2⟩
      constructor
      · intro a b; exact (hx'.1 b) a
      · intro a
        apply Classical.byContradiction
        intro b
        exact a (hx'.2 b)
/-- What the program accepts is a Schnyder labeling. -/
theorem fit_sch (hT : trgB N E A = true) (h : fitB E A L = true) : Sch E A L := by
  have hV := trg_valid hT
  have hside : ∀ d, isD E d → 0 ≤ lab L d → tailE E d ∉ rts E A ∧ (tailE E (oth d) ∈ rts E A → lab L d = idx (tailE E (oth d)) (rts E A)) := fun d hd h0 => by
    rcases fit_edge hT h hd with ⟨_, k, _⟩ | ⟨_, _, _, hs⟩
    · omega
    · unfold sideB at hs
      simp only [Bool.or_eq_true, Bool.and_eq_true, decide_eq_true_iff] at hs
      rcases hs with hs | ⟨s1, s2⟩
      · omega
      · refine ⟨fun k => by have := idx_yes k; omega, fun k => ?_⟩
        have := idx_yes k
        rcases s2 with s2 | s2
        · omega
        · exact s2.symm
  have hrng : ∀ d, isD E d → -1 ≤ lab L d ∧ lab L d ≤ 2 := fun d hd => by
    rcases fit_edge hT h hd with ⟨_, k, _⟩ | ⟨_, k, _⟩
    · omega
    · exact k
  refine ⟨?_, hrng, fun d hd ha hb => ?_, fun d hd hn => ?_, fun d hd ht => ?_, fun d hd hh h0 => (hside d hd h0).2 hh, fun v hv hi => ?_⟩
  · unfold fitB at h
    simp only [Bool.and_eq_true, decide_eq_true_iff] at h
    exact h.1.1
  · rcases fit_edge hT h hd with ⟨_, k, _⟩ | ⟨k, _⟩
    · exact k
    · rw [(outB_iff hT hd).2 ⟨ha, hb⟩] at k; cases k
  · rcases fit_edge hT h hd with ⟨k, _⟩ | ⟨_, _, k, _⟩
    · exact absurd ((outB_iff hT hd).1 k) hn
    · exact k
  · have := hrng d hd
    by_cases h0 : 0 ≤ lab L d
    · exact absurd ht (hside d hd h0).1
    · omega
  · have h2 := h
    unfold fitB at h2
    simp only [Bool.and_eq_true, List.all_eq_true, List.mem_range] at h2
    have h3 := h2.2 v hv
    rw [idx_no hi] at h3
    simp only [Bool.or_eq_true, decide_eq_true_iff] at h3
    have h4 : turnsB A L v = true := by
      rcases h3 with k | k
      · omega
      · exact k
    unfold turnsB at h4
    split at h4
    · cases h4
    · rename_i hneg
      have hat := (atF_at (L := L) (t := 0) (xs := rowOf A v) (by omega)).1
      have har := atF_range (L := L) (t := 0) (rowOf A v)
      obtain ⟨a, ha⟩ : ∃ a, (atF L 0 (rowOf A v)).toNat = a := ⟨_, rfl⟩
      rw [ha] at h4 hat
      have hal : a < (rowOf A v).length := by omega
      refine ⟨(rowOf A v).take a, (rowOf A v).drop a, (List.take_append_drop _ _).symm, ?_⟩
      have hdr : (rowOf A v).drop a = ge (rowOf A v) a :: (rowOf A v).drop (a + 1) := by rw [ge_eq _ hal]; exact List.drop_eq_getElem_cons _
      have hd : ∀ d, d ∈ (rowOf A v).drop a ++ (rowOf A v).take a → isD E d := fun d hd => by
        have hm : d ∈ rowOf A v := by
          rcases List.mem_append.1 hd with k | k
          · exact List.mem_of_mem_drop k
          · exact List.mem_of_mem_take k
        have := mem_row hV hv hm
        exact ⟨this.1, this.2.1⟩
      rw [hdr, List.cons_append] at h4 hd ⊢
      unfold runB at h4
      rw [if_pos (by omega), if_pos (by rw [hat]; rfl)] at h4
      obtain ⟨I2, o1, r1, e1, l1, g1, h5⟩ := runB_next (by omega) h4
      obtain ⟨I0, o2, I1, e2, l2, g2, h6⟩ := runB_next (by omega) h5
      rw [e1, e2] at hd ⊢
      have g3 := runB_last (fun d hd' => (hrng d (hd d (by simp [hd']))).2) h6
      refine ⟨_, I2, o1, I0, o2, I1, rfl, hat, l1, l2, fun d hd' => ⟨?_, by have := (g1 d hd').2; omega⟩, fun d hd' => ⟨?_, by have := (g2 d hd').2; omega⟩, fun d hd' => ⟨?_, by have := (g3 d hd').2; omega⟩⟩
      · have := hrng d (hd d (by simp [hd'])); have := (g1 d hd').1; omega
      · have := hrng d (hd d (by simp [hd'])); have := (g2 d hd').1; omega
      · have := hrng d (hd d (by simp [hd'])); have := (g3 d hd').1; omega
end
end Go.Proofs.YtlealdicoceekaaDoor

/- Check, read, up, Parents of the program. -/
namespace Go.Proofs.YtlealdicoceekaaDoor
open Go.RowKit
attribute [local go_sem ↓] Go.wp_at_zero Go.wp_at_succ

noncomputable def chk38 (N : Int) (E : List (Int × Int)) (A : List (List Int)) (L : List Int) : Bool := trgB N E A && fitB E A L
/-- The error of Parents and Draw. -/
noncomputable def err38 (N : Int) (E : List (Int × Int)) (A : List (List Int)) (L : List Int) : Int := if trgB N E A = false then 13 else if fitB E A L = false then 1 else 0
noncomputable def parL (E : List (Int × Int)) (A : List (List Int)) (L : List Int) (t : Int) : List Int := tab A.length fun v => if (v : Int) ∈ rts E A then -1 else parF E A L t v
noncomputable def parRes (N : Int) (E : List (Int × Int)) (A : List (List Int)) (L : List Int) (t : Int) : List Int × Int :=
  if trgB N E A = false then ([], 13) else if fitB E A L = false then ([], 1) else if t < 0 ∨ 2 < t then ([], 3) else (parL E A L t, 0)

section
variable (N : Int) (pE pA pL : Option Addr) (nE nA nL cE cA cL : Nat) (E : List (Int × Int)) (A : List (List Int)) (L : List Int) (w : World)
theorem fits_e (hR : RotIn w pE pA cE E A) (hT : trgB N E A = true) {b gf : Nat} (hP : Plan w b gf N pE pA nE nA cE cA E A) (hI : Ints w pL L) (hnE : E.length = nE) (hnA : A.length = nA) (hnL : L.length = nL) (hL1 : nL ≤ 1000) (t : Bool) (ht : fitB E A L = t) :
    Calls Tryd.prog 40 #[.pointer (some ⟨b, 0, none⟩), .slice pL nL cL] w fun e w' => e = .returned (.bool t) ∧ Grew w w' :=
  fits_p (trg_valid hT) (trg_pos hT) hR.e1 hR.a1 hP hR.hE hR.hA hnE hnA pL nL cL hI hnL hL1 t ht
set_option maxHeartbeats 2000000 in
theorem check38_p (hR : RotIn w pE pA cE E A) (hL : Lim w) (hI : Ints w pL L) (hnE : E.length = nE) (hnA : A.length = nA) (hnL : L.length = nL) (hL1 : nL ≤ 1000) :
    Calls Tryd.prog 15 #[.agg #[.int .i64 N, .slice pE nE cE, .slice pA nA cA], .slice pL nL cL] w fun e w' => e = .returned (.bool (chk38 N E A L)) ∧ Grew w w' := by
  have HR := Lib.hid hR
  have HL := Lib.hid hL
  have HI := Lib.hid hI
  cases hT : trgB N E A
  case false =>
    have Hf : Hid (chk38 N E A L = false) := Lib.hid (by unfold chk38; rw [hT]; rfl)
    have Ho : Hid (∀ W1, Grew w W1 → Calls Tryd.prog 28 #[.agg #[.int .i64 N, .slice pE nE cE, .slice pA nA cA]] W1 fun e w' => e = .returned (.pointer none) ∧ Grew W1 w') := Lib.hid (fun W1 h => open_no _ _ _ _ _ _ _ _ _ _ (HR.out.grew h) (HL.out.grew h) hT hnE hnA)
    clear hR hL hI hT
    go_enter Tryd.func15, Tryd.ntmps15
    go_wp2_with ((go_at_call 28; apply Calls.mono; (with_reducible exact Ho.out _ (by (repeat (first | exact gR _ | refine gO ?_ _ | refine gA ?_ _ | refine gD ?_ | refine gN ?_ _)))); rintro e w' ⟨rfl, x, rfl⟩))
    go_ret
    exact ⟨by rw [Hf.out]; rfl, by (repeat (first | exact gR _ | refine gO ?_ _ | refine gA ?_ _ | refine gD ?_ | refine gN ?_ _))⟩
  case true =>
    obtain ⟨t, ht⟩ : ∃ t, fitB E A L = t := ⟨_, rfl⟩
    have Hf : Hid (chk38 N E A L = t) := Lib.hid (by unfold chk38; rw [hT, ht]; rfl)
    have HT := Lib.hid hT
    have Ht := Lib.hid ht
    clear hR hL hI hT ht
    go_enter Tryd.func15, Tryd.ntmps15
    go_wp2_with (first
      | (go_at_call 28; apply Calls.mono; (with_reducible exact open_yes _ _ _ _ _ _ _ _ _ _ (HR.out.grew (by (repeat (first | exact gR _ | refine gO ?_ _ | refine gA ?_ _ | refine gD ?_ | refine gN ?_ _)))) (HL.out.grew (by (repeat (first | exact gR _ | refine gO ?_ _ | refine gA ?_ _ | refine gD ?_ | refine gN ?_ _)))) HT.out hnE hnA); rintro e wo ⟨hgo, b, gf, rfl, _, hPl⟩; have HPl := Lib.hid hPl; have Hgo := Lib.hid ((show Grew w _ by (repeat (first | exact gR _ | refine gO ?_ _ | refine gA ?_ _ | refine gD ?_ | refine gN ?_ _))).trans hgo); clear hPl hgo)
      | ((go_at_call 40; apply Calls.mono; (with_reducible exact fits_e N pE pA pL nE nA nL cE cA cL E A L _ (HR.out.grew (Hgo.out.trans (by (repeat (first | exact gR _ | refine gO ?_ _ | refine gA ?_ _ | refine gD ?_ | refine gN ?_ _))))) HT.out (HPl.out.grew (by (repeat (first | exact gR _ | refine gO ?_ _ | refine gA ?_ _ | refine gD ?_ | refine gN ?_ _)))) (HI.out.grew (Hgo.out.trans (by (repeat (first | exact gR _ | refine gO ?_ _ | refine gA ?_ _ | refine gD ?_ | refine gN ?_ _))))) hnE hnA hnL hL1 _ Ht.out); rintro e w' ⟨rfl, x, rfl⟩)))
    go_ret
    exact ⟨by rw [Hf.out]; rfl, Hgo.out.trans (by (repeat (first | exact gR _ | refine gO ?_ _ | refine gA ?_ _ | refine gD ?_ | refine gN ?_ _)))⟩
/-- What read returns: nothing and an error, or the plan. -/
def ReadPost (er : Int) (N : Int) (pE pA : Option Addr) (nE nA cE cA : Nat) (E : List (Int × Int)) (A : List (List Int)) (w : World) (e : Ending) (w' : World) : Prop :=
  Grew w w' ∧ ((er ≠ 0 ∧ e = .returned (.tuple #[.pointer none, .int .i64 er])) ∨ (er = 0 ∧ ∃ b gf, e = .returned (.tuple #[.pointer (some ⟨b, 0, none⟩), .int .i64 0]) ∧ w.heap.size ≤ b ∧ Plan w' b gf N pE pA nE nA cE cA E A))
set_option maxHeartbeats 2000000 in
theorem read_p (hR : RotIn w pE pA cE E A) (hL : Lim w) (hI : Ints w pL L) (hnE : E.length = nE) (hnA : A.length = nA) (hnL : L.length = nL) (hL1 : nL ≤ 1000) :
    Calls Tryd.prog 35 #[.agg #[.int .i64 N, .slice pE nE cE, .slice pA nA cA], .slice pL nL cL] w (ReadPost (err38 N E A L) N pE pA nE nA cE cA E A w) := by
  have HR := Lib.hid hR
  have HL := Lib.hid hL
  have HI := Lib.hid hI
  cases hT : trgB N E A
  case false =>
    have Hf : Hid (err38 N E A L = 13) := Lib.hid (by unfold err38; rw [if_pos hT])
    have Ho : Hid (∀ W1, Grew w W1 → Calls Tryd.prog 28 #[.agg #[.int .i64 N, .slice pE nE cE, .slice pA nA cA]] W1 fun e w' => e = .returned (.pointer none) ∧ Grew W1 w') := Lib.hid (fun W1 h => open_no _ _ _ _ _ _ _ _ _ _ (HR.out.grew h) (HL.out.grew h) hT hnE hnA)
    clear hR hL hI hT
    go_enter Tryd.func35, Tryd.ntmps35
    go_wp2_with ((go_at_call 28; apply Calls.mono; (with_reducible exact Ho.out _ (by (repeat (first | exact gR _ | refine gO ?_ _ | refine gA ?_ _ | refine gD ?_ | refine gN ?_ _)))); rintro e w' ⟨rfl, x, rfl⟩))
    go_ret2
    rw [Hf.out]
    exact ⟨by (repeat (first | exact gR _ | refine gO ?_ _ | refine gA ?_ _ | refine gD ?_ | refine gN ?_ _)), Or.inl ⟨by decide, rfl⟩⟩
  case true =>
    obtain ⟨t, ht⟩ : ∃ t, fitB E A L = t := ⟨_, rfl⟩
    have HT := Lib.hid hT
    have Ht := Lib.hid ht
    cases t
    case false =>
      have Hf : Hid (err38 N E A L = 1) := Lib.hid (by unfold err38; rw [if_neg (by rw [hT]; simp), if_pos ht])
      clear hR hL hI hT ht
      go_enter Tryd.func35, Tryd.ntmps35
      go_wp2_with (first
        | (go_at_call 28; apply Calls.mono; (with_reducible exact open_yes _ _ _ _ _ _ _ _ _ _ (HR.out.grew (by (repeat (first | exact gR _ | refine gO ?_ _ | refine gA ?_ _ | refine gD ?_ | refine gN ?_ _)))) (HL.out.grew (by (repeat (first | exact gR _ | refine gO ?_ _ | refine gA ?_ _ | refine gD ?_ | refine gN ?_ _)))) HT.out hnE hnA); rintro e wo ⟨hgo, b, gf, rfl, _, hPl⟩; have HPl := Lib.hid hPl; have Hgo := Lib.hid ((show Grew w _ by (repeat (first | exact gR _ | refine gO ?_ _ | refine gA ?_ _ | refine gD ?_ | refine gN ?_ _))).trans hgo); clear hPl hgo)
        | ((go_at_call 40; apply Calls.mono; (with_reducible exact fits_e N pE pA pL nE nA nL cE cA cL E A L _ (HR.out.grew (Hgo.out.trans (by (repeat (first | exact gR _ | refine gO ?_ _ | refine gA ?_ _ | refine gD ?_ | refine gN ?_ _))))) HT.out (HPl.out.grew (by (repeat (first | exact gR _ | refine gO ?_ _ | refine gA ?_ _ | refine gD ?_ | refine gN ?_ _)))) (HI.out.grew (Hgo.out.trans (by (repeat (first | exact gR _ | refine gO ?_ _ | refine gA ?_ _ | refine gD ?_ | refine gN ?_ _))))) hnE hnA hnL hL1 _ Ht.out); rintro e w' ⟨rfl, x, rfl⟩)))
      go_ret2
      rw [Hf.out]
      exact ⟨Hgo.out.trans (by (repeat (first | exact gR _ | refine gO ?_ _ | refine gA ?_ _ | refine gD ?_ | refine gN ?_ _))), Or.inl ⟨by decide, rfl⟩⟩
    case true =>
      have Hf : Hid (err38 N E A L = 0) := Lib.hid (by unfold err38; rw [if_neg (by rw [hT]; simp), if_neg (by rw [ht]; simp)])
      clear hR hL hI hT ht
      go_enter Tryd.func35, Tryd.ntmps35
      go_wp2_with (first
        | (go_at_call 28; apply Calls.mono; (with_reducible exact open_yes _ _ _ _ _ _ _ _ _ _ (HR.out.grew (by (repeat (first | exact gR _ | refine gO ?_ _ | refine gA ?_ _ | refine gD ?_ | refine gN ?_ _)))) (HL.out.grew (by (repeat (first | exact gR _ | refine gO ?_ _ | refine gA ?_ _ | refine gD ?_ | refine gN ?_ _)))) HT.out hnE hnA); rintro e wo ⟨hgo, b, gf, rfl, hbs, hPl⟩; have Hbs : Hid (w.heap.size ≤ b) := Lib.hid (Nat.le_trans (show Grew w _ by (repeat (first | exact gR _ | refine gO ?_ _ | refine gA ?_ _ | refine gD ?_ | refine gN ?_ _))).below.size hbs); have HPl := Lib.hid hPl; have Hgo := Lib.hid ((show Grew w _ by (repeat (first | exact gR _ | refine gO ?_ _ | refine gA ?_ _ | refine gD ?_ | refine gN ?_ _))).trans hgo); clear hPl hgo hbs)
        | ((go_at_call 40; apply Calls.mono; (with_reducible exact fits_e N pE pA pL nE nA nL cE cA cL E A L _ (HR.out.grew (Hgo.out.trans (by (repeat (first | exact gR _ | refine gO ?_ _ | refine gA ?_ _ | refine gD ?_ | refine gN ?_ _))))) HT.out (HPl.out.grew (by (repeat (first | exact gR _ | refine gO ?_ _ | refine gA ?_ _ | refine gD ?_ | refine gN ?_ _)))) (HI.out.grew (Hgo.out.trans (by (repeat (first | exact gR _ | refine gO ?_ _ | refine gA ?_ _ | refine gD ?_ | refine gN ?_ _))))) hnE hnA hnL hL1 _ Ht.out); rintro e w' ⟨rfl, x, rfl⟩)))
      go_ret2
      rw [Hf.out]
      exact ⟨Hgo.out.trans (by (repeat (first | exact gR _ | refine gO ?_ _ | refine gA ?_ _ | refine gD ?_ | refine gN ?_ _))), Or.inr ⟨rfl, b, gf, rfl, Hbs.out, HPl.out.grew (by (repeat (first | exact gR _ | refine gO ?_ _ | refine gA ?_ _ | refine gD ?_ | refine gN ?_ _)))⟩⟩
end
/-! ### The dart to the parent -/
set_option maxHeartbeats 1000000 in
theorem up1_p (d : Nat) (g gt : Nat) (pL : Option Addr) (nL cL : Nat) (L : List Int) (t : Int) (w : World) (h : w.cell? ⟨g, 0, none⟩ = some (.slice pL nL cL)) (h2 : w.cell? ⟨gt, 0, none⟩ = some (.int .i64 t)) (hI : Ints w pL L) (hnL : L.length = nL) (hd : d < L.length) (b : Bool) (hb : (lab L d == t) = b) :
    Calls Tryd.prog 64 #[.int .i64 d, .pointer (some ⟨g, 0, none⟩), .pointer (some ⟨gt, 0, none⟩)] w fun e w' => e = .returned (.bool b) ∧ Grew w w' := by
  subst hnL
  obtain ⟨bL, oL, rfl, lL, cL'⟩ := hI.cells (by omega)
  have p0 := cL' w (Grew.refl _) d hd
  have e : ge L d = lab L d := by unfold lab; rw [Int.toNat_natCast]
  rw [e] at p0
  have hdl : (d : Int) < (L.length : Int) := by omega
  have hg1 := World.block_lt_of_cell? w _ h
  have hg2 := World.block_lt_of_cell? w _ h2
  dsimp only at hg1 hg2
  clear cL' e hI
  obtain ⟨x, hx⟩ : ∃ x, lab L d = x := ⟨_, rfl⟩
  rw [hx] at hb p0
  clear hx
  cases b
  · go_enter Tryd.func64, Tryd.ntmps64
    go_upto_region 1 with fail
    refine wp_region_over (by kernel_rfl) (by kernel_rfl) ?_; (repeat (go_big_quiet_step (fail))); refine wpQuiet_nil ?_; rintro _ ⟨x, rfl⟩
    go_wp2
    go_ret
    exact ⟨rfl, by (repeat (first | exact gR _ | refine gO ?_ _ | refine gA ?_ _ | refine gD ?_ | refine gN ?_ _))⟩
  · go_enter Tryd.func64, Tryd.ntmps64
    go_upto_region 1 with fail
    refine wp_region_over (by kernel_rfl) (by kernel_rfl) ?_; (repeat (go_big_quiet_step (fail))); refine wpQuiet_nil ?_; rintro _ ⟨x, rfl⟩
    go_wp2
    go_ret
    exact ⟨rfl, by (repeat (first | exact gR _ | refine gO ?_ _ | refine gA ?_ _ | refine gD ?_ | refine gN ?_ _))⟩
set_option maxHeartbeats 2000000 in
theorem upI_p (p : Option Addr) (cap : Nat) (xs : List Int) (n : Nat) (g gt : Nat) (pL : Option Addr) (nL cL : Nat) (L : List Int) (t : Int) (w : World) (hI : Ints w p xs) (hn : xs.length = n) (hx : ∀ x ∈ xs, 0 ≤ x ∧ x < (L.length : Int)) (h : w.cell? ⟨g, 0, none⟩ = some (.slice pL nL cL)) (h2 : w.cell? ⟨gt, 0, none⟩ = some (.int .i64 t)) (hL : Ints w pL L) (hnL : L.length = nL) (r : Int) (hr : atF L t xs = r) :
    Calls Tryd.prog 63 #[.slice p n cap, .func (.func 64) #[] #[.pointer (some ⟨g, 0, none⟩), .pointer (some ⟨gt, 0, none⟩)]] w fun e w' => e = .returned (.int .i64 r) ∧ Grew w w' := by
  subst hn
  have Hx := Lib.hid hx
  have HL := Lib.hid hL
  have HnL := Lib.hid hnL
  have Hr := Lib.hid hr
  have hm := hI.1
  have HI := Lib.hid hI
  have H1 := Lib.hid h
  have H2 := Lib.hid h2
  clear hx hL hnL hr hI h h2
  go_enter Tryd.func63, Tryd.ntmps63
  go_wp2
  go_loopw [5, 8] (fun _ i wr => ∃ k : Nat, k ≤ xs.length ∧ i = .int .i64 k ∧ (∀ j, j < k → lab L (ge xs j) ≠ t) ∧ Grew w wr) (fun _ i _ => xs.length - (intOf i).toNat)
  case atStart => exact ⟨0, Nat.zero_le _, rfl, fun j hj => by omega, by (repeat (first | exact gR _ | refine gO ?_ _ | refine gA ?_ _ | refine gD ?_ | refine gN ?_ _))⟩
  case round =>
    obtain ⟨k, hk, rfl, hall, hg⟩ := hrel
    have Hall := Lib.hid hall
    have Hg := Lib.hid hg
    clear hall hg
    by_cases hlt : k < xs.length
    · obtain ⟨b, o, rfl, hb, hc⟩ := HI.out.cells (by omega)
      have hc := hc wr Hg.out k hlt
      have hx0 := Hx.out _ (ge_mem hlt)
      obtain ⟨c, hce⟩ : ∃ c : Nat, ge xs k = (c : Int) := ⟨(ge xs k).toNat, by omega⟩
      rw [hce] at hc
      have Hce := Lib.hid hce
      have Hc9 : Hid (c < L.length) := Lib.hid (by omega)
      clear hce hx0
      cases he : (lab L (c : Int) == t)
      · have He := Lib.hid he
        have hne : lab L (c : Int) ≠ t := beq_eq_false_iff_ne.1 he
        have Hne := Lib.hid hne
        clear he hne
        go_wp2_with ((go_at_call 64; apply Calls.mono; (with_reducible exact up1_p _ _ _ _ _ _ _ _ _ ((Hg.out.trans (by (repeat (first | exact gR _ | refine gO ?_ _ | refine gA ?_ _ | refine gD ?_ | refine gN ?_ _)))).cellEq H1.out) ((Hg.out.trans (by (repeat (first | exact gR _ | refine gO ?_ _ | refine gA ?_ _ | refine gD ?_ | refine gN ?_ _)))).cellEq H2.out) (HL.out.grew (Hg.out.trans (by (repeat (first | exact gR _ | refine gO ?_ _ | refine gA ?_ _ | refine gD ?_ | refine gN ?_ _))))) HnL.out Hc9.out _ He.out); rintro e w' ⟨rfl, x, rfl⟩))
        go_roundw
        case rel => exact ⟨k + 1, by omega, by go_num, fun j hj => by
          by_cases h : j = k
          · rw [h, Hce.out]; exact Hne.out
          · exact Hall.out j (by omega), Hg.out.trans (by (repeat (first | exact gR _ | refine gO ?_ _ | refine gA ?_ _ | refine gD ?_ | refine gN ?_ _)))⟩
        case measure => (simp [intOf] <;> omega)
      · have He := Lib.hid he
        have Hf := Lib.hid (atF_first (t := t) k hlt (fun j hj => Hall.out j hj) (by rw [Hce.out]; exact beq_iff_eq.1 he))
        clear he
        go_wp2_with ((go_at_call 64; apply Calls.mono; (with_reducible exact up1_p _ _ _ _ _ _ _ _ _ ((Hg.out.trans (by (repeat (first | exact gR _ | refine gO ?_ _ | refine gA ?_ _ | refine gD ?_ | refine gN ?_ _)))).cellEq H1.out) ((Hg.out.trans (by (repeat (first | exact gR _ | refine gO ?_ _ | refine gA ?_ _ | refine gD ?_ | refine gN ?_ _)))).cellEq H2.out) (HL.out.grew (Hg.out.trans (by (repeat (first | exact gR _ | refine gO ?_ _ | refine gA ?_ _ | refine gD ?_ | refine gN ?_ _))))) HnL.out Hc9.out _ He.out); rintro e w' ⟨rfl, x, rfl⟩))
        go_ret
        exact ⟨ret_int (Hf.out.symm.trans Hr.out), Hg.out.trans (by (repeat (first | exact gR _ | refine gO ?_ _ | refine gA ?_ _ | refine gD ?_ | refine gN ?_ _)))⟩
    · have Hf := Lib.hid (atF_none (L := L) (t := t) (xs := xs) fun j hj => Hall.out j (by omega))
      go_wp2
      go_ret
      exact ⟨ret_int (Hf.out.symm.trans Hr.out), Hg.out.trans (by (repeat (first | exact gR _ | refine gO ?_ _ | refine gA ?_ _ | refine gD ?_ | refine gN ?_ _)))⟩
section
variable {w : World} {b gf : Nat} {N : Int} {pE pA : Option Addr} {nE nA cE cA : Nat} {E : List (Int × Int)} {A : List (List Int)} {L : List Int}
set_option maxHeartbeats 4000000 in
theorem up_p (hV : vRot N E A) (hP : Plan w b gf N pE pA nE nA cE cA E A) (hA : Mat w pA A) (hnA : A.length = nA) (pL : Option Addr) (nL cL : Nat) (hI : Ints w pL L) (hnL : L.length = nL) (hl : L.length = 2 * E.length) (hl1 : nL ≤ 1000)
    (v : Nat) (hv : v < A.length) (t : Int) (h0 : 0 ≤ atF L t (rowOf A v)) (r : Int) (hr : upF A L t v = r) :
    Calls Tryd.prog 37 #[.pointer (some ⟨b, 0, none⟩), .slice pL nL cL, .int .i64 v, .int .i64 t] w fun e w' => e = .returned (.int .i64 r) ∧ Grew w w' := by
  subst hnA
  have HI := Lib.hid hI
  have HnL := Lib.hid hnL
  have c2 := hP.c2
  have hb := hP.lt
  have hmr : ∀ x ∈ rowOf A v, 0 ≤ x ∧ x < (L.length : Int) := fun x hx => by
    have := mem_row hV hv hx
    omega
  have hrl : (rowOf A v).length ≤ 1000 := by
    have h2 := int_nodup_len (M := L.length) (row_nodup hV hv) hmr
    omega
  obtain ⟨bA, oA, rp, rc, rfl, lA, cA'⟩ := hA.rows (by omega)
  obtain ⟨a1, a2⟩ := cA' w (Grew.refl _) v hv
  obtain ⟨rv, hrv⟩ : ∃ rv, rp v = rv := ⟨_, rfl⟩
  rw [hrv] at a1 a2
  have Ha2 := Lib.hid a2
  have Hur : Hid (r = ge (rowOf A v) (atF L t (rowOf A v)).toNat) := Lib.hid (by
    rw [← hr]
    unfold upF
    rw [Int.toNat_natCast, (atF_at h0).2]
    rfl)
  obtain ⟨xs, hxs⟩ : ∃ xs, rowOf A v = xs := ⟨_, rfl⟩
  rw [hxs] at a1 Ha2 hmr hrl h0 Hur
  have Hmr := Lib.hid hmr
  have hvi : (v : Int) < (A.length : Int) := by omega
  have hrr := atF_range (L := L) (t := t) xs
  obtain ⟨a, ha⟩ : ∃ a : Nat, atF L t xs = (a : Int) := ⟨(atF L t xs).toNat, by omega⟩
  have Ha := Lib.hid ha
  rw [ha] at hrr Hur
  rw [Int.toNat_natCast] at Hur
  have hal : a < xs.length := by omega
  have hai : (a : Int) < (xs.length : Int) := by omega
  obtain ⟨bR, oR, rfl, lR, cR⟩ := Ha2.out.cells (by omega)
  have p0 := cR w (Grew.refl _) a hal
  rw [← Hur.out] at p0
  clear hP hA hV cA' a2 hrv hI hr hmr hxs hnL hl cR h0 ha hrr
  go_enter Tryd.func37, Tryd.ntmps37
  go_wp2_with ((go_at_call 63; apply Calls.mono; (with_reducible exact upI_p _ _ xs _ _ _ pL nL cL L t _ (Ha2.out.grew (by (repeat (first | exact gR _ | refine gO ?_ _ | refine gA ?_ _ | refine gD ?_ | refine gN ?_ _)))) rfl Hmr.out (by simp [go_sem]) (by simp [go_sem]) (HI.out.grew (by (repeat (first | exact gR _ | refine gO ?_ _ | refine gA ?_ _ | refine gD ?_ | refine gN ?_ _)))) HnL.out _ Ha.out); rintro e w' ⟨rfl, x, rfl⟩))
  go_ret
  exact ⟨rfl, by (repeat (first | exact gR _ | refine gO ?_ _ | refine gA ?_ _ | refine gD ?_ | refine gN ?_ _))⟩
end
end Go.Proofs.YtlealdicoceekaaDoor

/- Parents of the program. -/
namespace Go.Proofs.YtlealdicoceekaaDoor
open Go.RowKit
attribute [local go_sem ↓] Go.wp_at_zero Go.wp_at_succ

theorem idx_neg_iff {v : Int} {l : List Int} : idx v l < 0 ↔ v ∉ l :=
  ⟨fun h k => by have := idx_yes k; omega, fun h => by rw [idx_no h]; omega⟩
section
variable {N : Int} {E : List (Int × Int)} {A : List (List Int)} {L : List Int}
theorem at_pos (hT : trgB N E A = true) (hS : Sch E A L) {v t : Nat} (hv : v < A.length) (hi : (v : Int) ∉ rts E A) (ht : t < 3) : 0 ≤ atF L t (rowOf A v) := by
  have h := up_ok hT hS hv hi ht
  have hr := atF_range (L := L) (t := t) (rowOf A v)
  apply Classical.byContradiction
  intro hn
  have e : atF L t (rowOf A v) = -1 := by omega
  have key : ∀ {xs : List Int}, atF L t xs = -1 → ∀ d ∈ xs, lab L d ≠ t := by
    intro xs
    induction xs with
    | nil => intro _ d hd; cases hd
    | cons x xs ih =>
      intro he d hd
      unfold atF at he
      by_cases h1 : lab L x = t
      · rw [if_pos h1] at he; omega
      · rw [if_neg h1] at he
        have hxr := atF_range (L := L) (t := t) xs
        by_cases h2 : atF L t xs = -1
        · rcases List.mem_cons.1 hd with rfl | hd
          · exact h1
          · exact ih h2 d hd
        · rw [if_neg h2] at he; omega
  exact key e _ h.1 h.2
end
set_option maxRecDepth 4000 in
set_option maxHeartbeats 4000000 in
theorem parents_p (N : Int) (pE pA pL : Option Addr) (nE nA nL cE cA cL : Nat) (E : List (Int × Int)) (A : List (List Int)) (L : List Int) (t : Int) (w : World) (hR : RotIn w pE pA cE E A) (hL : Lim w) (hI : Ints w pL L) (hnE : E.length = nE) (hnA : A.length = nA) (hnL : L.length = nL) (hL1 : nL ≤ 1000) :
    Calls Tryd.prog 13 #[.agg #[.int .i64 N, .slice pE nE cE, .slice pA nA cA], .slice pL nL cL, .int .i64 t] w (TwoPost (parRes N E A L t).1 (parRes N E A L t).2 w) := by
  have HR := Lib.hid hR
  have HL := Lib.hid hL
  have HI := Lib.hid hI
  obtain ⟨er, her⟩ : ∃ er, err38 N E A L = er := ⟨_, rfl⟩
  have Hrd : Hid (∀ W1, Grew w W1 → Calls Tryd.prog 35 #[.agg #[.int .i64 N, .slice pE nE cE, .slice pA nA cA], .slice pL nL cL] W1 (ReadPost er N pE pA nE nA cE cA E A W1)) := Lib.hid (fun W1 h => by
    rw [← her]
    exact read_p _ _ _ _ _ _ _ _ _ _ _ _ _ _ (HR.out.grew h) (HL.out.grew h) (HI.out.grew h) hnE hnA hnL hL1)
  by_cases he0 : er = 0
  case neg =>
    have Hf : Hid (parRes N E A L t = ([], er)) := Lib.hid (by
      unfold err38 at her
      unfold parRes
      split
      · rename_i h; rw [if_pos h] at her; rw [her]
      · rename_i h; rw [if_neg h] at her
        split
        · rename_i h2; rw [if_pos h2] at her; rw [her]
        · rename_i h2; rw [if_neg h2] at her; exact absurd her.symm he0)
    have hern : (er == 0) = false := beq_eq_false_iff_ne.2 he0
    have hern2 : (er != 0) = true := by simp [bne, hern]
    have He0 := Lib.hid he0
    clear her he0 hR hL hI
    go_enter Tryd.func13, Tryd.ntmps13
    go_wp2_with (go_at_call 35; apply Calls.mono; (with_reducible exact Hrd.out _ (by (repeat (first | exact gR _ | refine gO ?_ _ | refine gA ?_ _ | refine gD ?_ | refine gN ?_ _)))); rintro e wo ⟨hgo, h⟩; have Hgo := Lib.hid ((show Grew w _ by (repeat (first | exact gR _ | refine gO ?_ _ | refine gA ?_ _ | refine gD ?_ | refine gN ?_ _))).trans hgo); clear hgo; rcases h with ⟨_, rfl⟩ | ⟨h, _⟩; rotate_left; exact absurd h He0.out)
    go_ret2
    rw [Hf.out]
    exact TwoPost.none (Hgo.out.trans (by (repeat (first | exact gR _ | refine gO ?_ _ | refine gA ?_ _ | refine gD ?_ | refine gN ?_ _))))
  subst he0
  have hT : trgB N E A = true := by
    cases h : trgB N E A
    · unfold err38 at her; rw [if_pos h] at her; omega
    · rfl
  have hF : fitB E A L = true := by
    cases h : fitB E A L
    · unfold err38 at her; rw [if_neg (by rw [hT]; simp), if_pos h] at her; omega
    · rfl
  have hS := fit_sch hT hF
  have hV := trg_valid hT
  have HV := Lib.hid hV
  have HS := Lib.hid hS
  have HT := Lib.hid hT
  have hNA : N = (nA : Int) := by have := hV.al; omega
  have hnA1 : nA ≤ 100 := by have := hR.a1; omega
  have HnA := Lib.hid hnA
  have HnE := Lib.hid hnE
  have HnL := Lib.hid hnL
  subst hNA
  by_cases ht : t < 0 ∨ 2 < t
  · have Hf : Hid (parRes nA E A L t = ([], 3)) := Lib.hid (by unfold parRes; rw [if_neg (by rw [hT]; simp), if_neg (by rw [hF]; simp), if_pos ht])
    clear her hR hL hI hT hF hS hV
    rcases (by omega : t < 0 ∨ (0 ≤ t ∧ 2 < t)) with k | ⟨k, k2⟩
    · go_enter Tryd.func13, Tryd.ntmps13
      go_wp2_with (go_at_call 35; apply Calls.mono; (with_reducible exact Hrd.out _ (by (repeat (first | exact gR _ | refine gO ?_ _ | refine gA ?_ _ | refine gD ?_ | refine gN ?_ _)))); rintro e wo ⟨hgo, h⟩; have Hgo := Lib.hid ((show Grew w _ by (repeat (first | exact gR _ | refine gO ?_ _ | refine gA ?_ _ | refine gD ?_ | refine gN ?_ _))).trans hgo); clear hgo; rcases h with ⟨h, _⟩ | ⟨_, b, gf, rfl, _, hPl⟩; exact absurd rfl h; have HPl := Lib.hid hPl; clear hPl)
      go_ret2
      rw [Hf.out]
      exact TwoPost.none (Hgo.out.trans (by (repeat (first | exact gR _ | refine gO ?_ _ | refine gA ?_ _ | refine gD ?_ | refine gN ?_ _))))
    · have k0 : ¬ t < 0 := by omega
      go_enter Tryd.func13, Tryd.ntmps13
      go_wp2_with (go_at_call 35; apply Calls.mono; (with_reducible exact Hrd.out _ (by (repeat (first | exact gR _ | refine gO ?_ _ | refine gA ?_ _ | refine gD ?_ | refine gN ?_ _)))); rintro e wo ⟨hgo, h⟩; have Hgo := Lib.hid ((show Grew w _ by (repeat (first | exact gR _ | refine gO ?_ _ | refine gA ?_ _ | refine gD ?_ | refine gN ?_ _))).trans hgo); clear hgo; rcases h with ⟨h, _⟩ | ⟨_, b, gf, rfl, _, hPl⟩; exact absurd rfl h; have HPl := Lib.hid hPl; clear hPl)
      go_ret2
      rw [Hf.out]
      exact TwoPost.none (Hgo.out.trans (by (repeat (first | exact gR _ | refine gO ?_ _ | refine gA ?_ _ | refine gD ?_ | refine gN ?_ _))))
  · obtain ⟨tn, rfl⟩ : ∃ tn : Nat, t = (tn : Int) := ⟨t.toNat, by omega⟩
    have htn : tn < 3 := by omega
    have Hf : Hid (parRes nA E A L tn = (parL E A L tn, 0)) := Lib.hid (by unfold parRes; rw [if_neg (by rw [hT]; simp), if_neg (by rw [hF]; simp), if_neg ht])
    have k0 : ¬ (tn : Int) < 0 := by omega
    have k1 : ¬ 2 < (tn : Int) := by omega
    have hmk := mk_ints nA (by omega)
    have hE0 := Lib.hid (trg_pos hT)
    clear her hR hL hI hT hF hS hV ht
    have Hc0 : Hid ((w.alloc (.cells #[.int .i64 nA, .slice pE nE cE, .slice pA nA cA] 25)).cell? ⟨w.heap.size, 0, none⟩ = some (.int .i64 nA)) := Lib.hid (by simp [go_sem])
    have HwB : Hid (Grew w (w.alloc (.cells #[.int .i64 nA, .slice pE nE cE, .slice pA nA cA] 25))) := Lib.hid ((Grew.refl w).alloc _)
    go_enter Tryd.func13, Tryd.ntmps13
    go_wp2_with (go_at_call 35; apply Calls.mono; (with_reducible exact Hrd.out _ (by (repeat (first | exact gR _ | refine gO ?_ _ | refine gA ?_ _ | refine gD ?_ | refine gN ?_ _)))); rintro e wo ⟨hgo, h⟩; have HgB := Lib.hid ((show Grew (w.alloc (.cells #[.int .i64 nA, .slice pE nE cE, .slice pA nA cA] 25)) _ by (repeat (first | exact gR _ | refine gO ?_ _ | refine gA ?_ _ | refine gD ?_ | refine gN ?_ _))).trans hgo); clear hgo; rcases h with ⟨h, _⟩ | ⟨_, b, gf, rfl, _, hPl⟩; exact absurd rfl h; have HPl := Lib.hid hPl; clear hPl; have q0 := HgB.out.cellEq Hc0.out)
    have Hgo : Hid (Grew w wo) := Lib.hid (HwB.out.trans HgB.out)
    have HO0 := Lib.hid (own_newI (Owns.nil wo wo.heap.size) (Nat.le_refl _) nA wo.heap.size (by omega) rfl)
    have Hg0 : Hid (Grew wo (wo.alloc (.cells (Array.replicate nA (.int .i64 0)) 3))) := Lib.hid ((Grew.refl wo).alloc _)
    obtain ⟨wA, hwA⟩ : ∃ wA, wo.alloc (.cells (Array.replicate nA (.int .i64 0)) 3) = wA := ⟨_, rfl⟩
    rw [hwA] at HO0 Hg0 ⊢
    obtain ⟨g, hg⟩ : ∃ g, wo.heap.size = g := ⟨_, rfl⟩
    have Hgs := Lib.hid hg
    rw [hg] at HO0 ⊢
    clear hwA hg q0
    go_loopw [34] (fun vv wr => ∃ v : Nat, v ≤ nA ∧ vv = .int .i64 v ∧ Grew wo wr ∧ ∃ X : List Int, X.length = nA ∧ Owns wr g [rI g nA X] ∧ ∀ u, u < v → ge X u = ge (parL E A L tn) u) (fun vv _ => nA - (intOf vv).toNat)
    case atStart => exact ⟨0, Nat.zero_le _, rfl, Hg0.out.trans (by (repeat (first | exact gR _ | refine gO ?_ _ | refine gA ?_ _ | refine gD ?_ | refine gN ?_ _))), _, by simp, HO0.out.grew (by (repeat (first | exact gR _ | refine gO ?_ _ | refine gA ?_ _ | refine gD ?_ | refine gN ?_ _))), fun u hu => by omega⟩
    case round =>
      obtain ⟨v, hv, rfl, hgr, X, hXl, hO, hall⟩ := hrel
      have Hgr := Lib.hid hgr
      have HO := Lib.hid hO
      have Hall := Lib.hid hall
      have HXl := Lib.hid hXl
      have hszr := hgr.below.size
      clear hgr hO hall hXl
      by_cases hlt : v < nA
      · have x1 := own_atI HO.out (j := 0) rfl hlt
        have x2 := own_fr HO.out (j := 0) rfl v
        have hgl := own_lt HO.out (j := 0) rfl
        go_upto_region 11 with fail
        have HOS := Lib.hid (own_setI HO.out (j := 0) rfl v (-1))
        have HgS : Hid (Grew wo (wr.setCell ⟨g, v, none⟩ (.int .i64 (-1)))) := Lib.hid (Hgr.out.setCell (show wo.heap.size ≤ g from Nat.le_of_eq Hgs.out) _)
        have hsS : (wr.setCell ⟨g, v, none⟩ (.int .i64 (-1))).heap.size = wr.heap.size := World.size_setCell _ _ _
        obtain ⟨wS, hwS⟩ : ∃ wS, wr.setCell ⟨g, v, none⟩ (.int .i64 (-1)) = wS := ⟨_, rfl⟩
        rw [hwS] at HOS HgS hsS ⊢
        replace HOS : Hid (Owns wS g [rI g nA (X.set v (-1))]) := HOS
        clear hwS x1 x2
        obtain ⟨r, hr⟩ : ∃ r, idx (v : Int) (rts E A) = r := ⟨_, rfl⟩
        have Hrt : Hid (∀ W1, Grew wS W1 → Calls Tryd.prog 36 #[.pointer (some ⟨b, 0, none⟩), .int .i64 v] W1 fun e w' => e = .returned (.int .i64 r) ∧ W1 = w') := Lib.hid (fun W1 h => root_p HV.out hE0.out (by have := HnA.out; omega) (HPl.out.grew (HgS.out.trans h)) v r hr)
        by_cases hr0 : r < 0
        · have hni : (v : Int) ∉ rts E A := idx_neg_iff.1 (by omega)
          have hpos := at_pos HT.out HS.out (v := v) (t := tn) (by have := HnA.out; omega) hni htn
          have hup := up_dart HT.out HS.out (v := v) (t := tn) (by have := HnA.out; omega) hni htn
          obtain ⟨d, hd⟩ : ∃ d : Nat, upF A L tn v = (d : Int) := ⟨(upF A L tn v).toNat, by have := hup.1.1; omega⟩
          have hd2 : d < 2 * E.length := by have := hup.1.2; omega
          obtain ⟨o, ho⟩ : ∃ o : Nat, oth (d : Int) = (o : Int) := ⟨(oth d).toNat, by have := oth_in (d := d) (M := E.length) (by omega) (by omega); omega⟩
          have ho2 : o < 2 * E.length := by have := oth_in (d := d) (M := E.length) (by omega) (by omega); omega
          have hx2 : bits BinOp.xor IntKind.i64 (d : Int) 1 = (o : Int) := by rw [← ho]; exact xor_small d (by have := HR.out.e1; omega)
          have Hpv : Hid (ge (parL E A L tn) v = tailE E o) := Lib.hid (by
            unfold parL
            rw [ge_tab _ (by have := HnA.out; omega), if_neg hni]
            unfold parF
            rw [hd, ho])
          have Hup : Hid (∀ W1, Grew wS W1 → Calls Tryd.prog 37 #[.pointer (some ⟨b, 0, none⟩), .slice pL nL cL, .int .i64 v, .int .i64 tn] W1 fun e w' => e = .returned (.int .i64 (d : Int)) ∧ Grew W1 w') := Lib.hid (fun W1 h => up_p HV.out (HPl.out.grew (HgS.out.trans h)) (HR.out.hA.grew (Hgo.out.trans (HgS.out.trans h))) HnA.out pL nL cL (HI.out.grew (Hgo.out.trans (HgS.out.trans h))) HnL.out HS.out.len hL1 v (by have := HnA.out; omega) tn hpos _ hd)
          have Htl : Hid (∀ W1, Grew wS W1 → Calls Tryd.prog 31 #[.pointer (some ⟨b, 0, none⟩), .int .i64 o] W1 fun e w' => e = .returned (.int .i64 (tailE E o)) ∧ W1 = w') := Lib.hid (fun W1 h => tail38_c b pE nE cE E W1 (HPl.out.grew (HgS.out.trans h)).c1 (HR.out.hE.grew (Hgo.out.trans (HgS.out.trans h))) HnE.out HR.out.e1 o ho2)
          have x1 := own_atI HOS.out (j := 0) rfl hlt
          have x2 := own_fr HOS.out (j := 0) rfl v
          clear hr hni hpos hup hd ho
          go_wp2_with (first
            | ((go_at_call 36; apply Calls.mono; (with_reducible exact Hrt.out _ (by (repeat (first | exact gR _ | refine gO ?_ _ | refine gA ?_ _ | refine gD ?_ | refine gN ?_ _)))); rintro e w' ⟨rfl, rfl⟩))
            | (go_at_call 37; apply Calls.mono; (with_reducible exact Hup.out _ (by (repeat (first | exact gR _ | refine gO ?_ _ | refine gA ?_ _ | refine gD ?_ | refine gN ?_ _)))); rintro e wu ⟨rfl, hgu⟩; have HOU := Lib.hid (HOS.out.grew (Grew.trans (by (repeat (first | exact gR _ | refine gO ?_ _ | refine gA ?_ _ | refine gD ?_ | refine gN ?_ _))) hgu)); have HgU := Lib.hid (HgS.out.trans (Grew.trans (by (repeat (first | exact gR _ | refine gO ?_ _ | refine gA ?_ _ | refine gD ?_ | refine gN ?_ _))) hgu)); have HgU2 := Lib.hid ((show Grew wS _ by (repeat (first | exact gR _ | refine gO ?_ _ | refine gA ?_ _ | refine gD ?_ | refine gN ?_ _))).trans hgu); have x1 := own_atI HOU.out (j := 0) rfl hlt; have x2 := own_fr HOU.out (j := 0) rfl v; clear hgu)
            | ((go_at_call 31; apply Calls.mono; (with_reducible exact Htl.out _ (HgU2.out.trans (by (repeat (first | exact gR _ | refine gO ?_ _ | refine gA ?_ _ | refine gD ?_ | refine gN ?_ _))))); rintro e w' ⟨rfl, rfl⟩)))
          go_roundw
          case rel => exact ⟨v + 1, by omega, by go_num, (HgU.out.setCell (show wo.heap.size ≤ g from Nat.le_of_eq Hgs.out) _).trans (by (repeat (first | exact gR _ | refine gO ?_ _ | refine gA ?_ _ | refine gD ?_ | refine gN ?_ _))), (X.set v (-1)).set v (tailE E o), by rw [List.length_set, List.length_set]; exact HXl.out, (own_setI HOU.out (j := 0) rfl v (tailE E o)).grew (by (repeat (first | exact gR _ | refine gO ?_ _ | refine gA ?_ _ | refine gD ?_ | refine gN ?_ _))), fun u hu => by
            by_cases e : v = u
            · rw [← e, ge_set_same _ (by rw [List.length_set, HXl.out]; exact hlt)]; exact Hpv.out.symm
            · rw [ge_set_other _ e, ge_set_other _ e]; exact Hall.out u (by omega)⟩
          case measure => (simp [intOf] <;> omega)
        · have hyi : (v : Int) ∈ rts E A := Classical.byContradiction fun k => by have := idx_neg_iff.2 k; omega
          have Hpv : Hid (ge (parL E A L tn) v = -1) := Lib.hid (by
            unfold parL
            rw [ge_tab _ (by have := HnA.out; omega), if_pos hyi])
          clear hr hyi
          go_wp2_with ((go_at_call 36; apply Calls.mono; (with_reducible exact Hrt.out _ (by (repeat (first | exact gR _ | refine gO ?_ _ | refine gA ?_ _ | refine gD ?_ | refine gN ?_ _)))); rintro e w' ⟨rfl, rfl⟩))
          go_roundw
          case rel => exact ⟨v + 1, by omega, by go_num, HgS.out.trans (by (repeat (first | exact gR _ | refine gO ?_ _ | refine gA ?_ _ | refine gD ?_ | refine gN ?_ _))), X.set v (-1), by rw [List.length_set]; exact HXl.out, HOS.out.grew (by (repeat (first | exact gR _ | refine gO ?_ _ | refine gA ?_ _ | refine gD ?_ | refine gN ?_ _))), fun u hu => by
            by_cases e : v = u
            · rw [← e, ge_set_same _ (by rw [HXl.out]; exact hlt)]; exact Hpv.out.symm
            · rw [ge_set_other _ e]; exact Hall.out u (by omega)⟩
          case measure => (simp [intOf] <;> omega)
      · obtain rfl : v = nA := by omega
        have Hpl : Hid ((parL E A L tn).length = v) := Lib.hid (by unfold parL; rw [tab_length]; exact HnA.out)
        have HX : Hid (X = parL E A L tn) := Lib.hid (by
          refine List.ext_getElem (by rw [HXl.out, Hpl.out]) fun i h1 h2 => ?_
          have := Hall.out i (by rw [HXl.out] at h1; exact h1)
          rwa [ge_eq _ h1, ge_eq _ h2] at this)
        have Hbd : Hid (∀ x ∈ parL E A L tn, -9223372036854775808 ≤ x ∧ x ≤ 9223372036854775807) := Lib.hid (fun x hx => by
          obtain ⟨i, hi, rfl⟩ := mem_ge.1 hx
          unfold parL at hi ⊢
          rw [tab_length] at hi
          rw [ge_tab _ hi]
          split
          · omega
          · rename_i hni
            have := head_in HV.out (up_dart HT.out HS.out hi hni htn).1.oth
            unfold parF
            have := HnA.out
            omega)
        go_wp2
        go_ret2
        rw [Hf.out]
        have hOf := HO.out.grew (show Grew wr _ by (repeat (first | exact gR _ | refine gO ?_ _ | refine gA ?_ _ | refine gD ?_ | refine gN ?_ _)))
        rw [HX.out] at hOf
        obtain ⟨q, cap, e, h1, h2, _⟩ := hOf.ints (k := 0) rfl Hpl.out Hbd.out
        cases e
        exact ⟨Hgo.out.trans (Hgr.out.trans (by (repeat (first | exact gR _ | refine gO ?_ _ | refine gA ?_ _ | refine gD ?_ | refine gN ?_ _)))), _, _, by rw [Hpl.out]; rfl, h1, by rw [Hpl.out]; exact Nat.le_refl _, by simp only [maxLen]; omega⟩
end Go.Proofs.YtlealdicoceekaaDoor

/- The reference: parents. -/
namespace Go.Proofs.YtlealdicoceekaaDoor
open Go.RowKit
attribute [local go_sem ↓] Go.wp_at_zero Go.wp_at_succ

/-- The parents after k darts. -/
def parK (E : List (Int × Int)) (n : Nat) (L : List Int) (t : Int) : Nat → List Int
  | 0 => List.replicate n (-1)
  | k + 1 => if lab L (k : Int) = t then (parK E n L t k).set (tailE E (k : Int)).toNat (tailE E (oth (k : Int))) else parK E n L t k
theorem parK_len (E : List (Int × Int)) (n : Nat) (L : List Int) (t : Int) : ∀ k, (parK E n L t k).length = n
  | 0 => by unfold parK; simp
  | k + 1 => by
    have := parK_len E n L t k
    unfold parK
    split
    · rw [List.length_set, this]
    · exact this
theorem parK_rng {N : Int} {E : List (Int × Int)} {A : List (List Int)} (hV : vRot N E A) (L : List Int) (t : Int) : ∀ k, k ≤ 2 * E.length → ∀ x ∈ parK E A.length L t k, -1 ≤ x ∧ x < (A.length : Int)
  | 0, _ => fun x hx => by
    unfold parK at hx
    have := List.eq_of_mem_replicate hx
    omega
  | k + 1, hk => fun x hx => by
    have ih := parK_rng hV L t k (by omega)
    unfold parK at hx
    split at hx
    · rcases List.mem_or_eq_of_mem_set hx with h | rfl
      · exact ih x h
      · have := head_in hV (isD.oth (show isD E (k : Int) from ⟨by omega, by omega⟩))
        omega
    · exact ih x hx
set_option maxRecDepth 4000 in
set_option maxHeartbeats 8000000 in
theorem par38_r (N : Int) (pE pA pL : Option Addr) (nE nA nL cE cA cL : Nat) (E : List (Int × Int)) (A : List (List Int)) (L : List Int) (t : Int) (w : World) (hV : vRot N E A) (h1 : E.length ≤ 100) (hN : A.length ≤ 100) (hE : Prs w pE E) (hI : Ints w pL L) (hnE : E.length = nE) (hnA : A.length = nA) (hnL : L.length = nL) (hl : L.length = 2 * E.length) :
    Calls Tryd.prog 39 #[.agg #[.int .i64 N, .slice pE nE cE, .slice pA nA cA], .slice pL nL cL, .int .i64 t] w fun e w' => Grew w w' ∧ ∃ q cap, e = .returned (.slice q nA cap) ∧ Ints w' q (parK E nA L t (2 * nE)) ∧ ∀ a, q = some a → w.heap.size ≤ a.block := by
  have hal := hV.al
  obtain rfl : N = (nA : Int) := by omega
  have HV := Lib.hid hV
  have HI := Lib.hid hI
  have HnL := Lib.hid hnL
  have HnE := Lib.hid hnE
  have HnA := Lib.hid hnA
  have Hnl : Hid (nL = 2 * nE) := Lib.hid (by omega)
  have hE1 : nE ≤ 100 := by omega
  have hA1 : nA ≤ 100 := by omega
  have hmk := mk_ints nA (by omega)
  have hnl1 : nL ≤ 2 * nE := by omega
  have hnl2 : 2 * nE ≤ nL := by omega
  have Htl : Hid (∀ W1, Grew w W1 → Calls Tryd.prog 41 #[.agg #[.int .i64 nA, .slice pE nE cE, .slice pA nA cA]] W1 fun e w' => Grew W1 w' ∧ ∃ q cap, e = .returned (.slice q (2 * nE) cap) ∧ Ints w' q (tailsL E) ∧ ∀ a, q = some a → W1.heap.size < a.block) := Lib.hid (fun W1 hg1 => by
    have := tails_rF nA pE pA nE nA cE cA E W1 (hE.grew hg1) h1 HnE.out (fun a ha => by
      obtain ⟨i, hi, rfl⟩ := List.getElem_of_mem ha
      have := HV.out.ed i hi
      unfold okEdge at this
      rw [pr_eq E hi] at this
      have := HV.out.al
      omega)
    rw [HnE.out] at this
    exact this)
  clear hE hI hnE hnA hnL hl hV hal h1 hN
  go_enter Tryd.func39, Tryd.ntmps39
  go_wp2
  have HgB : Hid (Grew w (w.alloc (.cells #[.int .i64 nA, .slice pE nE cE, .slice pA nA cA] 25))) := Lib.hid ((Grew.refl w).alloc _)
  have k0 : (w.alloc (.cells #[.int .i64 nA, .slice pE nE cE, .slice pA nA cA] 25)).cell? ⟨w.heap.size, 0, none⟩ = some (.int .i64 nA) := by simp [go_sem]
  have k1 : (w.alloc (.cells #[.int .i64 nA, .slice pE nE cE, .slice pA nA cA] 25)).cell? ⟨w.heap.size, 1, none⟩ = some (.slice pE nE cE) := by simp [go_sem]
  have k2 : (w.alloc (.cells #[.int .i64 nA, .slice pE nE cE, .slice pA nA cA] 25)).cell? ⟨w.heap.size, 2, none⟩ = some (.slice pA nA cA) := by simp [go_sem]
  have hsB : (w.alloc (.cells #[.int .i64 nA, .slice pE nE cE, .slice pA nA cA] 25)).heap.size = w.heap.size + 1 := by simp [go_sem]
  obtain ⟨wB, hwB⟩ : ∃ wB, w.alloc (.cells #[.int .i64 nA, .slice pE nE cE, .slice pA nA cA] 25) = wB := ⟨_, rfl⟩
  rw [hwB] at HgB k0 k1 k2 hsB ⊢
  have HO0 := Lib.hid (own_newI (Owns.nil wB wB.heap.size) (Nat.le_refl _) nA wB.heap.size (by omega) rfl)
  have Hg0 : Hid (Grew wB (wB.alloc (.cells (Array.replicate nA (.int .i64 0)) 3))) := Lib.hid ((Grew.refl wB).alloc _)
  obtain ⟨wA, hwA⟩ : ∃ wA, wB.alloc (.cells (Array.replicate nA (.int .i64 0)) 3) = wA := ⟨_, rfl⟩
  rw [hwA] at HO0 Hg0 ⊢
  obtain ⟨g, hg⟩ : ∃ g, w.heap.size + 1 = g := ⟨_, rfl⟩
  have Hgs : Hid (wB.heap.size = g) := Lib.hid (by omega)
  have hgb : w.heap.size < g := by omega
  rw [hsB] at HO0
  rw [hg] at HO0 ⊢
  clear hwA hg hwB hsB
  go_loopw [8] (fun vv wr => ∃ v : Nat, v ≤ nA ∧ vv = .int .i64 v ∧ Grew wB wr ∧ ∃ X : List Int, X.length = nA ∧ Owns wr g [rI g nA X] ∧ ∀ u, u < v → ge X u = -1) (fun vv _ => nA - (intOf vv).toNat)
  case atStart => exact ⟨0, Nat.zero_le _, rfl, Hg0.out.trans (by (repeat (first | exact gR _ | refine gO ?_ _ | refine gA ?_ _ | refine gD ?_ | refine gN ?_ _))), _, by simp, HO0.out.grew (by (repeat (first | exact gR _ | refine gO ?_ _ | refine gA ?_ _ | refine gD ?_ | refine gN ?_ _))), fun u hu => by omega⟩
  case round =>
    obtain ⟨v, hv, rfl, hgr, X, hXl, hO, hall⟩ := hrel
    have Hgr := Lib.hid hgr
    have HO := Lib.hid hO
    have Hall := Lib.hid hall
    have HXl := Lib.hid hXl
    have r0 := hgr.cellEq k0
    have r1 := hgr.cellEq k1
    have r2 := hgr.cellEq k2
    have hszr := World.block_lt_of_cell? wr _ r0
    have hgl := own_lt hO (j := 0) rfl
    dsimp only at hszr
    clear hgr hO hall hXl
    by_cases hlt : v < nA
    · have x1 := own_atI HO.out (j := 0) rfl hlt
      have x2 := own_fr HO.out (j := 0) rfl v
      go_wp2
      go_roundw
      case rel => exact ⟨v + 1, by omega, by go_num, (Hgr.out.setCell (show wB.heap.size ≤ g from Nat.le_of_eq Hgs.out) _).trans (by (repeat (first | exact gR _ | refine gO ?_ _ | refine gA ?_ _ | refine gD ?_ | refine gN ?_ _))), X.set v (-1), by rw [List.length_set]; exact HXl.out, (own_setI HO.out (j := 0) rfl v (-1)).grew (by (repeat (first | exact gR _ | refine gO ?_ _ | refine gA ?_ _ | refine gD ?_ | refine gN ?_ _))), fun u hu => by
        by_cases e : v = u
        · rw [← e, ge_set_same _ (by rw [HXl.out]; exact hlt)]
        · rw [ge_set_other _ e]; exact Hall.out u (by omega)⟩
      case measure => (simp [intOf] <;> omega)
    · obtain rfl : v = nA := by omega
      obtain rfl : X = parK E v L t 0 := by
        refine List.ext_getElem (by rw [HXl.out, parK_len]) fun i a1 a2 => ?_
        have := Hall.out i (by rw [HXl.out] at a1; exact a1)
        rw [ge_eq _ a1] at this
        rw [this]
        unfold parK
        simp
      clear Hall HXl
      go_wp2_with (go_at_call 41; apply Calls.mono; (with_reducible exact Htl.out _ (HgB.out.trans (Hgr.out.trans (by (repeat (first | exact gR _ | refine gO ?_ _ | refine gA ?_ _ | refine gD ?_ | refine gN ?_ _)))))); rintro e w4 ⟨hg4, q4, c4, rfl, hI4, hf4⟩; have Hf4 := Lib.hid hf4; have HI4 := Lib.hid hI4; have Hg4r := Lib.hid ((show Grew wr _ by (repeat (first | exact gR _ | refine gO ?_ _ | refine gA ?_ _ | refine gD ?_ | refine gN ?_ _))).trans hg4); have Hg4 := Lib.hid (Hgr.out.trans Hg4r.out); have m0 := Hg4.out.cellEq k0; have m1 := Hg4.out.cellEq k1; have m2 := Hg4.out.cellEq k2; have hlw4 := World.block_lt_of_cell? w4 _ m0; dsimp only at hlw4; clear hI4 hg4 hf4)
      have HO4 := Lib.hid (HO.out.grew Hg4r.out)
      have Hqb : Hid (∀ a, q4 = some a → g < a.block) := Lib.hid (fun a ha => Nat.lt_of_lt_of_le (Nat.lt_of_lt_of_le (own_lt HO.out (j := 0) rfl) (show Grew wr _ by (repeat (first | exact gR _ | refine gO ?_ _ | refine gA ?_ _ | refine gD ?_ | refine gN ?_ _))).below.size) (Nat.le_of_lt (Hf4.out a ha)))
      clear r0 r1 r2 m0 m1 m2 hszr hgl HO
      go_loopw [10] (fun dv wx => ∃ d : Nat, d ≤ nL ∧ dv = .int .i64 d ∧ Grew wB wx ∧ Ints wx q4 (tailsL E) ∧ Owns wx g [rI g v (parK E v L t d)]) (fun dv _ => nL - (intOf dv).toNat)
      case atStart => exact ⟨0, Nat.zero_le _, rfl, Hg4.out.trans (by (repeat (first | exact gR _ | refine gO ?_ _ | refine gA ?_ _ | refine gD ?_ | refine gN ?_ _))), HI4.out.grew (by (repeat (first | exact gR _ | refine gO ?_ _ | refine gA ?_ _ | refine gD ?_ | refine gN ?_ _))), HO4.out.grew (by (repeat (first | exact gR _ | refine gO ?_ _ | refine gA ?_ _ | refine gD ?_ | refine gN ?_ _)))⟩
      case round =>
        clear Hgr Hg4r Hg4 HO4 HI4 hlw4
        obtain ⟨d, hd, rfl, hgr, hI5, hO⟩ := hrel
        have Hgr := Lib.hid hgr
        have Hgwr : Hid (Grew w wr) := Lib.hid (HgB.out.trans hgr)
        have HI5 := Lib.hid hI5
        have HO := Lib.hid hO
        clear hgr hO hI5
        by_cases hlt : d < nL
        · obtain ⟨bL, oL, rfl, lL, cL'⟩ := HI.out.cells (by rw [HnL.out]; omega)
          have l0 := cL' wr Hgwr.out d (by rw [HnL.out]; exact hlt)
          obtain ⟨x, hx⟩ : ∃ x, ge L d = x := ⟨_, rfl⟩
          rw [hx] at l0
          have Hk : Hid (parK E v L t (d + 1) = if x = t then (parK E v L t d).set (tailE E (d : Int)).toNat (tailE E (oth (d : Int))) else parK E v L t d) := Lib.hid (by rw [← hx]; rfl)
          clear cL' hx
          by_cases hxt : x = t
          · have hb : (x == t) = true := beq_iff_eq.2 hxt
            rw [if_pos hxt] at Hk
            obtain ⟨o, ho⟩ : ∃ o : Nat, oth (d : Int) = (o : Int) := ⟨(oth d).toNat, by have := oth_in (d := d) (M := nE) (by omega) (by omega); omega⟩
            have ho2 : o < 2 * nE := by have := oth_in (d := d) (M := nE) (by omega) (by omega); omega
            have Hoth : Hid (∀ W1, Calls Tryd.prog 65 #[.int .i64 d] W1 fun e w' => e = .returned (.int .i64 o) ∧ Grew W1 w') := Lib.hid (fun W1 => by
              rw [← ho]
              exact (other_r d W1 (by omega)).mono fun e w' h => ⟨h.1, h.2 ▸ Grew.refl _⟩)
            rw [ho] at Hk
            obtain ⟨bT, oT, rfl, lT, cT⟩ := HI5.out.cells (by rw [tailsL_length, HnE.out]; omega)
            have t0 := cT wr (Grew.refl _) d (by rw [tailsL_length, HnE.out]; omega)
            have t1 := cT wr (Grew.refl _) o (by rw [tailsL_length, HnE.out]; omega)
            rw [tailsL_get E d (by rw [HnE.out]; omega)] at t0
            rw [tailsL_get E o (by rw [HnE.out]; omega)] at t1
            have hu := head_in HV.out (show isD E (d : Int) from ⟨by omega, by have := HnE.out; omega⟩)
            obtain ⟨u, hu2⟩ : ∃ u : Nat, tailE E (d : Int) = (u : Int) := ⟨(tailE E (d : Int)).toNat, by omega⟩
            obtain ⟨y, hy⟩ : ∃ y, tailE E (o : Int) = y := ⟨_, rfl⟩
            rw [hu2] at t0 Hk
            rw [hy] at t1 Hk
            rw [Int.toNat_natCast] at Hk
            have hul : u < v := by have := HnA.out; omega
            have x1 := own_atI HO.out (j := 0) rfl hul
            have x2 := own_fr HO.out (j := 0) rfl u
            have hgl := own_lt HO.out (j := 0) rfl
            have hd3 : (d : Int) < 2 * (nE : Int) := by omega
            have ho3 : (o : Int) < 2 * (nE : Int) := by omega
            have hd4 : (d : Int) < ((2 * nE : Nat) : Int) := by omega
            have ho4 : (o : Int) < ((2 * nE : Nat) : Int) := by omega
            have hdl : (d : Int) < (nL : Int) := by omega
            have hui : (u : Int) < (v : Int) := by omega
            clear cT hu hu2 hy ho hxt
            go_upto_region 11 with fail
            refine wp_region_lex (One 11 (fun b => if b then wr.setCell ⟨g, u, none⟩ (.int .i64 y) else wr)) (by kernel_rfl) (by kernel_rfl) ?_ ?_
            · (repeat (first | exact Grew.refl _ | refine Grew.over ?_ _ | refine Grew.alloc ?_ _ | refine Grew.drew ?_ | refine Grew.drewN ?_ _))
            repeat (first
              | (refine lex_skip rfl ?_ ?_
                 · exact One.keep (by decide)
                 (try simp only [Act.put, List.setIfInBounds_toArray, List.set_cons_zero, List.set_cons_succ]))
              | (refine lex_pure (v := ?_) rfl ?_ (fun d w hd hr hC => ?_) ?_
                 rotate_left
                 · exact One.keep (by decide)
                 · ((try (have hs := closed_undone (s := 11) hr.2 rfl (by decide +kernel) hd; unfold One at hC; rw [hs] at hC)); obtain ⟨x, rfl⟩ := hC; simp [go_sem, ↓IntWalk.iteOmega, t0, t1, x1, x2, lT, hgl]; try rfl)
                 (try simp only [Act.put, List.setIfInBounds_toArray, List.set_cons_zero, List.set_cons_succ]))
              | (refine lex_call (v := ?_) (f := ?_) (args := ?_) rfl ?_ One.grew (fun d w hd hr hC => ?_) (fun d w hd hr hC => ?_) ?_
                 rotate_left 3
                 · exact One.keep (by decide)
                 · ((try (have hs := closed_undone (s := 11) hr.2 rfl (by decide +kernel) hd; unfold One at hC; rw [hs] at hC)); obtain ⟨x, rfl⟩ := hC; simp [go_sem, ↓IntWalk.iteOmega, t0, t1, x1, x2, lT, hgl]; (refine ⟨?_, ?_⟩ <;> rfl))
                 · ((try (have hs := closed_undone (s := 11) hr.2 rfl (by decide +kernel) hd; unfold One at hC; rw [hs] at hC)); obtain ⟨x, rfl⟩ := hC; ((go_at_call 65; with_reducible exact Hoth.out _)))
                 (try simp only [Act.put, List.setIfInBounds_toArray, List.set_cons_zero, List.set_cons_succ]))
              | (refine lex_store rfl (fun d w hd hr hC => ?_) ?_
                 · (unfold One at hC ⊢; rw [hd] at hC; rw [mark_same]; obtain ⟨x, rfl⟩ := hC; refine ⟨?_, ?_, ?_⟩; rotate_left; (simp [go_sem, ↓IntWalk.iteOmega, t0, t1, x1, x2, lT, hgl]; try rfl); (simp; exact ⟨_, rfl⟩))
                 (try simp only [Act.put, List.setIfInBounds_toArray, List.set_cons_zero, List.set_cons_succ])))
            refine lex_nil ?_
            intro dLx w5 hd hw5
            unfold One at hw5; rw [hd 11 (by decide)] at hw5; simp only [if_true] at hw5
            have hI6 := HI5.out.gr (Gr.setCell (ex := fun k => k = g) (i := u) (Gr.refl _ wr) rfl (.int .i64 y)) (fun a ha e => by
              cases ha
              have := Hqb.out _ rfl
              dsimp only at this e
              omega)
            have HI6 := Lib.hid (hI6.grew hw5)
            have HO5 := Lib.hid ((own_setI HO.out (j := 0) rfl u y).grew hw5)
            have Hg5 := Lib.hid ((Hgr.out.setCell (show wB.heap.size ≤ g from Nat.le_of_eq Hgs.out) (.int .i64 y)).trans hw5)
            clear hw5 x1 x2 t0 t1
            go_wp2
            go_roundw
            case rel => exact ⟨d + 1, by omega, by go_num, Hg5.out.trans (by (repeat (first | exact gR _ | refine gO ?_ _ | refine gA ?_ _ | refine gD ?_ | refine gN ?_ _))), HI6.out.grew (by (repeat (first | exact gR _ | refine gO ?_ _ | refine gA ?_ _ | refine gD ?_ | refine gN ?_ _))), by rw [Hk.out]; exact HO5.out.grew (by (repeat (first | exact gR _ | refine gO ?_ _ | refine gA ?_ _ | refine gD ?_ | refine gN ?_ _)))⟩
            case measure => (simp [intOf] <;> omega)
          · have hb : (x == t) = false := beq_eq_false_iff_ne.2 hxt
            rw [if_neg hxt] at Hk
            clear hxt
            go_wp2
            go_roundw
            case rel => exact ⟨d + 1, by omega, by go_num, Hgr.out.trans (by (repeat (first | exact gR _ | refine gO ?_ _ | refine gA ?_ _ | refine gD ?_ | refine gN ?_ _))), HI5.out.grew (by (repeat (first | exact gR _ | refine gO ?_ _ | refine gA ?_ _ | refine gD ?_ | refine gN ?_ _))), by rw [Hk.out]; exact HO.out.grew (by (repeat (first | exact gR _ | refine gO ?_ _ | refine gA ?_ _ | refine gD ?_ | refine gN ?_ _)))⟩
            case measure => (simp [intOf] <;> omega)
        · obtain rfl : d = nL := by omega
          have Hbd : Hid (∀ x ∈ parK E v L t d, -9223372036854775808 ≤ x ∧ x ≤ 9223372036854775807) := Lib.hid (fun x hx => by
            have := parK_rng HV.out L t d (by have := Hnl.out; have := HnE.out; omega) x (by rw [HnA.out]; exact hx)
            have := HnA.out
            omega)
          go_wp2
          go_ret
          have hOf := HO.out.grew (show Grew wr _ by (repeat (first | exact gR _ | refine gO ?_ _ | refine gA ?_ _ | refine gD ?_ | refine gN ?_ _)))
          obtain ⟨q, cap, e, b1, b2, _⟩ := hOf.ints (k := 0) rfl (parK_len E v L t d) Hbd.out
          cases e
          exact ⟨Hgwr.out.trans (by (repeat (first | exact gR _ | refine gO ?_ _ | refine gA ?_ _ | refine gD ?_ | refine gN ?_ _))), _, _, rfl, by rw [← Hnl.out]; exact b1, fun a ha => by cases ha; exact Nat.le_of_lt hgb⟩
end Go.Proofs.YtlealdicoceekaaDoor

/- What the reference checks is what the program checks; the reference's check, Parents. -/
namespace Go.Proofs.YtlealdicoceekaaDoor
open Go.RowKit

/-- Behind a dart with the label 0 no other one has it. -/
theorem runB_no0 {L : List Int} : ∀ {l : List Int} {last lv : Nat}, 1 ≤ lv → runB L last lv l = true → ∀ d ∈ l, lab L d ≠ 0
  | [], _, _, _, _ => fun d hd => by simp at hd
  | x :: l, last, lv, h1, h => fun d hd => by
    unfold runB at h
    rcases List.mem_cons.1 hd with rfl | hd'
    · intro e
      rw [e, if_pos (by omega)] at h
      by_cases h2 : (0 : Int) = (lv : Int)
      · omega
      · rw [if_neg h2] at h; cases h
    · split at h
      · split at h
        · exact runB_no0 (by omega) h d hd'
        · cases h
      · split at h
        · exact runB_no0 h1 h d hd'
        · cases h
theorem lastF_spec (L row : List Int) : ∀ k, (lastF L row k = -1 ∧ ∀ j, j < k → lab L (ge row j) ≠ 0) ∨ (∃ p : Nat, lastF L row k = (p : Int) ∧ p < k ∧ lab L (ge row p) = 0)
  | 0 => .inl ⟨rfl, fun j hj => by omega⟩
  | k + 1 => by
    unfold lastF
    by_cases h : lab L (ge row k) = 0
    · rw [if_pos h]
      exact .inr ⟨k, rfl, by omega, h⟩
    · rw [if_neg h]
      rcases lastF_spec L row k with ⟨h1, h2⟩ | ⟨p, h1, h2, h3⟩
      · exact .inl ⟨h1, fun j hj => by
          by_cases e : j = k
          · rw [e]; exact h
          · exact h2 j (by omega)⟩
      · exact .inr ⟨p, h1, by omega, h3⟩
theorem drop_cons_ge {xs : List Int} {p : Nat} (h : p < xs.length) : xs.drop p = ge xs p :: xs.drop (p + 1) := by
  rw [ge_eq xs h]
  exact List.drop_eq_getElem_cons h
theorem other_mem {xs : List Int} {p q : Nat} (hp : p < xs.length) (hq : q < xs.length) (h : p ≠ q) : ge xs q ∈ (xs.drop (p + 1) ++ xs.take p) := by
  rw [List.mem_append]
  by_cases hpq : p < q
  · left
    rw [ge_eq xs hq, List.mem_drop_iff_getElem]
    exact ⟨q - (p + 1), by omega, by congr 1; omega⟩
  · right
    rw [ge_eq xs hq, List.mem_take_iff_getElem]
    exact ⟨q, by omega, rfl⟩
theorem turns_vert (A : List (List Int)) (L : List Int) (v : Nat) : turnsB A L v = vertB A L v := by
  unfold turnsB vertB
  obtain ⟨xs, hxs⟩ : ∃ xs, rowOf A v = xs := ⟨_, rfl⟩
  rw [hxs]
  have hat := atF_at (L := L) (t := 0) (xs := xs)
  have har := atF_range (L := L) (t := 0) xs
  rcases lastF_spec L xs xs.length with ⟨h1, h2⟩ | ⟨q, h1, h2, h3⟩
  · rw [h1, atF_none h2]
    rfl
  · have ha0 : 0 ≤ atF L 0 xs := by
      refine Classical.byContradiction fun hn => ?_
      obtain ⟨k, hk⟩ : ∃ k, k < xs.length ∧ lab L (ge xs k) = 0 := ⟨q, h2, h3⟩
      have : ∃ k, k < xs.length ∧ lab L (ge xs k) = 0 ∧ ∀ j, j < k → lab L (ge xs j) ≠ 0 := by
        have key : ∀ n k, k ≤ n → k < xs.length → lab L (ge xs k) = 0 → ∃ k, k < xs.length ∧ lab L (ge xs k) = 0 ∧ ∀ j, j < k → lab L (ge xs j) ≠ 0 := by
          intro n
          induction n with
          | zero => exact fun k h1 h2 h3 => ⟨k, h2, h3, fun j hj => by omega⟩
          | succ n ih =>
            intro k h1 h2 h3
            by_cases h : ∃ j, j < k ∧ lab L (ge xs j) = 0
            · obtain ⟨j, hj, hj2⟩ := h
              exact ih j (by omega) (by omega) hj2
            · exact ⟨k, h2, h3, fun j hj e => h ⟨j, hj, e⟩⟩
        exact key k k (Nat.le_refl _) hk.1 hk.2
      obtain ⟨k, hk1, hk2, hk3⟩ := this
      have := atF_first k hk1 hk3 hk2
      omega
    obtain ⟨h4, _⟩ := hat ha0
    obtain ⟨p, hp⟩ : ∃ p : Nat, atF L 0 xs = (p : Int) := ⟨(atF L 0 xs).toNat, by omega⟩
    rw [hp] at h4 har ha0 ⊢
    rw [h1, if_neg (by omega), if_neg (by omega), Int.toNat_natCast, Int.toNat_natCast]
    rw [Int.toNat_natCast] at h4
    have hpl : p < xs.length := by omega
    rw [drop_cons_ge hpl, drop_cons_ge h2, List.cons_append, List.cons_append, List.drop_succ_cons, List.drop_zero]
    have hrun : ∀ rest, runB L 0 0 (ge xs p :: rest) = runB L 0 1 rest := fun rest => by
      show (if 0 ≤ lab L (ge xs p) then (if lab L (ge xs p) = ((0 : Nat) : Int) then runB L 0 (0 + 1) rest else false) else _) = _
      rw [h4, if_pos (by omega), if_pos (by rfl)]
    rw [hrun]
    by_cases hpq : p = q
    · rw [hpq]
    · have e1 : runB L 0 1 (xs.drop (p + 1) ++ xs.take p) = false := by
        cases h : runB L 0 1 (xs.drop (p + 1) ++ xs.take p)
        · rfl
        · exact absurd h3 (runB_no0 (Nat.le_refl _) h _ (other_mem hpl h2 hpq))
      have e2 : runB L 0 1 (xs.drop (q + 1) ++ xs.take q) = false := by
        cases h : runB L 0 1 (xs.drop (q + 1) ++ xs.take q)
        · rfl
        · exact absurd h4 (runB_no0 (Nat.le_refl _) h _ (other_mem h2 hpl (fun e => hpq e.symm)))
      rw [e1, e2]

section
variable {N : Int} {E : List (Int × Int)} {A : List (List Int)} {L : List Int}
theorem idx_ge_iff {v : Int} {l : List Int} : 0 ≤ idx v l ↔ v ∈ l := by
  have := idx_neg_iff (v := v) (l := l)
  constructor
  · intro h; exact Classical.byContradiction fun k => by have := this.2 k; omega
  · intro h; exact Classical.byContradiction fun k => this.1 (by omega) h
theorem oth_even (i : Nat) : oth (2 * (i : Int)) = 2 * (i : Int) + 1 := by unfold oth; rw [if_pos (by omega)]
theorem oth_odd (i : Nat) : oth (2 * (i : Int) + 1) = 2 * (i : Int) := by unfold oth; rw [if_neg (by omega)]; omega
theorem ends_ref (hT : trgB N E A = true) {i : Nat} (hi : i < E.length) : endsB E A L (2 * (i : Int)) = (rngB (lab L (2 * (i : Int))) && rngB (lab L (2 * (i : Int) + 1)) && eB E A L i) := by
  have hd : isD E (2 * (i : Int)) := ⟨by omega, by omega⟩
  have ho := outB_iff hT hd
  rw [oth_even, ← idx_ge_iff, ← idx_ge_iff] at ho
  unfold endsB eB sideB
  rw [oth_even, oth_odd]
  obtain ⟨a, ha⟩ : ∃ a, idx (tailE E (2 * (i : Int))) (rts E A) = a := ⟨_, rfl⟩
  obtain ⟨b, hb⟩ : ∃ b, idx (tailE E (2 * (i : Int) + 1)) (rts E A) = b := ⟨_, rfl⟩
  obtain ⟨x, hx⟩ : ∃ x, lab L (2 * (i : Int)) = x := ⟨_, rfl⟩
  obtain ⟨y, hy⟩ : ∃ y, lab L (2 * (i : Int) + 1) = y := ⟨_, rfl⟩
  rw [ha, hb] at ho
  rw [ha, hb, hx, hy]
  by_cases hab : 0 ≤ a ∧ 0 ≤ b
  · rw [if_pos (ho.2 hab), edB_tt hab.1 hab.2]
    rw [Bool.eq_iff_iff]
    simp only [Bool.and_eq_true, beq_iff_eq, rngB, decide_eq_true_eq]
    omega
  · rw [if_neg (fun h => hab (ho.1 h))]
    unfold edB
    rw [if_neg hab, Bool.eq_iff_iff]
    by_cases hx1 : x = -1
    · by_cases hy1 : y = -1
      · subst hx1 hy1; simp
      · have hy2 : (y == -1) = false := beq_eq_false_iff_ne.2 hy1
        subst hx1
        simp only [hy2, rngB, Bool.and_eq_true, Bool.or_eq_true, decide_eq_true_eq, Bool.not_eq_true', Bool.or_eq_false_iff, Bool.and_eq_false_iff, decide_eq_false_iff_not, beq_self_eq_true, Bool.not_eq_false', beq_iff_eq]
        simp
        omega
    · have hx2 : (x == -1) = false := beq_eq_false_iff_ne.2 hx1
      by_cases hy1 : y = -1
      · subst hy1
        simp only [hx2, rngB, Bool.and_eq_true, Bool.or_eq_true, decide_eq_true_eq, Bool.not_eq_true', Bool.or_eq_false_iff, Bool.and_eq_false_iff, decide_eq_false_iff_not, beq_self_eq_true, Bool.not_eq_false', beq_iff_eq]
        simp
        omega
      · have hy2 : (y == -1) = false := beq_eq_false_iff_ne.2 hy1
        simp [hx2, hy2]
theorem chk_ref : chkL N E A L = chk38 N E A L := by
  unfold chkL chk38
  cases hT : trgB N E A
  · rfl
  rw [Bool.true_and, Bool.true_and]
  unfold fitB refB
  by_cases hl : L.length = 2 * E.length
  · rw [decide_eq_true hl, Bool.true_and, Bool.true_and]
    rw [Bool.eq_iff_iff]
    simp only [Bool.and_eq_true, List.all_eq_true, List.mem_range]
    have hlab : ∀ i : Nat, lab L (2 * (i : Int)) = ge L (2 * i) ∧ lab L (2 * (i : Int) + 1) = ge L (2 * i + 1) := fun i => ⟨by unfold lab; congr 1, by unfold lab; congr 1⟩
    have e3 : (∀ v, v < A.length → (decide (0 ≤ idx (v : Int) (rts E A)) || vertB A L v) = true) ↔ ∀ v, v < A.length → (decide (0 ≤ idx (v : Int) (rts E A)) || turnsB A L v) = true := by
      simp only [turns_vert]
    rw [e3]
    constructor
    · rintro ⟨⟨h1, h2⟩, h3⟩
      refine ⟨fun i hi => ?_, h3⟩
      rw [ends_ref hT hi, (hlab i).1, (hlab i).2, h1 _ (by omega), h1 _ (by omega), h2 i hi]
      rfl
    · rintro ⟨h1, h3⟩
      refine ⟨⟨fun j hj => ?_, fun i hi => ?_⟩, h3⟩
      · have := h1 (j / 2) (by omega)
        rw [ends_ref hT (by omega), (hlab _).1, (hlab _).2] at this
        simp only [Bool.and_eq_true] at this
        rcases Nat.mod_two_eq_zero_or_one j with h | h
        · rw [show j = 2 * (j / 2) by omega]; exact this.1.1
        · rw [show j = 2 * (j / 2) + 1 by omega]; exact this.1.2
      · have := h1 i hi
        rw [ends_ref hT hi] at this
        simp only [Bool.and_eq_true] at this
        exact this.2
  · rw [decide_eq_false hl]
    rfl

theorem parK_at (hV : vRot N E A) {t : Int} {u : Nat} (hu : u < A.length) : ∀ k, k ≤ 2 * E.length →
    ((∀ d : Nat, d < k → lab L d = t → tailE E d ≠ u) → ge (parK E A.length L t k) u = -1) ∧
    (∀ x : Nat, x < k → lab L x = t → tailE E x = u → (∀ d : Nat, d < k → lab L d = t → tailE E d = u → d = x) → ge (parK E A.length L t k) u = tailE E (oth x))
  | 0, _ => ⟨fun _ => by unfold parK; simp [ge, hu], fun x hx => by omega⟩
  | k + 1, hk => by
    obtain ⟨i1, i2⟩ := parK_at hV (t := t) hu k (by omega)
    have hh := head_in hV (show isD E (k : Int) from ⟨by omega, by omega⟩)
    have hpl := parK_len E A.length L t k
    refine ⟨fun h => ?_, fun x hx h1 h2 h3 => ?_⟩
    · unfold parK
      split
      · rename_i e
        have hne := h k (by omega) e
        rw [ge_set_other _ (by omega)]
        exact i1 fun d hd => h d (by omega)
      · exact i1 fun d hd => h d (by omega)
    · unfold parK
      by_cases hxk : x = k
      · subst hxk
        rw [if_pos h1, h2, Int.toNat_natCast, ge_set_same _ (by omega)]
      · have hih := i2 x (by omega) h1 h2 (fun d hd a b => h3 d (by omega) a b)
        split
        · rename_i e
          by_cases hte : tailE E (k : Int) = u
          · exact absurd (h3 k (by omega) e hte).symm hxk
          · rw [ge_set_other _ (by omega)]
            exact hih
        · exact hih
theorem par_eq (hT : trgB N E A = true) (hS : Sch E A L) {t : Nat} (ht : t < 3) : parK E A.length L t (2 * E.length) = parL E A L t := by
  have hV := trg_valid hT
  refine List.ext_getElem (by rw [parK_len]; unfold parL; rw [tab_length]) fun i h1 h2 => ?_
  rw [parK_len] at h1
  rw [← ge_eq, ← ge_eq]
  unfold parL
  rw [ge_tab _ h1]
  obtain ⟨i1, i2⟩ := parK_at (L := L) hV (t := (t : Int)) h1 (2 * E.length) (Nat.le_refl _)
  by_cases hi : (i : Int) ∈ rts E A
  · rw [if_pos hi]
    refine i1 fun d hd e1 e2 => ?_
    have := hS.rt d ⟨by omega, by omega⟩ (by rw [e2]; exact hi)
    omega
  · rw [if_neg hi]
    have hup := up_dart hT hS h1 hi ht
    have hul := (up_ok hT hS h1 hi ht).2
    obtain ⟨x, hx⟩ : ∃ x : Nat, upF A L t i = (x : Int) := ⟨(upF A L t i).toNat, by have := hup.1.1; omega⟩
    unfold parF
    rw [hx] at hup hul ⊢
    refine i2 x (by have := hup.1.2; omega) hul hup.2 fun d hd e1 e2 => ?_
    have := trn_uniq hT hS hup.1 (show isD E (d : Int) from ⟨by omega, by omega⟩) (by rw [hup.2]; exact hi) (by rw [hup.2, e2]) (by omega) (by rw [hul, e1])
    omega
end
end Go.Proofs.YtlealdicoceekaaDoor

/- The reference: check, Parents. -/
namespace Go.Proofs.YtlealdicoceekaaDoor
open Go.RowKit
attribute [local go_sem ↓] Go.wp_at_zero Go.wp_at_succ

/-- What a function of the reference returns: a list and an error. -/
def TwoR (xs : List Int) (er : Int) (w : World) (e : Ending) (w' : World) : Prop :=
  Grew w w' ∧ ∃ q cap, e = .returned (.tuple #[.slice q xs.length cap, .int .i64 er]) ∧ Ints w' q xs
theorem TwoR.none {w w' : World} {er : Int} (hg : Grew w w') : TwoR [] er w (.returned (.tuple #[.slice none 0 0, .int .i64 er])) w' :=
  ⟨hg, Option.none, 0, rfl, Ints.nil _ _⟩
section
variable (N : Int) (pE pA pL : Option Addr) (nE nA nL cE cA cL : Nat) (E : List (Int × Int)) (A : List (List Int)) (L : List Int) (w : World)
set_option maxHeartbeats 2000000 in
theorem err38_r (hR : RotIn w pE pA cE E A) (hI : Ints w pL L) (hnE : E.length = nE) (hnA : A.length = nA) (hnL : L.length = nL) (hL1 : nL ≤ 1000) :
    Calls Tryd.prog 38 #[.agg #[.int .i64 N, .slice pE nE cE, .slice pA nA cA], .slice pL nL cL] w fun e w' => e = .returned (.int .i64 (err38 N E A L)) ∧ Grew w w' := by
  have HR := Lib.hid hR
  have HI := Lib.hid hI
  obtain ⟨tt, htt⟩ : ∃ tt, trgB N E A = tt := ⟨_, rfl⟩
  obtain ⟨ff, hff⟩ : ∃ ff, fitB E A L = ff := ⟨_, rfl⟩
  have Htr : Hid (∀ W1, Grew w W1 → Calls Tryd.prog 21 #[.agg #[.int .i64 N, .slice pE nE cE, .slice pA nA cA]] W1 fun e w' => e = .returned (.bool tt) ∧ Grew W1 w') := Lib.hid (fun W1 h => by
    have := trg_r N pE pA nE nA cE cA E A W1 (HR.out.grew h) hnE hnA
    rw [htt] at this
    exact this)
  have Hch : Hid (∀ W1, Grew w W1 → Calls Tryd.prog 16 #[.agg #[.int .i64 N, .slice pE nE cE, .slice pA nA cA], .slice pL nL cL] W1 fun e w' => e = .returned (.bool (tt && ff)) ∧ Grew W1 w') := Lib.hid (fun W1 h => by
    have := check38_r N pE pA pL nE nA nL cE cA cL E A L W1 (HR.out.grew h) (HI.out.grew h) hnE hnA hnL hL1
    rw [chk_ref] at this
    unfold chk38 at this
    rw [htt, hff] at this
    exact this)
  have Hf : Hid (err38 N E A L = if tt = false then 13 else if ff = false then 1 else 0) := Lib.hid (by unfold err38; rw [htt, hff])
  clear hR hI htt hff
  cases tt
  · go_enter Tryd.func38, Tryd.ntmps38
    go_wp2_with ((go_at_call 21; apply Calls.mono; (with_reducible exact Htr.out _ (by (repeat (first | exact gR _ | refine gO ?_ _ | refine gA ?_ _ | refine gD ?_ | refine gN ?_ _)))); rintro e w' ⟨rfl, x, rfl⟩))
    go_ret
    exact ⟨by rw [Hf.out]; rfl, by (repeat (first | exact gR _ | refine gO ?_ _ | refine gA ?_ _ | refine gD ?_ | refine gN ?_ _))⟩
  · cases ff
    · go_enter Tryd.func38, Tryd.ntmps38
      go_wp2_with (first | ((go_at_call 21; apply Calls.mono; (with_reducible exact Htr.out _ (by (repeat (first | exact gR _ | refine gO ?_ _ | refine gA ?_ _ | refine gD ?_ | refine gN ?_ _)))); rintro e w' ⟨rfl, x, rfl⟩)) | ((go_at_call 16; apply Calls.mono; (with_reducible exact Hch.out _ (by (repeat (first | exact gR _ | refine gO ?_ _ | refine gA ?_ _ | refine gD ?_ | refine gN ?_ _)))); rintro e w' ⟨rfl, x, rfl⟩)))
      go_ret
      exact ⟨by rw [Hf.out]; rfl, by (repeat (first | exact gR _ | refine gO ?_ _ | refine gA ?_ _ | refine gD ?_ | refine gN ?_ _))⟩
    · go_enter Tryd.func38, Tryd.ntmps38
      go_wp2_with (first | ((go_at_call 21; apply Calls.mono; (with_reducible exact Htr.out _ (by (repeat (first | exact gR _ | refine gO ?_ _ | refine gA ?_ _ | refine gD ?_ | refine gN ?_ _)))); rintro e w' ⟨rfl, x, rfl⟩)) | ((go_at_call 16; apply Calls.mono; (with_reducible exact Hch.out _ (by (repeat (first | exact gR _ | refine gO ?_ _ | refine gA ?_ _ | refine gD ?_ | refine gN ?_ _)))); rintro e w' ⟨rfl, x, rfl⟩)))
      go_ret
      exact ⟨by rw [Hf.out]; rfl, by (repeat (first | exact gR _ | refine gO ?_ _ | refine gA ?_ _ | refine gD ?_ | refine gN ?_ _))⟩
theorem err_ok {N : Int} {E : List (Int × Int)} {A : List (List Int)} {L : List Int} (h : err38 N E A L = 0) : trgB N E A = true ∧ fitB E A L = true := by
  unfold err38 at h
  cases hT : trgB N E A
  · rw [if_pos hT] at h; omega
  · rw [if_neg (by rw [hT]; simp)] at h
    cases hF : fitB E A L
    · rw [if_pos hF] at h; omega
    · exact ⟨rfl, rfl⟩
theorem parRes_err {N : Int} {E : List (Int × Int)} {A : List (List Int)} {L : List Int} {t : Int} (h : err38 N E A L ≠ 0) : parRes N E A L t = ([], err38 N E A L) := by
  unfold err38 at h ⊢
  unfold parRes
  split
  · rfl
  · rename_i h1
    rw [if_neg h1] at h
    split
    · rfl
    · rename_i h2
      rw [if_neg h2] at h
      exact absurd rfl h
set_option maxHeartbeats 4000000 in
theorem parents38_r (t : Int) (hR : RotIn w pE pA cE E A) (hI : Ints w pL L) (hnE : E.length = nE) (hnA : A.length = nA) (hnL : L.length = nL) (hL1 : nL ≤ 1000) :
    Calls Tryd.prog 14 #[.agg #[.int .i64 N, .slice pE nE cE, .slice pA nA cA], .slice pL nL cL, .int .i64 t] w (TwoR (parRes N E A L t).1 (parRes N E A L t).2 w) := by
  have HR := Lib.hid hR
  have HI := Lib.hid hI
  obtain ⟨er, her⟩ : ∃ er, err38 N E A L = er := ⟨_, rfl⟩
  have Hck : Hid (∀ W1, Grew w W1 → Calls Tryd.prog 38 #[.agg #[.int .i64 N, .slice pE nE cE, .slice pA nA cA], .slice pL nL cL] W1 fun e w' => e = .returned (.int .i64 er) ∧ Grew W1 w') := Lib.hid (fun W1 h => by
    have := err38_r N pE pA pL nE nA nL cE cA cL E A L W1 (HR.out.grew h) (HI.out.grew h) hnE hnA hnL hL1
    rw [her] at this
    exact this)
  by_cases he0 : er = 0
  case neg =>
    have Hf : Hid (parRes N E A L t = ([], er)) := Lib.hid (by rw [← her]; exact parRes_err (by rw [her]; exact he0))
    have hern : (er == 0) = false := beq_eq_false_iff_ne.2 he0
    have hern2 : (er != 0) = true := by simp [bne, hern]
    clear her he0 hR hI
    go_enter Tryd.func14, Tryd.ntmps14
    go_wp2_with ((go_at_call 38; apply Calls.mono; (with_reducible exact Hck.out _ (by (repeat (first | exact gR _ | refine gO ?_ _ | refine gA ?_ _ | refine gD ?_ | refine gN ?_ _)))); rintro e w' ⟨rfl, x, rfl⟩))
    go_ret2
    rw [Hf.out]
    exact TwoR.none (by (repeat (first | exact gR _ | refine gO ?_ _ | refine gA ?_ _ | refine gD ?_ | refine gN ?_ _)))
  subst he0
  obtain ⟨hT, hF⟩ := err_ok her
  by_cases ht : t < 0 ∨ 2 < t
  · have Hf : Hid (parRes N E A L t = ([], 3)) := Lib.hid (by unfold parRes; rw [if_neg (by rw [hT]; simp), if_neg (by rw [hF]; simp), if_pos ht])
    clear her hR hI hT hF
    rcases (by omega : t < 0 ∨ (0 ≤ t ∧ 2 < t)) with k | ⟨k, k2⟩
    · clear ht
      go_enter Tryd.func14, Tryd.ntmps14
      go_wp2_with ((go_at_call 38; apply Calls.mono; (with_reducible exact Hck.out _ (by (repeat (first | exact gR _ | refine gO ?_ _ | refine gA ?_ _ | refine gD ?_ | refine gN ?_ _)))); rintro e w' ⟨rfl, x, rfl⟩))
      go_ret2
      rw [Hf.out]
      exact TwoR.none (by (repeat (first | exact gR _ | refine gO ?_ _ | refine gA ?_ _ | refine gD ?_ | refine gN ?_ _)))
    · have k0 : ¬ t < 0 := by omega
      clear ht
      go_enter Tryd.func14, Tryd.ntmps14
      go_wp2_with ((go_at_call 38; apply Calls.mono; (with_reducible exact Hck.out _ (by (repeat (first | exact gR _ | refine gO ?_ _ | refine gA ?_ _ | refine gD ?_ | refine gN ?_ _)))); rintro e w' ⟨rfl, x, rfl⟩))
      go_ret2
      rw [Hf.out]
      exact TwoR.none (by (repeat (first | exact gR _ | refine gO ?_ _ | refine gA ?_ _ | refine gD ?_ | refine gN ?_ _)))
  · obtain ⟨tn, rfl⟩ : ∃ tn : Nat, t = (tn : Int) := ⟨t.toNat, by omega⟩
    have htn : tn < 3 := by omega
    have hS := fit_sch hT hF
    have Hf : Hid (parRes N E A L tn = (parL E A L tn, 0)) := Lib.hid (by unfold parRes; rw [if_neg (by rw [hT]; simp), if_neg (by rw [hF]; simp), if_neg ht])
    have k0 : ¬ (tn : Int) < 0 := by omega
    have k1 : ¬ 2 < (tn : Int) := by omega
    have Hpl : Hid ((parL E A L tn).length = nA) := Lib.hid (by unfold parL; rw [tab_length]; exact hnA)
    have Hpr : Hid (∀ W1, Grew w W1 → Calls Tryd.prog 39 #[.agg #[.int .i64 N, .slice pE nE cE, .slice pA nA cA], .slice pL nL cL, .int .i64 tn] W1 fun e w' => Grew W1 w' ∧ ∃ q cap, e = .returned (.slice q nA cap) ∧ Ints w' q (parL E A L tn)) := Lib.hid (fun W1 h => by
      have := par38_r N pE pA pL nE nA nL cE cA cL E A L tn W1 (trg_valid hT) HR.out.e1 HR.out.a1 (HR.out.hE.grew h) (HI.out.grew h) hnE hnA hnL hS.len
      rw [← hnE, ← hnA, par_eq hT hS htn] at this
      rw [← hnE, ← hnA]
      exact this.mono fun e w' ⟨h1, q, cap, h2, h3, _⟩ => ⟨h1, q, cap, h2, h3⟩)
    clear her hR hI hT hF hS ht
    go_enter Tryd.func14, Tryd.ntmps14
    go_wp2_with (first
      | ((go_at_call 38; apply Calls.mono; (with_reducible exact Hck.out _ (by (repeat (first | exact gR _ | refine gO ?_ _ | refine gA ?_ _ | refine gD ?_ | refine gN ?_ _)))); rintro e w' ⟨rfl, x, rfl⟩))
      | (go_at_call 39; apply Calls.mono; (with_reducible exact Hpr.out _ (by (repeat (first | exact gR _ | refine gO ?_ _ | refine gA ?_ _ | refine gD ?_ | refine gN ?_ _)))); rintro e w4 ⟨hg4, q4, c4, rfl, hI4⟩; have HI4 := Lib.hid hI4; have Hg4 := Lib.hid ((show Grew w _ by (repeat (first | exact gR _ | refine gO ?_ _ | refine gA ?_ _ | refine gD ?_ | refine gN ?_ _))).trans hg4); clear hI4 hg4))
    go_ret2
    rw [Hf.out]
    exact ⟨Hg4.out.trans (by (repeat (first | exact gR _ | refine gO ?_ _ | refine gA ?_ _ | refine gD ?_ | refine gN ?_ _))), _, _, by rw [Hpl.out]; rfl, HI4.out.grew (by (repeat (first | exact gR _ | refine gO ?_ _ | refine gA ?_ _ | refine gD ?_ | refine gN ?_ _)))⟩
end
end Go.Proofs.YtlealdicoceekaaDoor

/- Maps from numbers to truth values, made by the call. -/
namespace Go.Proofs.YtlealdicoceekaaDoor
open Go.RowKit
open Go.Maps (Keyed IsMap Tidy)
attribute [local go_sem ↓] Go.wp_at_zero Go.wp_at_succ

theorem mi_law : Keyed Tryd.prog 3 := Go.Maps.int_keyed Tryd.underlying3
def okI (a : Int) : Prop := (Lit.int .i64 a).wf = true
theorem okI_small {a : Int} (h : -1000000 ≤ a ∧ a ≤ 1000000) : okI a := by
  have e1 : IntKind.i64.min = -9223372036854775808 := rfl
  have e2 : IntKind.i64.max = 9223372036854775807 := rfl
  unfold okI
  simp only [Lit.wf, e1, e2]
  simp; omega
theorem klI_eq {a : Int} (h : okI a) : keyOf Tryd.prog 3 (.int .i64 a) = some (.int .i64 a) := by
  unfold keyOf
  rw [Tryd.underlying3]
  have h' := h
  unfold okI at h'
  simp [mapKey, Tryd.underlying3, h']
/-- The map holds just the numbers of S. -/
def MetI (D : DataW Unit) (S : List Int) : Prop := Tidy D ∧ ∀ a, okI a → D.atKey (.int .i64 a) (.lit (.bool false)) = .lit (.bool (decide (a ∈ S)))
theorem MetI.nil : MetI (.map []) [] := ⟨Go.Maps.tidy_empty, fun a _ => by simp [DataW.atKey]⟩
theorem MetI.put {D : DataW Unit} {S : List Int} (h : MetI D S) {b : Int} (hb : okI b) : MetI (D.put (.int .i64 b) (.lit (.bool true))) (S ++ [b]) := by
  refine ⟨h.1.put (mi_law.key (klI_eq hb)) _, fun a ha => ?_⟩
  by_cases e : a = b
  · subst e
    rw [Maps.atKey_put_same h.1.isMap (mi_law.key (klI_eq ha))]
    simp
  · rw [Maps.atKey_put_other (fun k => e (by injection k)), h.2 a ha]
    simp [e]
theorem MetI.look {w : World} {b n : Nat} {D : DataW Unit} {S : List Int} (h : MetI D S) (hO : w.ownsMap Tryd.prog 3 (plainElem Tryd.prog 4) b n D) {a : Int} (ha : okI a) {t : Bool} (ht : decide (a ∈ S) = t) :
    (Instr.lookup 62 (.map (some b)) (.int .i64 a) false).run Tryd.prog w = .ok (.bool t) w := by
  obtain ⟨v, ps, hrun, hv⟩ := hO.lookup (t := 62) mi_law Tryd.underlying62 (zero_bool w) (plainElem_bool Tryd.underlying4 false) (klI_eq ha)
  rw [h.2 a ha, ht] at hv
  have : v = .bool t := by
    unfold plainElem at hv
    rw [Tryd.underlying4] at hv
    cases v <;> simp at hv
    rw [hv.1]
  rw [← this]
  exact hrun
/-- With the number of entries. -/
def SzI (D : DataW Unit) (S : List Int) : Prop := MetI D S ∧ (∀ a, okI a → Maps.has D (.int .i64 a) = decide (a ∈ S)) ∧ Maps.size D = S.length
theorem SzI.nil : SzI (.map []) [] := ⟨MetI.nil, fun a _ => by simp [Maps.has], rfl⟩
theorem SzI.put {D : DataW Unit} {S : List Int} (h : SzI D S) {b : Int} (hb : okI b) (hn : b ∉ S) : SzI (D.put (.int .i64 b) (.lit (.bool true))) (S ++ [b]) := by
  refine ⟨h.1.put hb, fun a ha => ?_, ?_⟩
  · by_cases e : a = b
    · subst e
      rw [Maps.has_put_same h.1.1.isMap (mi_law.key (klI_eq ha))]
      simp
    · rw [Maps.has_put_other (fun k => e (by injection k)), h.2.1 a ha]
      simp [e]
  · rw [Maps.size_put h.1.1, h.2.1 b hb, decide_eq_false hn, List.length_append, ← h.2.2]
    rfl
theorem mi_len {w : World} {b n : Nat} {D : DataW Unit} {S : List Int} (h : SzI D S) (hO : w.ownsMap Tryd.prog 3 (plainElem Tryd.prog 4) b n D) : ∃ es clock, w.heap[b]? = some (.map es clock) ∧ es.size = S.length := by
  obtain ⟨es, clock, hb, F, hs, hD⟩ := hO
  refine ⟨es, clock, hb, ?_⟩
  have := h.2.2
  rw [hD] at this
  unfold Maps.size at this
  simp only [length_sorted] at this
  simpa using this
theorem wpList_insert_own {H : Type} {P : Program} (w : World) {ops : Array Oper} {rest : List Oper} {o : Oper} {a : Act} {Q : Exit → Act → World → Prop}
    (hg : o.guard = none) (m x v : Operand) (t : TypeId) (hop : o.op = Op.insert t m x v)
    (k e : TypeId) (K : Keyed P k) (ht : P.underlying t = some (.map k e)) (R : Value → Option (DataW H × List MemPlace)) (b n : Nat) (D : DataW H)
    (hm : a.eval m = .map (some b)) (hown : w.ownsMap P k R b n D) (hn : n < maxLen) (key val : Value) (kl : Lit) (hx : a.eval x = key) (hv : a.eval v = val) (hkey : keyOf P k key = some kl)
    (d : DataW H) (ps : List MemPlace) (hval : R val = some (d, ps))
    (hK : ∀ w', w'.ownsMap P k R b (n + 1) (D.put kl d) → w.grownBy w' (some b) → wpList P ops Q rest (a.put o.dst undef) w') :
    wpList P ops Q (o :: rest) a w := by
  refine wpList_plain hg fun K' hK' => ?_
  obtain ⟨w', hrun, r1, r2⟩ := hown.update K ht hn hkey hval
  unfold Oper.wp
  simp [execOp, hop, hm, hx, hv, hrun, Result.andThen]
  exact hK' _ _ (hK w' r1 r2)
end Go.Proofs.YtlealdicoceekaaDoor

/- region of the program: how many faces are reached without crossing walls. -/
namespace Go.Proofs.YtlealdicoceekaaDoor
open Go.RowKit
attribute [local go_sem ↓] Go.wp_at_zero Go.wp_at_succ

/-! ### Reaching, plain -/
inductive Rc (R : Int → Int → Prop) (a : Int) : Int → Prop
  | refl : Rc R a a
  | step {x y : Int} : Rc R a x → R x y → Rc R a y
structure Bf (R : Int → Int → Prop) (a : Int) (S Q : List Int) : Prop where
  nd : S.Nodup
  st : a ∈ S
  rch : ∀ f ∈ S, Rc R a f
  qs : ∀ f ∈ Q, f ∈ S
  done : ∀ f ∈ S, f ∉ Q → ∀ g, R f g → g ∈ S
theorem Bf.start (R : Int → Int → Prop) (a : Int) : Bf R a [a] [a] :=
  ⟨by simp, by simp, fun f hf => by rw [List.mem_singleton.1 hf]; exact Rc.refl, fun f hf => hf, fun f hf hn => absurd hf hn⟩
theorem Bf.add {R : Int → Int → Prop} {a : Int} {S Q : List Int} (h : Bf R a S Q) {x y : Int} (hx : x ∈ S) (hr : R x y) (hy : y ∉ S) : Bf R a (S ++ [y]) (Q ++ [y]) := by
  refine ⟨List.nodup_append.2 ⟨h.nd, by simp, fun u hu v hv e => by rw [List.mem_singleton.1 hv] at e; exact hy (e ▸ hu)⟩, List.mem_append_left _ h.st, fun f hf => ?_, fun f hf => ?_, fun f hf hn g hg => ?_⟩
  · rcases List.mem_append.1 hf with k | k
    · exact h.rch f k
    · rw [List.mem_singleton.1 k]; exact (h.rch x hx).step hr
  · rcases List.mem_append.1 hf with k | k
    · exact List.mem_append_left _ (h.qs f k)
    · exact List.mem_append_right _ k
  · rcases List.mem_append.1 hf with k | k
    · exact List.mem_append_left _ (h.done f k (fun e => hn (List.mem_append_left _ e)) g hg)
    · exact absurd (List.mem_append_right _ k) hn
theorem Bf.cut {R : Int → Int → Prop} {a x : Int} {S Q : List Int} (h : Bf R a S (x :: Q)) (hx : ∀ g, R x g → g ∈ S) : Bf R a S Q :=
  ⟨h.nd, h.st, h.rch, fun f hf => h.qs f (List.mem_cons_of_mem _ hf), fun f hf hn g hg => by
    by_cases e : f = x
    · rw [e] at hg; exact hx g hg
    · exact h.done f hf (fun k => (List.mem_cons.1 k).elim e hn) g hg⟩
theorem Bf.all {R : Int → Int → Prop} {a : Int} {S : List Int} (h : Bf R a S []) {f : Int} (hf : Rc R a f) : f ∈ S := by
  induction hf with
  | refl => exact h.st
  | step _ hr ih => exact h.done _ ih (by simp) _ hr
open Classical in
/-- How many of the first F numbers are reached. -/
noncomputable def regN (R : Int → Int → Prop) (F : Nat) (a : Int) : Nat := ((idL F).filter fun f => decide (Rc R a f)).length
theorem Bf.count {R : Int → Int → Prop} {a : Int} {S : List Int} {F : Nat} (h : Bf R a S []) (hr : ∀ f ∈ S, 0 ≤ f ∧ f < (F : Int)) : S.length = regN R F a := by
  unfold regN
  refine Nat.le_antisymm (List.Nodup.length_le_of_subset h.nd fun f hf => ?_) (List.Nodup.length_le_of_subset ((idL_nodup F).sublist List.filter_sublist) fun f hf => ?_)
  · rw [List.mem_filter]
    exact ⟨mem_idL.2 (hr f hf), by simpa using h.rch f hf⟩
  · rw [List.mem_filter] at hf
    exact h.all (by simpa using hf.2)
/-- Two faces on the two sides of an edge that is no wall. -/
def edgR (M : Nat) (X W : List Int) (f g : Int) : Prop := ∃ d : Nat, d < M ∧ ge X d = f ∧ ((d : Int) / 2) ∉ W ∧ ge X (oth d).toNat = g

section
variable {w : World} {b gf : Nat} {N : Int} {pE pA : Option Addr} {nE nA cE cA : Nat} {E : List (Int × Int)} {A : List (List Int)}
theorem face_range (hV : vRot N E A) {d : Nat} (hd : d < 2 * E.length) : 0 ≤ ge (faceL N E A) d ∧ ge (faceL N E A) d < ((facesO N E A).length : Int) ∧ (facesO N E A).length ≤ 2 * E.length := by
  have hO := facs_ok hV
  unfold faceL
  rw [ge_tab _ hd]
  obtain ⟨i, hi, hm⟩ := hO.cov d (by omega) (by omega)
  have : fcI (facesO N E A) d < (facesO N E A).length := by
    unfold fcI
    rw [List.findIdx_lt_length]
    exact ⟨rowOf (facesO N E A) i, by rw [rowOf_eq _ hi]; exact List.getElem_mem hi, decide_eq_true hm⟩
  exact ⟨by omega, by omega, hO.len⟩
set_option maxRecDepth 8000 in
set_option maxHeartbeats 16000000 in
theorem region_p (hV : vRot N E A) (h1 : E.length ≤ 100) (hP : Plan w b gf N pE pA nE nA cE cA E A) (hnE : E.length = nE) (bw nW : Nat) (DW : DataW Unit) (W : List Int) (hW : MetI DW W) (hO : w.ownsMap Tryd.prog 3 (plainElem Tryd.prog 4) bw nW DW)
    (d : Nat) (hd : d < 2 * E.length) :
    Calls Tryd.prog 44 #[.pointer (some ⟨b, 0, none⟩), .map (some bw), .int .i64 d] w fun e w' => e = .returned (.int .i64 (regN (edgR (2 * E.length) (faceL N E A) W) (facesO N E A).length (ge (faceL N E A) d) : Nat)) ∧ Grew w w' := by
  subst hnE
  have HP := Lib.hid hP
  have HV := Lib.hid hV
  have HOW := Lib.hid hO
  have HW := Lib.hid hW
  have c3 := hP.c3
  obtain ⟨X, hX⟩ : ∃ X, faceL N E A = X := ⟨_, rfl⟩
  have hXl : X.length = 2 * E.length := by rw [← hX]; exact tab_length _ _
  have HF : Hid (Ints w (some ⟨gf, 0, none⟩) X) := Lib.hid (by rw [← hX]; exact hP.f)
  obtain ⟨F, hFe⟩ : ∃ F, (facesO N E A).length = F := ⟨_, rfl⟩
  have Hfr : Hid (∀ d : Nat, d < 2 * E.length → 0 ≤ ge X d ∧ ge X d < (F : Int)) := Lib.hid (fun d hd => by
    have := face_range hV hd
    rw [hX, hFe] at this
    exact ⟨this.1, this.2.1⟩)
  have hF200 : F ≤ 200 := by have := face_range hV hd; rw [hFe] at this; omega
  rw [hX, hFe]
  obtain ⟨M, hM⟩ : ∃ M, 2 * E.length = M := ⟨_, rfl⟩
  rw [hM] at c3 hXl Hfr hd ⊢
  have hM200 : M ≤ 200 := by omega
  have Hex : Hid (M = 2 * E.length) := Lib.hid hM.symm
  have HXl := Lib.hid hXl
  have c0 : Hid (∀ i, i < M → ∀ W1, Grew w W1 → W1.cell? ⟨gf, i, none⟩ = some (.int .i64 (ge X i))) := Lib.hid (fun i hi W1 h => by
    obtain ⟨b', o', e1, _, hc⟩ := HF.out.cells (by rw [hXl]; omega)
    cases e1
    have := hc W1 h i (by rw [hXl]; exact hi)
    rwa [Nat.zero_add] at this)
  have hf0 := c0.out d hd w (Grew.refl _)
  have hgfl := World.block_lt_of_cell? w _ hf0
  dsimp only at hgfl
  have hr0 := Hfr.out d hd
  obtain ⟨a0, ha0⟩ : ∃ a0 : Nat, ge X d = (a0 : Int) := ⟨(ge X d).toNat, by omega⟩
  have Ha0 := Lib.hid ha0
  rw [ha0] at hf0 hr0 ⊢
  have hdi : (d : Int) < (M : Int) := by omega
  have Hok0 : Hid (okI (a0 : Int)) := Lib.hid (okI_small (by omega))
  have hmm := @run_makeMap Tryd.prog
  have hb := hP.lt
  have hbwl := hO.lt
  clear hP hV hW hO hX hFe hM h1 ha0 hXl
  go_enter Tryd.func44, Tryd.ntmps44
  go_wp2_with (first
    | (refine wpList_insert_own _ rfl _ _ _ 62 rfl 3 4 mi_law Tryd.underlying62 (plainElem Tryd.prog 4) w.heap.size 0 (.map []) rfl (by have h := World.ownsMap_made (H := Unit) w Tryd.prog 3 (plainElem Tryd.prog 4); exact h) (by simp only [maxLen]; omega) _ _ (.int .i64 (a0 : Int)) rfl rfl (klI_eq Hok0.out) (.lit (.bool true)) [] (plainElem_bool Tryd.underlying4 true) ?_; intro w1 hO1 hg1; have Hw1 := Lib.hid (Grew.grownBy (w0 := w) (show Grew w _ by (repeat (first | exact gR _ | refine gO ?_ _ | refine gA ?_ _ | refine gD ?_ | refine gN ?_ _))) hg1 (fun k h => by have := Option.some.inj h; omega)); have HO1 := Lib.hid hO1; have hs1 : w.heap.size < w1.heap.size := hO1.lt; have q3 := Hw1.out.cellEq c3; have qf := Hw1.out.cellEq hf0; clear hO1 hg1))
  have HSz1 : Hid (SzI ((DataW.map [] : DataW Unit).put (.int .i64 (a0 : Int)) (.lit (.bool true))) [(a0 : Int)]) := Lib.hid (SzI.nil.put Hok0.out (by simp))
  obtain ⟨bm, hbm⟩ : ∃ bm, w.heap.size = bm := ⟨_, rfl⟩
  have Hbm := Lib.hid hbm
  rw [hbm] at HO1 hs1 ⊢
  have HC3 := Lib.hid c3
  clear q3 qf c3 hf0 hbm
  go_loopg [8] (F + 1) (fun k v8 wr => ∃ (S q : List Int) (g off p cap : Nat) (ys : List Value) (D : DataW Unit), v8 = .slice (some ⟨g, off, none⟩) q.length cap ∧ Bf (edgR M X W) a0 S q ∧ (∀ f ∈ S, 0 ≤ f ∧ f < (F : Int)) ∧ q.length + (F - S.length) ≤ k ∧ k ≤ F + 1 ∧ Grew w wr ∧ ys.length = p ∧ (0 < cap → off = p) ∧
    Owns wr (bm + 1) [qRow 3 g p cap ys (intVs q)] ∧ SzI D S ∧ wr.ownsMap Tryd.prog 3 (plainElem Tryd.prog 4) bm S.length D)
  case atStart =>
    refine ⟨[(a0 : Int)], [(a0 : Int)], w1.heap.size, 0, 0, 1, [], _, by simp, Bf.start _ _, fun f hf => by rw [List.mem_singleton.1 hf]; exact hr0, by simp; omega, Nat.le_refl _, Hw1.out.trans (by (repeat (first | exact gR _ | refine gO ?_ _ | refine gA ?_ _ | refine gD ?_ | refine gN ?_ _))), rfl, fun _ => rfl, ?_, HSz1.out, ownsMap_grew HO1.out (by (repeat (first | exact gR _ | refine gO ?_ _ | refine gA ?_ _ | refine gD ?_ | refine gN ?_ _)))⟩
    exact ((Owns.nil w1 (bm + 1)).made (by omega) #[.int .i64 (a0 : Int)] 3 1 1 w1.heap.size rfl (by decide) rfl).grew (by (repeat (first | exact gR _ | refine gO ?_ _ | refine gA ?_ _ | refine gD ?_ | refine gN ?_ _)))
  case round =>
    obtain ⟨S, q, g, off, p, cap, ys, D, rfl, hB, hSr, hgk, hgkb, hgr, hys, hoff, hOk, hD, hOm⟩ := hrel
    have HB := Lib.hid hB
    have HSr := Lib.hid hSr
    have Hgr := Lib.hid hgr
    have HD := Lib.hid hD
    have HOm := Lib.hid hOm
    have HOk := Lib.hid hOk
    have Hgk := Lib.hid hgk
    have hszr := hgr.below.size
    have hbml := hOm.lt
    clear hB hSr hgr hD hOm hOk hgk
    cases q with
    | nil =>
      have Hcnt : Hid (S.length = regN (edgR M X W) F a0) := Lib.hid (HB.out.count HSr.out)
      obtain ⟨es, clock, hmb, hes⟩ := mi_len HD.out HOm.out
      have Hes := Lib.hid hes
      clear hes
      have hu : Tryd.prog.underlying 62 = some (.map (Tryd.prog.mapKeyOf 62) (Tryd.prog.mapElemOf 62)) := by kernel_rfl
      have hln := fun ty => run_len_map (P := Tryd.prog) (w := wr) 62 ty bm es clock hu hmb
      rw [List.length_nil]
      go_wp2
      go_ret
      rw [← Hcnt.out, ← Hes.out]
      exact ⟨rfl, Hgr.out.trans (by (repeat (first | exact gR _ | refine gO ?_ _ | refine gA ?_ _ | refine gD ?_ | refine gN ?_ _)))⟩
    | cons x q =>
      obtain ⟨hfl, _, _, hfm, hfc⟩ := owns_first HOk.out (k := 0) rfl hys
      simp only [intVs_length, List.length_cons] at hfl
      have hop := hoff (by omega)
      subst hop
      have hxS : x ∈ S := HB.out.qs x (by simp)
      have q3 := Hgr.out.cellEq HC3.out
      have HxS0 := Lib.hid hxS
      have hSF : S.length ≤ F := nodup_len HB.out.nd HSr.out
      clear hfc hoff hxS hfm
      rw [List.length_cons]
      go_wp2
      clear q3
      go_loopw [8, 39] (fun v8 iv wk => ∃ k2 : Nat, k2 ≤ M ∧ iv = .int .i64 k2 ∧ ∃ (S q : List Int) (g p cap : Nat) (ys : List Value) (D : DataW Unit), v8 = .slice (some ⟨g, p, none⟩) (q.length + 1) cap ∧ Bf (edgR M X W) a0 S (x :: q) ∧ (∀ f ∈ S, 0 ≤ f ∧ f < (F : Int)) ∧ (∀ d : Nat, d < k2 → ge X d = x → ((d : Int) / 2) ∉ W → ge X (oth d).toNat ∈ S) ∧ q.length + 1 + (F - S.length) ≤ gk ∧ Grew w wk ∧ ys.length = p ∧
        Owns wk (bm + 1) [qRow 3 g p cap ys (intVs (x :: q))] ∧ SzI D S ∧ wk.ownsMap Tryd.prog 3 (plainElem Tryd.prog 4) bm S.length D) (fun _ iv _ => M - (intOf iv).toNat)
      case atStart => exact ⟨0, Nat.zero_le _, rfl, S, q, g, off, cap, ys, D, rfl, HB.out, HSr.out, fun d hd => by omega, by have := Hgk.out; simp at this; omega, Hgr.out.trans (by (repeat (first | exact gR _ | refine gO ?_ _ | refine gA ?_ _ | refine gD ?_ | refine gN ?_ _))), hys, HOk.out.grew (by (repeat (first | exact gR _ | refine gO ?_ _ | refine gA ?_ _ | refine gD ?_ | refine gN ?_ _))), HD.out, ownsMap_grew HOm.out (by (repeat (first | exact gR _ | refine gO ?_ _ | refine gA ?_ _ | refine gD ?_ | refine gN ?_ _)))⟩
      case round =>
        clear HB HSr Hgr HD HOm HOk Hgk hys hszr hfl HxS0 hSF hbml
        obtain ⟨k2, hk2, rfl, S, q, g, p, cap, ys, D, rfl, hB, hSr, hnx, hgk, hgr, hys, hOk, hD, hOm⟩ := hrel
        have HB := Lib.hid hB
        have HSr := Lib.hid hSr
        have Hgr := Lib.hid hgr
        have HD := Lib.hid hD
        have HOm := Lib.hid hOm
        have HOk := Lib.hid hOk
        have Hgk := Lib.hid hgk
        have Hnx := Lib.hid hnx
        have hszr := hgr.below.size
        have hbml := hOm.lt
        have hSF : S.length ≤ F := nodup_len hB.nd hSr
        have hxS : x ∈ S := hB.qs x (by simp)
        have HxS := Lib.hid hxS
        have hxr := hSr x hxS
        obtain ⟨xn, rfl⟩ : ∃ xn : Nat, x = (xn : Int) := ⟨x.toNat, by omega⟩
        have hql : q.length + 1 ≤ 401 := by omega
        clear hB hSr hgr hD hOm hOk hgk hnx hxS hxr
        by_cases hlt : k2 < M
        · have e1 := c0.out k2 hlt _ Hgr.out
          have hr1 := Hfr.out k2 hlt
          obtain ⟨f1, hf1⟩ : ∃ f1 : Nat, ge X k2 = (f1 : Int) := ⟨(ge X k2).toNat, by omega⟩
          obtain ⟨o, ho⟩ : ∃ o : Nat, oth (k2 : Int) = (o : Int) := ⟨(oth k2).toNat, by have := oth_in (d := k2) (M := E.length) (by omega) (by have := Hex.out; omega); omega⟩
          have ho2 : o < M := by have := oth_in (d := k2) (M := E.length) (by omega) (by have := Hex.out; omega); have := Hex.out; omega
          have hxo : bits BinOp.xor IntKind.i64 (k2 : Int) 1 = (o : Int) := by rw [← ho]; exact xor_small k2 (by omega)
          have e2 := c0.out o ho2 _ Hgr.out
          have hr2 := Hfr.out o ho2
          obtain ⟨f2, hf2⟩ : ∃ f2 : Nat, ge X o = (f2 : Int) := ⟨(ge X o).toNat, by omega⟩
          rw [hf1] at e1
          rw [hf2] at e2 hr2
          have q3 := Hgr.out.cellEq HC3.out
          obtain ⟨hfl, _, _, hfm, hfc⟩ := owns_first HOk.out (k := 0) rfl hys
          simp only [intVs_length, List.length_cons] at hfl
          have e3 := hfc 0 (.int .i64 (xn : Int)) rfl
          rw [Nat.add_zero] at e3
          have hki : (k2 : Int) < (M : Int) := by omega
          have hoi : (o : Int) < (M : Int) := by omega
          have Hoto : Hid ((oth (k2 : Int)).toNat = o) := Lib.hid (by rw [ho]; simp)
          have Hf1 := Lib.hid hf1
          have Hf2 := Lib.hid hf2
          have Hok2 : Hid (okI (f2 : Int)) := Lib.hid (okI_small (by omega))
          obtain ⟨tw, htw⟩ : ∃ tw, decide (((k2 : Int) / 2) ∈ W) = tw := ⟨_, rfl⟩
          obtain ⟨tm, htm⟩ : ∃ tm, decide ((f2 : Int) ∈ S) = tm := ⟨_, rfl⟩
          have hlw := HW.out.look (ownsMap_grew HOW.out Hgr.out) (okI_small (a := (k2 : Int) / 2) (by omega)) htw
          have hlm := HD.out.1.look HOm.out Hok2.out htm
          have Htw := Lib.hid htw
          have Htm := Lib.hid htm
          clear hf1 hf2 ho hfc hfm hr1 htw htm
          by_cases hfx : f1 = xn
          · subst hfx
            cases tw
            · cases tm
              · have Hnw : Hid (((k2 : Int) / 2) ∉ W) := Lib.hid (of_decide_eq_false Htw.out)
                have Hnm : Hid ((f2 : Int) ∉ S) := Lib.hid (of_decide_eq_false Htm.out)
                have HR : Hid (edgR M X W (f1 : Int) (f2 : Int)) := Lib.hid ⟨k2, hlt, Hf1.out, Hnw.out, by rw [Hoto.out, Hf2.out]⟩
                have HB2 := Lib.hid (HB.out.add HxS.out HR.out Hnm.out)
                have HSr2 : Hid (∀ f ∈ S ++ [(f2 : Int)], 0 ≤ f ∧ f < (F : Int)) := Lib.hid (fun f hf => by
                  rcases List.mem_append.1 hf with k | k
                  · exact HSr.out f k
                  · rw [List.mem_singleton.1 k]; exact hr2)
                have hSF2 : S.length + 1 ≤ F := by
                  have := nodup_len HB2.out.nd HSr2.out
                  simpa using this
                go_wp2_with (first
                  | (at_mapUpdate; refine wpList_mapUpdate_own _ rfl _ _ _ 62 rfl 3 4 mi_law Tryd.underlying62 (plainElem Tryd.prog 4) bm S.length D rfl HOm.out (by simp only [maxLen]; omega) _ _ (.int .i64 (f2 : Int)) rfl rfl (klI_eq Hok2.out) (.lit (.bool true)) [] (plainElem_bool Tryd.underlying4 true) ?_; intro w2 hO2 hg2; have HOm2 := Lib.hid hO2; have hbm2 := hO2.lt; have Hgr2 := Lib.hid (Grew.grownBy (w0 := w) Hgr.out hg2 (fun k h => by have := Option.some.inj h; have := Hbm.out; omega)); have HOk2 := Lib.hid (HOk.out.gr (Gr.of_grownBy hg2) (fun k hk _ e => by have := Option.some.inj e; omega)); clear hO2 hg2 e1 e2 e3 q3 hlw hlm)
                  | (at_builtin; refine wp_append_que rfl _ _ 26 rfl 3 8 (.int .i64 0) Tryd.underlying26 Tryd.infoInt rfl (bm + 1) _ 0 g p p cap (q.length + 1) ys (intVs ((f1 : Int) :: q)) (HOk2.out.grew (by (repeat (first | exact gR _ | refine gO ?_ _ | refine gA ?_ _ | refine gD ?_ | refine gN ?_ _)))) rfl hys (fun _ => rfl) (by simp [intVs_length]) rfl _ 1 rfl (.int .i64 (f2 : Int)) (by (simp [go_sem, ↓IntWalk.iteOmega])) (by simp [Value.oneCell']) (by simp only [maxLen]; omega) (by omega) (by first | rfl | omega | (simp <;> omega)) ?_; intro g1 off1 p1 cap1 ys1 w3 hO3 hys1 hoff1 hcap1 hg3 hb3; have hop1 := hoff1 (by omega); subst hop1; have Hg3 := Lib.hid (Grew.grownBy (w0 := w) (Hgr2.out.trans (by (repeat (first | exact gR _ | refine gO ?_ _ | refine gA ?_ _ | refine gD ?_ | refine gN ?_ _)))) hg3 (fun k h => by have := Option.some.inj h; have := Hbm.out; omega)); have HO3 := Lib.hid hO3; have HOm3 := Lib.hid ((ownsMap_grew HOm2.out (by (repeat (first | exact gR _ | refine gO ?_ _ | refine gA ?_ _ | refine gD ?_ | refine gN ?_ _)))).kept hg3 (fun e => by have := Option.some.inj e; omega)); clear hO3 hg3 hoff1))
                go_roundw
                case rel =>
                  refine ⟨k2 + 1, by omega, by go_num, S ++ [(f2 : Int)], q ++ [(f2 : Int)], g1, off1, cap1, ys1, _, by simp, HB2.out, HSr2.out, fun d' hd' h1 h2 => ?_, ?_, Hg3.out.trans (by (repeat (first | exact gR _ | refine gO ?_ _ | refine gA ?_ _ | refine gD ?_ | refine gN ?_ _))), hys1, ?_, HD.out.put Hok2.out Hnm.out, ?_⟩
                  · by_cases e : d' = k2
                    · rw [e, Hoto.out, Hf2.out]; simp
                    · exact List.mem_append_left _ (Hnx.out d' (by omega) h1 h2)
                  · have := Hgk.out
                    simp only [List.length_append, List.length_cons, List.length_nil]
                    omega
                  · have h := HO3.out
                    have e : intVs ((f1 : Int) :: (q ++ [(f2 : Int)])) = intVs ((f1 : Int) :: q) ++ [.int .i64 (f2 : Int)] := by simp [intVs]
                    rw [e]
                    exact h.grew (by (repeat (first | exact gR _ | refine gO ?_ _ | refine gA ?_ _ | refine gD ?_ | refine gN ?_ _)))
                  · rw [List.length_append]
                    exact ownsMap_grew HOm3.out (by (repeat (first | exact gR _ | refine gO ?_ _ | refine gA ?_ _ | refine gD ?_ | refine gN ?_ _)))
                case measure => (simp [intOf] <;> omega)
              · have Hm : Hid ((f2 : Int) ∈ S) := Lib.hid (of_decide_eq_true Htm.out)
                go_wp2
                go_roundw
                case rel => exact ⟨k2 + 1, by omega, by go_num, S, q, g, p, cap, ys, D, rfl, HB.out, HSr.out, fun d' hd' h1 h2 => by
                  by_cases e : d' = k2
                  · rw [e, Hoto.out, Hf2.out]; exact Hm.out
                  · exact Hnx.out d' (by omega) h1 h2, Hgk.out, Hgr.out.trans (by (repeat (first | exact gR _ | refine gO ?_ _ | refine gA ?_ _ | refine gD ?_ | refine gN ?_ _))), hys, HOk.out.grew (by (repeat (first | exact gR _ | refine gO ?_ _ | refine gA ?_ _ | refine gD ?_ | refine gN ?_ _))), HD.out, ownsMap_grew HOm.out (by (repeat (first | exact gR _ | refine gO ?_ _ | refine gA ?_ _ | refine gD ?_ | refine gN ?_ _)))⟩
                case measure => (simp [intOf] <;> omega)
            · have Hw : Hid (((k2 : Int) / 2) ∈ W) := Lib.hid (of_decide_eq_true Htw.out)
              go_wp2
              go_roundw
              case rel => exact ⟨k2 + 1, by omega, by go_num, S, q, g, p, cap, ys, D, rfl, HB.out, HSr.out, fun d' hd' h1 h2 => by
                by_cases e : d' = k2
                · rw [e] at h2; exact absurd Hw.out h2
                · exact Hnx.out d' (by omega) h1 h2, Hgk.out, Hgr.out.trans (by (repeat (first | exact gR _ | refine gO ?_ _ | refine gA ?_ _ | refine gD ?_ | refine gN ?_ _))), hys, HOk.out.grew (by (repeat (first | exact gR _ | refine gO ?_ _ | refine gA ?_ _ | refine gD ?_ | refine gN ?_ _))), HD.out, ownsMap_grew HOm.out (by (repeat (first | exact gR _ | refine gO ?_ _ | refine gA ?_ _ | refine gD ?_ | refine gN ?_ _)))⟩
              case measure => (simp [intOf] <;> omega)
          · have hfb : ((f1 : Int) == (xn : Int)) = false := beq_eq_false_iff_ne.2 (by omega)
            have Hfx : Hid (f1 ≠ xn) := Lib.hid hfx
            clear hfx
            go_wp2
            go_roundw
            case rel => exact ⟨k2 + 1, by omega, by go_num, S, q, g, p, cap, ys, D, rfl, HB.out, HSr.out, fun d' hd' h1 h2 => by
              by_cases e : d' = k2
              · rw [e, Hf1.out] at h1; exact absurd (by omega) Hfx.out
              · exact Hnx.out d' (by omega) h1 h2, Hgk.out, Hgr.out.trans (by (repeat (first | exact gR _ | refine gO ?_ _ | refine gA ?_ _ | refine gD ?_ | refine gN ?_ _))), hys, HOk.out.grew (by (repeat (first | exact gR _ | refine gO ?_ _ | refine gA ?_ _ | refine gD ?_ | refine gN ?_ _))), HD.out, ownsMap_grew HOm.out (by (repeat (first | exact gR _ | refine gO ?_ _ | refine gA ?_ _ | refine gD ?_ | refine gN ?_ _)))⟩
            case measure => (simp [intOf] <;> omega)
        · obtain rfl : k2 = M := by omega
          have HBc := Lib.hid (HB.out.cut (fun y hy => by
            obtain ⟨d', hd', h1, h2, h3⟩ := hy
            rw [← h3]
            exact Hnx.out d' hd' h1 h2))
          obtain ⟨hfl, _, _, hfm, _⟩ := owns_first HOk.out (k := 0) rfl hys
          simp only [intVs_length, List.length_cons] at hfl
          by_cases hc1 : cap = 1
          · have hq0 : q = [] := List.length_eq_zero_iff.1 (by omega)
            subst hc1 hq0
            go_wp2
            go_roundg (gk - 1)
            case rel => exact ⟨S, [], g, p, p + 1, 0, ys ++ [.int .i64 (xn : Int)], D, rfl, HBc.out, HSr.out, (by have := Hgk.out; simp at this ⊢; omega), (by omega), Hgr.out.trans (by (repeat (first | exact gR _ | refine gO ?_ _ | refine gA ?_ _ | refine gD ?_ | refine gN ?_ _))), (by simp [hys]), (fun h => by cases h), (by have h : Owns wr (bm + 1) [qRow 3 g p (0 + 1) ys (.int .i64 (xn : Int) :: intVs [])] := HOk.out; rw [qRow_cut] at h; exact h.grew (by (repeat (first | exact gR _ | refine gO ?_ _ | refine gA ?_ _ | refine gD ?_ | refine gN ?_ _)))), HD.out, ownsMap_grew HOm.out (by (repeat (first | exact gR _ | refine gO ?_ _ | refine gA ?_ _ | refine gD ?_ | refine gN ?_ _)))⟩
            case measure => have := Hgk.out; omega
          · obtain ⟨cap, rfl⟩ : ∃ c', cap = c' + 1 := ⟨cap - 1, by omega⟩
            go_wp2
            go_roundg (gk - 1)
            case rel => exact ⟨S, q, g, p + 1, p + 1, cap, ys ++ [.int .i64 (xn : Int)], D, rfl, HBc.out, HSr.out, (by have := Hgk.out; omega), (by omega), Hgr.out.trans (by (repeat (first | exact gR _ | refine gO ?_ _ | refine gA ?_ _ | refine gD ?_ | refine gN ?_ _))), (by simp [hys]), (fun _ => rfl), (by have h := HOk.out; rw [show intVs ((xn : Int) :: q) = .int .i64 (xn : Int) :: intVs q from rfl, qRow_cut] at h; exact h.grew (by (repeat (first | exact gR _ | refine gO ?_ _ | refine gA ?_ _ | refine gD ?_ | refine gN ?_ _)))), HD.out, ownsMap_grew HOm.out (by (repeat (first | exact gR _ | refine gO ?_ _ | refine gA ?_ _ | refine gD ?_ | refine gN ?_ _)))⟩
            case measure => have := Hgk.out; omega
end
end Go.Proofs.YtlealdicoceekaaDoor

/- Draw of the program. -/
namespace Go.Proofs.YtlealdicoceekaaDoor
open Go.RowKit
attribute [local go_sem ↓] Go.wp_at_zero Go.wp_at_succ

/-- The walls of a vertex: the outer edges and the paths of the first t trees; its point. -/
def wallT (E : List (Int × Int)) (A : List (List Int)) (L : List Int) (v : Int) : Nat → List Int
  | 0 => (sdL A).map (· / 2)
  | t + 1 => wallT E A L v t ++ pathW E A L t A.length v
def wallF (E : List (Int × Int)) (A : List (List Int)) (L : List Int) (v : Int) : List Int := wallT E A L v 3
theorem pathW_len (E : List (Int × Int)) (A : List (List Int)) (L : List Int) (t : Int) : ∀ (k : Nat) (v : Int), (pathW E A L t k v).length ≤ k
  | 0, v => by unfold pathW; simp
  | k + 1, v => by
    unfold pathW
    split
    · simp
    · rw [List.length_cons]
      have := pathW_len E A L t k (parF E A L t v)
      omega
theorem wallT_len (E : List (Int × Int)) (A : List (List Int)) (L : List Int) (v : Int) : ∀ t : Nat, (wallT E A L v t).length ≤ 3 + t * A.length
  | 0 => by unfold wallT; simp [sdL]
  | t + 1 => by
    unfold wallT
    rw [List.length_append]
    have := wallT_len E A L v t
    have := pathW_len E A L t A.length v
    rw [Nat.add_mul]
    omega
noncomputable def regF (N : Int) (E : List (Int × Int)) (A : List (List Int)) (L : List Int) (v : Int) (d : Int) : Nat :=
  regN (edgR (2 * E.length) (faceL N E A) (wallF E A L v)) (facesO N E A).length (ge (faceL N E A) d.toNat)
noncomputable def ptF (N : Int) (E : List (Int × Int)) (A : List (List Int)) (L : List Int) (v : Int) : Int × Int :=
  if v ∈ rts E A then (if idx v (rts E A) = 0 then (0, 0) else if idx v (rts E A) = 1 then (2 * N - 5, 0) else (0, 2 * N - 5))
  else ((regF N E A L v (oth (nxF A (nxF A 0))) : Int), (regF N E A L v 1 : Int))
noncomputable def drawL (N : Int) (E : List (Int × Int)) (A : List (List Int)) (L : List Int) : List (Int × Int) := (List.range A.length).map fun v : Nat => ptF N E A L v
noncomputable def drawRes (N : Int) (E : List (Int × Int)) (A : List (List Int)) (L : List Int) : List (Int × Int) × Int :=
  if trgB N E A = false then ([], 13) else if fitB E A L = false then ([], 1) else (drawL N E A L, 0)
/-- Points and an error. -/
def PtsPost (xs : List (Int × Int)) (er : Int) (w : World) (e : Ending) (w' : World) : Prop :=
  Grew w w' ∧ ∃ q cap, e = .returned (.tuple #[.slice q xs.length cap, .int .i64 er]) ∧ Prs w' q xs ∧ xs.length ≤ cap ∧ cap ≤ maxLen
theorem PtsPost.none {w w' : World} {er : Int} (hg : Grew w w') : PtsPost [] er w (.returned (.tuple #[.slice none 0 0, .int .i64 er])) w' :=
  ⟨hg, Option.none, 0, rfl, ⟨by simp, 0, 0, (fun h => by simp at h), (fun i h => by simp at h)⟩, Nat.le_refl _, Nat.zero_le _⟩
/-- Points in a block of their own. -/
structure PtB (w : World) (g n : Nat) (P : List (Int × Int)) : Prop where
  c : ∀ i, i < n → (w.cell? ⟨g, i * 2, none⟩ = some (.int .i64 (pr P i).1) ∧ w.frozen? ⟨g, i * 2, none⟩ = false) ∧ w.cell? ⟨g, i * 2 + 1, none⟩ = some (.int .i64 (pr P i).2) ∧ w.frozen? ⟨g, i * 2 + 1, none⟩ = false
  lt : g < w.heap.size
  len : P.length = n
theorem PtB.grew {w w' : World} {g n : Nat} {P : List (Int × Int)} (h : PtB w g n P) (hg : Grew w w') : PtB w' g n P :=
  ⟨fun i hi => ⟨⟨hg.cellEq (h.c i hi).1.1, hg.frozenEq h.lt (h.c i hi).1.2⟩, hg.cellEq (h.c i hi).2.1, hg.frozenEq h.lt (h.c i hi).2.2⟩, Nat.lt_of_lt_of_le h.lt hg.below.size, h.len⟩
theorem PtB.set {w : World} {g n : Nat} {P : List (Int × Int)} (h : PtB w g n P) {v : Nat} (hv : v < n) (x y : Int) : PtB ((w.setCell ⟨g, v * 2, none⟩ (.int .i64 x)).setCell ⟨g, v * 2 + 1, none⟩ (.int .i64 y)) g n (P.set v (x, y)) := by
  refine ⟨fun i hi => ?_, by rw [World.size_setCell, World.size_setCell]; exact h.lt, by rw [List.length_set]; exact h.len⟩
  obtain ⟨⟨a1, a2⟩, a3, a4⟩ := h.c i hi
  have hl := h.len
  by_cases e : i = v
  · subst e
    have e1 : pr (P.set i (x, y)) i = (x, y) := by unfold pr; simp [hl, hi]
    have e2 : ¬ (i * 2 = i * 2 + 1) := by omega
    rw [e1]
    exact ⟨⟨by simp [go_sem, a1], by simp [go_sem, a2]⟩, by simp [go_sem, a3], by simp [go_sem, a4]⟩
  · have e1 : pr (P.set v (x, y)) i = pr P i := by unfold pr; simp [List.getElem?_set, Ne.symm e]
    have n1 : ¬ (i * 2 = v * 2) := by omega
    have n2 : ¬ (i * 2 = v * 2 + 1) := by omega
    have n3 : ¬ (i * 2 + 1 = v * 2) := by omega
    rw [e1]
    exact ⟨⟨by simp [go_sem, a1, n1, n2, e], by simp [go_sem, a2, n1, n2, e]⟩, by simp [go_sem, a3, n3, e], by simp [go_sem, a4, n3, e]⟩
theorem pts_made (w : World) (n : Nat) (tp : TypeId) : PtB (w.alloc (.cells (Array.replicate (n * 2) (.int .i64 0)) tp)) w.heap.size n (List.replicate n (0, 0)) := by
  refine ⟨fun i hi => ?_, by simp, by simp⟩
  have e : pr (List.replicate n ((0 : Int), (0 : Int))) i = (0, 0) := by unfold pr; simp [hi]
  have h1 : i * 2 < n * 2 := by omega
  have h2 : i * 2 + 1 < n * 2 := by omega
  rw [e]
  exact ⟨⟨by simp [go_sem, h1], by simp [go_sem]⟩, by simp [go_sem, h2], by simp [go_sem]⟩
theorem pt_rep (m : Nat) : madeCells #[Value.int .i64 0, .int .i64 0] m = Array.replicate m (Value.int .i64 0) := by
  unfold madeCells
  apply Array.ext
  · simp
  · intro i h1 h2
    simp only [Array.getElem_map, Array.getElem_range, Array.getElem_replicate]
    rcases Nat.mod_two_eq_zero_or_one i with h | h
    · show (#[Value.int .i64 0, .int .i64 0] : Array Value)[i % 2]! = _
      rw [h]; rfl
    · show (#[Value.int .i64 0, .int .i64 0] : Array Value)[i % 2]! = _
      rw [h]; rfl
theorem infoPt : (Tryd.prog.info? 43).map (fun i => (i.zero, i.size, i.bytes)) = some (some (.agg #[.int .i64 0, .int .i64 0]), 2, 16) := by kernel_rfl
theorem mk_pts (n : Nat) (hn : n ≤ 100000) (W : World) : (Instr.makeSlice 36 (.int .i64 n) (.int .i64 n)).run Tryd.prog W = .ok (.slice (some ⟨W.heap.size, 0, none⟩) n n) (W.alloc (.cells (Array.replicate (n * 2) (.int .i64 0)) 43)) := by
  obtain ⟨i0, hi, hz0, hz1, hz2⟩ := info_parts infoPt
  have h := run_make (P := Tryd.prog) W 36 43 i0 (.agg #[.int .i64 0, .int .i64 0]) Tryd.underlying36 hi hz0 .i64 .i64 (n : Int) (n : Int) (by omega) (by omega) (by rw [hz2]; omega) (by omega)
  rw [hz1, show (Value.agg #[.int .i64 0, .int .i64 0]).cells = #[.int .i64 0, .int .i64 0] from rfl, Int.toNat_natCast, pt_rep] at h
  exact h
set_option maxRecDepth 8000 in
set_option maxHeartbeats 16000000 in
theorem draw_p (N : Int) (pE pA pL : Option Addr) (nE nA nL cE cA cL : Nat) (E : List (Int × Int)) (A : List (List Int)) (L : List Int) (w : World) (hR : RotIn w pE pA cE E A) (hL : Lim w) (hI : Ints w pL L) (hnE : E.length = nE) (hnA : A.length = nA) (hnL : L.length = nL) (hL1 : nL ≤ 1000)
    (hAc : trgB N E A = true → fitB E A L = true → Acy E A L) :
    Calls Tryd.prog 17 #[.agg #[.int .i64 N, .slice pE nE cE, .slice pA nA cA], .slice pL nL cL] w (PtsPost (drawRes N E A L).1 (drawRes N E A L).2 w) := by
  have HR := Lib.hid hR
  have HL := Lib.hid hL
  have HI := Lib.hid hI
  obtain ⟨er, her⟩ : ∃ er, err38 N E A L = er := ⟨_, rfl⟩
  have Hrd : Hid (∀ W1, Grew w W1 → Calls Tryd.prog 35 #[.agg #[.int .i64 N, .slice pE nE cE, .slice pA nA cA], .slice pL nL cL] W1 (ReadPost er N pE pA nE nA cE cA E A W1)) := Lib.hid (fun W1 h => by
    rw [← her]
    exact read_p _ _ _ _ _ _ _ _ _ _ _ _ _ _ (HR.out.grew h) (HL.out.grew h) (HI.out.grew h) hnE hnA hnL hL1)
  by_cases he0 : er = 0
  case neg =>
    have Hf : Hid (drawRes N E A L = ([], er)) := Lib.hid (by
      unfold err38 at her
      unfold drawRes
      split
      · rename_i h; rw [if_pos h] at her; rw [her]
      · rename_i h; rw [if_neg h] at her
        split
        · rename_i h2; rw [if_pos h2] at her; rw [her]
        · rename_i h2; rw [if_neg h2] at her; exact absurd her.symm he0)
    have hern : (er == 0) = false := beq_eq_false_iff_ne.2 he0
    have hern2 : (er != 0) = true := by simp [bne, hern]
    have He0 := Lib.hid he0
    clear her he0 hR hL hI hAc
    go_enter Tryd.func17, Tryd.ntmps17
    go_wp2_with (go_at_call 35; apply Calls.mono; (with_reducible exact Hrd.out _ (by (repeat (first | exact gR _ | refine gO ?_ _ | refine gA ?_ _ | refine gD ?_ | refine gN ?_ _)))); rintro e wo ⟨hgo, h⟩; have Hgo := Lib.hid ((show Grew w _ by (repeat (first | exact gR _ | refine gO ?_ _ | refine gA ?_ _ | refine gD ?_ | refine gN ?_ _))).trans hgo); clear hgo; rcases h with ⟨_, rfl⟩ | ⟨h, _⟩; rotate_left; exact absurd h He0.out)
    go_ret2
    rw [Hf.out]
    exact PtsPost.none (Hgo.out.trans (by (repeat (first | exact gR _ | refine gO ?_ _ | refine gA ?_ _ | refine gD ?_ | refine gN ?_ _))))
  subst he0
  have hT : trgB N E A = true := by
    cases h : trgB N E A
    · unfold err38 at her; rw [if_pos h] at her; omega
    · rfl
  have hF : fitB E A L = true := by
    cases h : fitB E A L
    · unfold err38 at her; rw [if_neg (by rw [hT]; simp), if_pos h] at her; omega
    · rfl
  have hS := fit_sch hT hF
  have hV := trg_valid hT
  have HAc := Lib.hid (hAc hT hF)
  have HV := Lib.hid hV
  have HS := Lib.hid hS
  have HT := Lib.hid hT
  have hNA : N = (nA : Int) := by have := hV.al; omega
  have hN3 := trg_three hT
  have hnA1 : nA ≤ 100 := by have := hR.a1; omega
  have HnA := Lib.hid hnA
  have HnE := Lib.hid hnE
  have HnL := Lib.hid hnL
  subst hNA
  have hnA3 : 3 ≤ nA := by omega
  have Hf : Hid (drawRes nA E A L = (drawL nA E A L, 0)) := Lib.hid (by unfold drawRes; rw [if_neg (by rw [hT]; simp), if_neg (by rw [hF]; simp)])
  have hmk := mk_pts nA (by omega)
  have hE0 := Lib.hid (trg_pos hT)
  have Hc0 : Hid ((w.alloc (.cells #[.int .i64 nA, .slice pE nE cE, .slice pA nA cA] 25)).cell? ⟨w.heap.size, 0, none⟩ = some (.int .i64 nA)) := Lib.hid (by simp [go_sem])
  have HwB : Hid (Grew w (w.alloc (.cells #[.int .i64 nA, .slice pE nE cE, .slice pA nA cA] 25))) := Lib.hid ((Grew.refl w).alloc _)
  have hmm := @run_makeMap Tryd.prog
  obtain ⟨s1, s2, hs1, hs2, hs1l, hs2l⟩ := sdL_nat hV hE0.out
  have Hs1 := Lib.hid hs1
  have Hs2 := Lib.hid hs2
  have he1 := hR.e1
  have a0 : ∀ W, (Instr.index 63 (.agg #[.int .i64 0, .int .i64 (s1 : Int), .int .i64 (s2 : Int)]) (.int .i64 0)).run Tryd.prog W = .ok (.int .i64 0) W := fun W => arr3_0 _ _ _ W
  have a1 : ∀ W, (Instr.index 63 (.agg #[.int .i64 0, .int .i64 (s1 : Int), .int .i64 (s2 : Int)]) (.int .i64 1)).run Tryd.prog W = .ok (.int .i64 (s1 : Int)) W := fun W => arr3_1 _ _ _ W
  have a2 : ∀ W, (Instr.index 63 (.agg #[.int .i64 0, .int .i64 (s1 : Int), .int .i64 (s2 : Int)]) (.int .i64 2)).run Tryd.prog W = .ok (.int .i64 (s2 : Int)) W := fun W => arr3_2 _ _ _ W
  clear her hR hL hI hT hF hS hV hAc hN3 hnA hnE hnL hs1 hs2
  go_enter Tryd.func17, Tryd.ntmps17
  go_upto_region 5 with (go_at_call 35; apply Calls.mono; (with_reducible exact Hrd.out _ (by (repeat (first | exact gR _ | refine gO ?_ _ | refine gA ?_ _ | refine gD ?_ | refine gN ?_ _)))); rintro e wo ⟨hgo, h⟩; have HgB := Lib.hid ((show Grew (w.alloc (.cells #[.int .i64 nA, .slice pE nE cE, .slice pA nA cA] 25)) _ by (repeat (first | exact gR _ | refine gO ?_ _ | refine gA ?_ _ | refine gD ?_ | refine gN ?_ _))).trans hgo); clear hgo; rcases h with ⟨h, _⟩ | ⟨_, b, gf, rfl, _, hPl⟩; exact absurd rfl h; have HPl := Lib.hid hPl; clear hPl; have q0 := HgB.out.cellEq Hc0.out)
  have hsw := World.block_lt_of_cell? wo _ q0
  dsimp only at hsw
  have Hgo : Hid (Grew w wo) := Lib.hid (HwB.out.trans HgB.out)
  go_upto_region 6 with fail
  have HgC : Hid (Grew wo (wo.alloc (.cells #[.int .i64 0, .int .i64 0, .int .i64 (2 * (nA : Int) - 5), .int .i64 0, .int .i64 0, .int .i64 (2 * (nA : Int) - 5)] 61))) := Lib.hid ((Grew.refl wo).alloc _)
  have Hcr : Hid (∀ k : Nat, k < 3 → (wo.alloc (.cells #[.int .i64 0, .int .i64 0, .int .i64 (2 * (nA : Int) - 5), .int .i64 0, .int .i64 0, .int .i64 (2 * (nA : Int) - 5)] 61)).cell? ⟨wo.heap.size, k * 2, none⟩ = some (.int .i64 (if k = 1 then 2 * (nA : Int) - 5 else 0)) ∧ (wo.alloc (.cells #[.int .i64 0, .int .i64 0, .int .i64 (2 * (nA : Int) - 5), .int .i64 0, .int .i64 0, .int .i64 (2 * (nA : Int) - 5)] 61)).cell? ⟨wo.heap.size, k * 2 + 1, none⟩ = some (.int .i64 (if k = 2 then 2 * (nA : Int) - 5 else 0))) := Lib.hid (fun k hk => by
    rcases (by omega : k = 0 ∨ k = 1 ∨ k = 2) with rfl | rfl | rfl
    · exact ⟨by simp [go_sem], by simp [go_sem]⟩
    · exact ⟨by simp [go_sem], by simp [go_sem]⟩
    · exact ⟨by simp [go_sem], by simp [go_sem]⟩)
  have hsC : (wo.alloc (.cells #[.int .i64 0, .int .i64 0, .int .i64 (2 * (nA : Int) - 5), .int .i64 0, .int .i64 0, .int .i64 (2 * (nA : Int) - 5)] 61)).heap.size = wo.heap.size + 1 := by simp
  obtain ⟨wC, hwC⟩ : ∃ wC, wo.alloc (.cells #[.int .i64 0, .int .i64 0, .int .i64 (2 * (nA : Int) - 5), .int .i64 0, .int .i64 0, .int .i64 (2 * (nA : Int) - 5)] 61) = wC := ⟨_, rfl⟩
  rw [hwC] at HgC Hcr hsC ⊢
  obtain ⟨bc, hbc⟩ : ∃ bc, wo.heap.size = bc := ⟨_, rfl⟩
  have Hbc := Lib.hid hbc
  rw [hbc] at Hcr hsC hsw ⊢
  have q1 := HgC.out.cellEq q0
  have hsC2 : bc < wC.heap.size := by omega
  clear hwC q0 hbc hsC
  go_upto_region 7 with fail
  have HPt0 := Lib.hid (pts_made wC nA 43)
  have HgP : Hid (Grew wC (wC.alloc (.cells (Array.replicate (nA * 2) (.int .i64 0)) 43))) := Lib.hid ((Grew.refl wC).alloc _)
  obtain ⟨wP, hwP⟩ : ∃ wP, wC.alloc (.cells (Array.replicate (nA * 2) (.int .i64 0)) 43) = wP := ⟨_, rfl⟩
  obtain ⟨g, hg⟩ : ∃ g, wC.heap.size = g := ⟨_, rfl⟩
  have Hgs := Lib.hid hg
  rw [hwP] at HPt0 HgP ⊢
  rw [hg] at HPt0 hsC2 ⊢
  clear hwP hg q1
  go_wp2
  go_loopw [43] (fun vv wr => ∃ v : Nat, v ≤ nA ∧ vv = .int .i64 v ∧ Grew wC wr ∧ ∃ P : List (Int × Int), PtB wr g nA P ∧ ∀ u, u < v → pr P u = ptF nA E A L u) (fun vv _ => nA - (intOf vv).toNat)
  case atStart => exact ⟨0, Nat.zero_le _, rfl, HgP.out.trans (by (repeat (first | exact gR _ | refine gO ?_ _ | refine gA ?_ _ | refine gD ?_ | refine gN ?_ _))), _, HPt0.out.grew (by (repeat (first | exact gR _ | refine gO ?_ _ | refine gA ?_ _ | refine gD ?_ | refine gN ?_ _))), fun u hu => by omega⟩
  case round =>
    obtain ⟨v, hv, rfl, hgr, P, hP, hall⟩ := hrel
    have Hgr := Lib.hid hgr
    have HP := Lib.hid hP
    have Hall := Lib.hid hall
    have hszr := hgr.below.size
    clear hgr hP hall
    by_cases hlt : v < nA
    · obtain ⟨r, hr⟩ : ∃ r, idx (v : Int) (rts E A) = r := ⟨_, rfl⟩
      have Hgw : Hid (Grew wo wr) := Lib.hid (HgC.out.trans Hgr.out)
      have Hrt : Hid (∀ W1, Grew wr W1 → Calls Tryd.prog 36 #[.pointer (some ⟨b, 0, none⟩), .int .i64 v] W1 fun e w' => e = .returned (.int .i64 r) ∧ W1 = w') := Lib.hid (fun W1 h => root_p HV.out hE0.out (by have := HnA.out; omega) (HPl.out.grew (Hgw.out.trans h)) v r hr)
      by_cases hr0 : 0 ≤ r
      · have hyi : (v : Int) ∈ rts E A := Classical.byContradiction fun k => by have := idx_neg_iff.2 k; omega
        have hrr := idx_range (v : Int) (rts E A)
        obtain ⟨i, hi1, hi2, _⟩ := idx_lt hyi
        have hi3 : i < 3 := by simpa [rts] using hi1
        obtain rfl : r = (i : Int) := by omega
        have Hpv : Hid (ptF nA E A L v = (if i = 1 then 2 * (nA : Int) - 5 else 0, if i = 2 then 2 * (nA : Int) - 5 else 0)) := Lib.hid (by
          unfold ptF
          rw [if_pos hyi, hi2]
          rcases (by omega : i = 0 ∨ i = 1 ∨ i = 2) with rfl | rfl | rfl
          · simp
          · simp
          · simp)
        obtain ⟨p1, p2⟩ := Hcr.out i hi3
        have p1 := Hgr.out.cellEq p1
        have p2 := Hgr.out.cellEq p2
        obtain ⟨x1, hx1⟩ : ∃ x1, (if i = 1 then 2 * (nA : Int) - 5 else 0) = x1 := ⟨_, rfl⟩
        obtain ⟨x2, hx2⟩ : ∃ x2, (if i = 2 then 2 * (nA : Int) - 5 else 0) = x2 := ⟨_, rfl⟩
        rw [hx1] at p1 Hpv
        rw [hx2] at p2 Hpv
        have hii : (i : Int) < 3 := by omega
        obtain ⟨⟨y1, y2⟩, y3, y4⟩ := HP.out.c v hlt
        have hgl := HP.out.lt
        have hvi : (v : Int) < (nA : Int) := by omega
        have hgbc : ¬ bc = g := by omega
        clear hr hyi hrr hi1 hi2 hx1 hx2 hi3
        go_wp2_with ((go_at_call 36; apply Calls.mono; (with_reducible exact Hrt.out _ (by (repeat (first | exact gR _ | refine gO ?_ _ | refine gA ?_ _ | refine gD ?_ | refine gN ?_ _)))); rintro e w' ⟨rfl, rfl⟩))
        go_roundw
        case rel => exact ⟨v + 1, by omega, by go_num, ((Hgr.out.setCell (show wC.heap.size ≤ g from Nat.le_of_eq Hgs.out) _).setCell (show wC.heap.size ≤ g from Nat.le_of_eq Hgs.out) _).trans (by (repeat (first | exact gR _ | refine gO ?_ _ | refine gA ?_ _ | refine gD ?_ | refine gN ?_ _))), P.set v (x1, x2), (HP.out.set hlt x1 x2).grew (by (repeat (first | exact gR _ | refine gO ?_ _ | refine gA ?_ _ | refine gD ?_ | refine gN ?_ _))), fun u hu => by
          by_cases e : u = v
          · rw [e, Hpv.out]; unfold pr; simp [HP.out.len, hlt]
          · have : pr (P.set v (x1, x2)) u = pr P u := by unfold pr; simp [List.getElem?_set, Ne.symm e]
            rw [this]; exact Hall.out u (by omega)⟩
        case measure => (simp [intOf] <;> omega)
      · have hni : (v : Int) ∉ rts E A := idx_neg_iff.1 (by omega)
        have Hni := Lib.hid hni
        have hrn : ¬ 0 ≤ r := hr0
        have HPw := Lib.hid (HPl.out.grew Hgw.out)
        have k0 := HPw.out.s0
        have k1 := HPw.out.s1
        have k2 := HPw.out.s2
        rw [Hs1.out] at k1
        rw [Hs2.out] at k2
        have hbl := HPw.out.lt
        clear hr hni
        obtain ⟨bm, hbm⟩ : ∃ bm, wr.heap.size = bm := ⟨_, rfl⟩
        have Hbm := Lib.hid hbm
        obtain ⟨wr2, hwr2⟩ : ∃ wr2, wr2 = wr := ⟨_, rfl⟩
        subst hwr2
        have HM0 : Hid ((wr2.alloc (.map #[] 0)).ownsMap Tryd.prog 3 (plainElem Tryd.prog 4) bm 0 (.map [] : DataW Unit)) := Lib.hid (by
          have h := World.ownsMap_made (H := Unit) wr2 Tryd.prog 3 (plainElem Tryd.prog 4)
          rw [hbm] at h
          exact h)
        have HgM : Hid (Grew wr2 (wr2.alloc (.map #[] 0))) := Lib.hid ((Grew.refl wr2).alloc _)
        go_upto_region 14 with ((go_at_call 36; apply Calls.mono; (with_reducible exact Hrt.out _ (by (repeat (first | exact gR _ | refine gO ?_ _ | refine gA ?_ _ | refine gD ?_ | refine gN ?_ _)))); rintro e w' ⟨rfl, rfl⟩))
        obtain ⟨wM, hwM⟩ : ∃ wM, wr2.alloc (.map #[] 0) = wM := ⟨_, rfl⟩
        rw [hwM] at HM0 HgM ⊢
        (try rw [hbm])
        have k0 := HgM.out.cellEq k0
        have k1 := HgM.out.cellEq k1
        have k2 := HgM.out.cellEq k2
        clear hwM hbm
        go_wp2
        go_loopw [62] (fun iv wk => ∃ i : Nat, i ≤ 3 ∧ iv = .int .i64 i ∧ Grew wr2 wk ∧ ∃ D : DataW Unit, MetI D ((sdL A).take i |>.map (· / 2)) ∧ wk.ownsMap Tryd.prog 3 (plainElem Tryd.prog 4) bm i D) (fun iv _ => 3 - (intOf iv).toNat)
        case atStart => exact ⟨0, by omega, rfl, HgM.out.trans (by (repeat (first | exact gR _ | refine gO ?_ _ | refine gA ?_ _ | refine gD ?_ | refine gN ?_ _))), _, MetI.nil, ownsMap_grew HM0.out (by (repeat (first | exact gR _ | refine gO ?_ _ | refine gA ?_ _ | refine gD ?_ | refine gN ?_ _)))⟩
        case round =>
          obtain ⟨i, hi, rfl, hgk, D, hD, hOm⟩ := hrel
          have Hgk := Lib.hid hgk
          have HD := Lib.hid hD
          have HOm := Lib.hid hOm
          have hbml := hOm.lt
          clear hgk hD hOm k0 k1 k2
          rcases (by omega : i = 0 ∨ i = 1 ∨ i = 2 ∨ 3 ≤ i) with rfl | rfl | rfl | hi3
          · have Hok : Hid (okI ((0 : Int))) := Lib.hid (okI_small (by omega))
            go_wp2_with (at_mapUpdate; refine wpList_mapUpdate_own _ rfl _ _ _ 62 rfl 3 4 mi_law Tryd.underlying62 (plainElem Tryd.prog 4) bm 0 D rfl HOm.out (by simp only [maxLen]; omega) _ _ (.int .i64 ((0 : Int))) rfl rfl (klI_eq Hok.out) (.lit (.bool true)) [] (plainElem_bool Tryd.underlying4 true) ?_; intro w2 hO2 hg2; have HOm2 := Lib.hid hO2; have Hgk2 := Lib.hid (Grew.grownBy (w0 := wr2) Hgk.out hg2 (fun k h => by have := Option.some.inj h; have := Hbm.out; omega)); clear hO2 hg2)
            go_roundw
            case rel => exact ⟨1, by omega, by go_num, Hgk2.out.trans (by (repeat (first | exact gR _ | refine gO ?_ _ | refine gA ?_ _ | refine gD ?_ | refine gN ?_ _))), _, (by
              have h := HD.out.put Hok.out
              have e : ((sdL A).take 1 |>.map (· / 2)) = ((sdL A).take 0 |>.map (· / 2)) ++ [((0 : Int))] := by
                unfold sdL
                skip
                rfl
              rw [e]
              exact h), ownsMap_grew HOm2.out (by (repeat (first | exact gR _ | refine gO ?_ _ | refine gA ?_ _ | refine gD ?_ | refine gN ?_ _)))⟩
            case measure => (simp [intOf] <;> omega)
          · have Hok : Hid (okI ((s1 : Int) / 2)) := Lib.hid (okI_small (by omega))
            go_wp2_with (at_mapUpdate; refine wpList_mapUpdate_own _ rfl _ _ _ 62 rfl 3 4 mi_law Tryd.underlying62 (plainElem Tryd.prog 4) bm 1 D rfl HOm.out (by simp only [maxLen]; omega) _ _ (.int .i64 ((s1 : Int) / 2)) rfl rfl (klI_eq Hok.out) (.lit (.bool true)) [] (plainElem_bool Tryd.underlying4 true) ?_; intro w2 hO2 hg2; have HOm2 := Lib.hid hO2; have Hgk2 := Lib.hid (Grew.grownBy (w0 := wr2) Hgk.out hg2 (fun k h => by have := Option.some.inj h; have := Hbm.out; omega)); clear hO2 hg2)
            go_roundw
            case rel => exact ⟨2, by omega, by go_num, Hgk2.out.trans (by (repeat (first | exact gR _ | refine gO ?_ _ | refine gA ?_ _ | refine gD ?_ | refine gN ?_ _))), _, (by
              have h := HD.out.put Hok.out
              have e : ((sdL A).take 2 |>.map (· / 2)) = ((sdL A).take 1 |>.map (· / 2)) ++ [((s1 : Int) / 2)] := by
                unfold sdL
                rw [Hs1.out]
                rfl
              rw [e]
              exact h), ownsMap_grew HOm2.out (by (repeat (first | exact gR _ | refine gO ?_ _ | refine gA ?_ _ | refine gD ?_ | refine gN ?_ _)))⟩
            case measure => (simp [intOf] <;> omega)
          · have Hok : Hid (okI ((s2 : Int) / 2)) := Lib.hid (okI_small (by omega))
            go_wp2_with (at_mapUpdate; refine wpList_mapUpdate_own _ rfl _ _ _ 62 rfl 3 4 mi_law Tryd.underlying62 (plainElem Tryd.prog 4) bm 2 D rfl HOm.out (by simp only [maxLen]; omega) _ _ (.int .i64 ((s2 : Int) / 2)) rfl rfl (klI_eq Hok.out) (.lit (.bool true)) [] (plainElem_bool Tryd.underlying4 true) ?_; intro w2 hO2 hg2; have HOm2 := Lib.hid hO2; have Hgk2 := Lib.hid (Grew.grownBy (w0 := wr2) Hgk.out hg2 (fun k h => by have := Option.some.inj h; have := Hbm.out; omega)); clear hO2 hg2)
            go_roundw
            case rel => exact ⟨3, by omega, by go_num, Hgk2.out.trans (by (repeat (first | exact gR _ | refine gO ?_ _ | refine gA ?_ _ | refine gD ?_ | refine gN ?_ _))), _, (by
              have h := HD.out.put Hok.out
              have e : ((sdL A).take 3 |>.map (· / 2)) = ((sdL A).take 2 |>.map (· / 2)) ++ [((s2 : Int) / 2)] := by
                unfold sdL
                rw [Hs2.out]
                rfl
              rw [e]
              exact h), ownsMap_grew HOm2.out (by (repeat (first | exact gR _ | refine gO ?_ _ | refine gA ?_ _ | refine gD ?_ | refine gN ?_ _)))⟩
            case measure => (simp [intOf] <;> omega)
          · have Hie : Hid (i = 3) := Lib.hid (by omega)
            have HD0 : Hid (MetI D (wallT E A L v 0)) := Lib.hid (by
              have e : ((sdL A).take 3 |>.map (· / 2)) = wallT E A L v 0 := rfl
              rw [← e, ← Hie.out]; exact HD.out)
            have HOm0 : Hid (wr.ownsMap Tryd.prog 3 (plainElem Tryd.prog 4) bm (wallT E A L v 0).length D) := Lib.hid (by
              have e : (wallT E A L v 0).length = i := by rw [Hie.out]; rfl
              rw [e]; exact HOm.out)
            have hi3i : ¬ (i : Int) < 3 := by omega
            clear hi3
            go_wp2
            go_loopw [69] (fun tv wk => ∃ t : Nat, t ≤ 3 ∧ tv = .int .i64 t ∧ Grew wr2 wk ∧ ∃ D : DataW Unit, MetI D (wallT E A L v t) ∧ wk.ownsMap Tryd.prog 3 (plainElem Tryd.prog 4) bm (wallT E A L v t).length D) (fun tv _ => 3 - (intOf tv).toNat)
            case atStart => exact ⟨0, by omega, rfl, Hgk.out.trans (by (repeat (first | exact gR _ | refine gO ?_ _ | refine gA ?_ _ | refine gD ?_ | refine gN ?_ _))), _, HD0.out, ownsMap_grew HOm0.out (by (repeat (first | exact gR _ | refine gO ?_ _ | refine gA ?_ _ | refine gD ?_ | refine gN ?_ _)))⟩
            case round =>
              clear HD HD0 Hgk HOm HOm0 hbml
              obtain ⟨t, ht, rfl, hgk, D, hD, hOm⟩ := hrel
              have Hgk := Lib.hid hgk
              have HD := Lib.hid hD
              have HOm := Lib.hid hOm
              have hbml := hOm.lt
              clear hgk hD hOm
              by_cases htl : t < 3
              · have hti : (t : Int) < 3 := by omega
                have Hend : Hid (endF E A L t A.length (v : Int) ∈ rts E A) := Lib.hid (HAc.out t v htl (by have := HnA.out; omega))
                have hwl : (wallT E A L v (t + 1)).length ≤ 403 := by
                  have h1 := wallT_len E A L v (t + 1)
                  have h2 := HnA.out
                  rw [h2] at h1
                  have : (t + 1) * nA ≤ 3 * nA := Nat.mul_le_mul_right _ (by omega)
                  omega
                go_wp2
                go_loopg [17] (A.length) (fun k uv wk => ∃ u : Nat, uv = .int .i64 u ∧ u < nA ∧ endF E A L t k (u : Int) ∈ rts E A ∧ Grew wr2 wk ∧ ∃ (D : DataW Unit) (V : List Int), MetI D V ∧ V ++ pathW E A L t k (u : Int) = wallT E A L v (t + 1) ∧ wk.ownsMap Tryd.prog 3 (plainElem Tryd.prog 4) bm V.length D)
                case atStart => exact ⟨v, rfl, hlt, Hend.out, Hgk.out.trans (by (repeat (first | exact gR _ | refine gO ?_ _ | refine gA ?_ _ | refine gD ?_ | refine gN ?_ _))), D, _, HD.out, rfl, ownsMap_grew HOm.out (by (repeat (first | exact gR _ | refine gO ?_ _ | refine gA ?_ _ | refine gD ?_ | refine gN ?_ _)))⟩
                case round =>
                  obtain ⟨u, rfl, hul, hend, hgk4, D4, V, hD4, hV4, hOm4⟩ := hrel
                  have Hgk4 := Lib.hid hgk4
                  have HD4 := Lib.hid hD4
                  have HOm4 := Lib.hid hOm4
                  have HV4 := Lib.hid hV4
                  have Hend4 := Lib.hid hend
                  have hbml4 := hOm4.lt
                  have hVl : V.length ≤ 403 := by
                    have := congrArg List.length hV4
                    rw [List.length_append] at this
                    omega
                  clear hgk4 hD4 hOm4 hV4 hend
                  obtain ⟨r2, hr2⟩ : ∃ r2, idx (u : Int) (rts E A) = r2 := ⟨_, rfl⟩
                  have Hrt2 : Hid (∀ W1, Grew wr2 W1 → Calls Tryd.prog 36 #[.pointer (some ⟨b, 0, none⟩), .int .i64 u] W1 fun e w' => e = .returned (.int .i64 r2) ∧ W1 = w') := Lib.hid (fun W1 h => root_p HV.out hE0.out (by have := HnA.out; omega) (HPl.out.grew (Hgw.out.trans h)) u r2 hr2)
                  by_cases hr20 : r2 < 0
                  · have hni : (u : Int) ∉ rts E A := idx_neg_iff.1 (by omega)
                    obtain ⟨k', hk'⟩ : ∃ k', gk = k' + 1 := by
                      cases gk with
                      | zero => exact absurd Hend4.out hni
                      | succ n => exact ⟨n, rfl⟩
                    subst hk'
                    have hpos := at_pos HT.out HS.out (v := u) (t := t) (by have := HnA.out; omega) hni htl
                    have hup := up_dart HT.out HS.out (v := u) (t := t) (by have := HnA.out; omega) hni htl
                    obtain ⟨d, hd⟩ : ∃ d : Nat, upF A L t u = (d : Int) := ⟨(upF A L t u).toNat, by have := hup.1.1; omega⟩
                    have hd2 : d < 2 * E.length := by have := hup.1.2; omega
                    obtain ⟨o, ho⟩ : ∃ o : Nat, oth (d : Int) = (o : Int) := ⟨(oth d).toNat, by have := oth_in (d := d) (M := E.length) (by omega) (by omega); omega⟩
                    have ho2 : o < 2 * E.length := by have := oth_in (d := d) (M := E.length) (by omega) (by omega); omega
                    have hx2 : bits BinOp.xor IntKind.i64 (d : Int) 1 = (o : Int) := by rw [← ho]; exact xor_small d (by omega)
                    have hpar : parF E A L t u = tailE E o := by unfold parF; rw [hd, ho]
                    have hhr := head_in HV.out hup.1.oth
                    rw [hd, ho] at hhr
                    obtain ⟨u', hu'⟩ : ∃ u' : Nat, tailE E o = (u' : Int) := ⟨(tailE E o).toNat, by omega⟩
                    have hu'l : u' < nA := by have := HnA.out; omega
                    have Hend5 : Hid (endF E A L t k' (u' : Int) ∈ rts E A) := Lib.hid (by
                      have := Hend4.out
                      unfold endF at this
                      rw [if_neg hni, hpar, hu'] at this
                      exact this)
                    have HV5 : Hid ((V ++ [(d : Int) / 2]) ++ pathW E A L t k' (u' : Int) = wallT E A L v (t + 1)) := Lib.hid (by
                      have := HV4.out
                      unfold pathW at this
                      rw [if_neg hni, hpar, hu', hd] at this
                      rw [← this]; simp)
                    have Hup : Hid (∀ W1, Grew wr2 W1 → Calls Tryd.prog 37 #[.pointer (some ⟨b, 0, none⟩), .slice pL nL cL, .int .i64 u, .int .i64 t] W1 fun e w' => e = .returned (.int .i64 (d : Int)) ∧ Grew W1 w') := Lib.hid (fun W1 h => up_p HV.out (HPl.out.grew (Hgw.out.trans h)) (HR.out.hA.grew (Hgo.out.trans (Hgw.out.trans h))) HnA.out pL nL cL (HI.out.grew (Hgo.out.trans (Hgw.out.trans h))) HnL.out HS.out.len hL1 u (by have := HnA.out; omega) t hpos _ hd)
                    have Htl : Hid (∀ W1, Grew wr2 W1 → Calls Tryd.prog 31 #[.pointer (some ⟨b, 0, none⟩), .int .i64 o] W1 fun e w' => e = .returned (.int .i64 (u' : Int)) ∧ W1 = w') := Lib.hid (fun W1 h => by
                      have := tail38_c b pE nE cE E W1 (HPl.out.grew (Hgw.out.trans h)).c1 (HR.out.hE.grew (Hgo.out.trans (Hgw.out.trans h))) HnE.out HR.out.e1 o ho2
                      rw [hu'] at this
                      exact this)
                    have Hokd : Hid (okI ((d : Int) / 2)) := Lib.hid (okI_small (by omega))
                    clear hr2 hni hpos hup hd ho hpar hhr hu'
                    go_wp2_with (first
                      | ((go_at_call 36; apply Calls.mono; (with_reducible exact Hrt2.out _ (Hgk4.out.trans (by (repeat (first | exact gR _ | refine gO ?_ _ | refine gA ?_ _ | refine gD ?_ | refine gN ?_ _))))); rintro e w' ⟨rfl, rfl⟩))
                      | (go_at_call 37; apply Calls.mono; (with_reducible exact Hup.out _ (Hgk4.out.trans (by (repeat (first | exact gR _ | refine gO ?_ _ | refine gA ?_ _ | refine gD ?_ | refine gN ?_ _))))); rintro e wu ⟨rfl, hgu⟩; have Hgu2 := Lib.hid ((show Grew wr _ by (repeat (first | exact gR _ | refine gO ?_ _ | refine gA ?_ _ | refine gD ?_ | refine gN ?_ _))).trans hgu); clear hgu)
                      | (at_mapUpdate; refine wpList_mapUpdate_own _ rfl _ _ _ 62 rfl 3 4 mi_law Tryd.underlying62 (plainElem Tryd.prog 4) bm V.length D4 rfl (ownsMap_grew HOm4.out (Hgu2.out.trans (by (repeat (first | exact gR _ | refine gO ?_ _ | refine gA ?_ _ | refine gD ?_ | refine gN ?_ _))))) (by simp only [maxLen]; omega) _ _ (.int .i64 ((d : Int) / 2)) rfl rfl (klI_eq Hokd.out) (.lit (.bool true)) [] (plainElem_bool Tryd.underlying4 true) ?_; intro w5 hO5 hg5; have HOm5 := Lib.hid hO5; have Hgk5 := Lib.hid (Grew.grownBy (w0 := wr2) (Hgk4.out.trans (Hgu2.out.trans (by (repeat (first | exact gR _ | refine gO ?_ _ | refine gA ?_ _ | refine gD ?_ | refine gN ?_ _))))) hg5 (fun k h => by have := Option.some.inj h; have := Hbm.out; omega)); clear hO5 hg5)
                      | ((go_at_call 31; apply Calls.mono; (with_reducible exact Htl.out _ (Hgk5.out.trans (by (repeat (first | exact gR _ | refine gO ?_ _ | refine gA ?_ _ | refine gD ?_ | refine gN ?_ _))))); rintro e w' ⟨rfl, rfl⟩)))
                    go_roundg k'
                    case rel => exact ⟨u', rfl, hu'l, Hend5.out, Hgk5.out.trans (by (repeat (first | exact gR _ | refine gO ?_ _ | refine gA ?_ _ | refine gD ?_ | refine gN ?_ _))), _, V ++ [(d : Int) / 2], HD4.out.put Hokd.out, HV5.out, by rw [List.length_append]; exact ownsMap_grew HOm5.out (by (repeat (first | exact gR _ | refine gO ?_ _ | refine gA ?_ _ | refine gD ?_ | refine gN ?_ _)))⟩
                    case measure => omega
                  · have hyi : (u : Int) ∈ rts E A := Classical.byContradiction fun k => by have := idx_neg_iff.2 k; omega
                    have HV5 : Hid (V = wallT E A L v (t + 1)) := Lib.hid (by
                      have := HV4.out
                      rw [pathW_root hyi, List.append_nil] at this
                      exact this)
                    clear hr2 hyi
                    go_wp2_with ((go_at_call 36; apply Calls.mono; (with_reducible exact Hrt2.out _ (Hgk4.out.trans (by (repeat (first | exact gR _ | refine gO ?_ _ | refine gA ?_ _ | refine gD ?_ | refine gN ?_ _))))); rintro e w' ⟨rfl, rfl⟩))
                    go_roundw
                    case rel => exact ⟨t + 1, by omega, by go_num, Hgk4.out.trans (by (repeat (first | exact gR _ | refine gO ?_ _ | refine gA ?_ _ | refine gD ?_ | refine gN ?_ _))), D4, by rw [← HV5.out]; exact HD4.out, by rw [← HV5.out]; exact ownsMap_grew HOm4.out (by (repeat (first | exact gR _ | refine gO ?_ _ | refine gA ?_ _ | refine gD ?_ | refine gN ?_ _)))⟩
                    case measure => (simp [intOf] <;> omega)
              · have Hte : Hid (t = 3) := Lib.hid (by omega)
                have HDw : Hid (MetI D (wallF E A L v)) := Lib.hid (by unfold wallF; rw [← Hte.out]; exact HD.out)
                have hti : ¬ (t : Int) < 3 := by omega
                obtain ⟨o2, ho2⟩ : ∃ o2 : Nat, oth (s2 : Int) = (o2 : Int) := ⟨(oth s2).toNat, by have := oth_in (d := s2) (M := E.length) (by omega) (by omega); omega⟩
                have ho2l : o2 < 2 * E.length := by have := oth_in (d := s2) (M := E.length) (by omega) (by omega); omega
                have hx2 : bits BinOp.xor IntKind.i64 (s2 : Int) 1 = (o2 : Int) := by rw [← ho2]; exact xor_small s2 (by omega)
                have hx0 : bits BinOp.xor IntKind.i64 0 1 = 1 := by have := xor_small 0 (by omega); rw [show oth ((0 : Nat) : Int) = 1 by decide] at this; exact this
                obtain ⟨n1, hn1⟩ : ∃ n1, regF nA E A L v (oth (nxF A (nxF A 0))) = n1 := ⟨_, rfl⟩
                obtain ⟨n2, hn2⟩ : ∃ n2, regF nA E A L v 1 = n2 := ⟨_, rfl⟩
                have Hpv : Hid (ptF nA E A L v = ((n1 : Int), (n2 : Int))) := Lib.hid (by unfold ptF; rw [if_neg Hni.out, hn1, hn2])
                have Hr1 : Hid (∀ W1, Grew wr W1 → Calls Tryd.prog 44 #[.pointer (some ⟨b, 0, none⟩), .map (some bm), .int .i64 (o2 : Int)] W1 fun e w' => e = .returned (.int .i64 (n1 : Int)) ∧ Grew W1 w') := Lib.hid (fun W1 h => by
                  have := region_p HV.out HR.out.e1 (HPl.out.grew (Hgw.out.trans (Hgk.out.trans h))) HnE.out bm _ D _ HDw.out (ownsMap_grew HOm.out h) o2 ho2l
                  have e : regN (edgR (2 * E.length) (faceL nA E A) (wallF E A L v)) (facesO nA E A).length (ge (faceL nA E A) o2) = n1 := by
                    rw [← hn1]
                    unfold regF
                    rw [Hs2.out, ho2, Int.toNat_natCast]
                  rw [e] at this
                  exact this)
                have Hr2 : Hid (∀ W1, Grew wr W1 → Calls Tryd.prog 44 #[.pointer (some ⟨b, 0, none⟩), .map (some bm), .int .i64 1] W1 fun e w' => e = .returned (.int .i64 (n2 : Int)) ∧ Grew W1 w') := Lib.hid (fun W1 h => by
                  have := region_p HV.out HR.out.e1 (HPl.out.grew (Hgw.out.trans (Hgk.out.trans h))) HnE.out bm _ D _ HDw.out (ownsMap_grew HOm.out h) 1 (by have := hE0.out; omega)
                  have e : regN (edgR (2 * E.length) (faceL nA E A) (wallF E A L v)) (facesO nA E A).length (ge (faceL nA E A) 1) = n2 := by
                    rw [← hn2]; rfl
                  rw [e] at this
                  exact this)
                have HP5 := Lib.hid (HP.out.grew Hgk.out)
                have HPl5 := Lib.hid (HPl.out.grew (Hgw.out.trans Hgk.out))
                have z4 := HPl5.out.s0
                have z6 := HPl5.out.s2
                rw [Hs2.out] at z6
                have hvi : (v : Int) < (nA : Int) := by omega
                have hbl5 := HPl5.out.lt
                clear ho2 hn1 hn2 k0 k1 k2
                go_upto_region 28 with fail
                refine wp_region_T (s := 23) (S := fun w' => w'.cell? ⟨b, 4, none⟩ = some (.int .i64 0) ∧ w'.cell? ⟨b, 6, none⟩ = some (.int .i64 (s2 : Int))) (by kernel_rfl) ⟨by simpa using z4, by simpa using z6⟩ (fun hH => ?_)
                refine wpAnyT_takeV (i := 0) (v := ?_) rfl (by kernel_rfl) (by kernel_rfl) (by kernel_rfl) (by decide) (fun _ _ _ h => h) (Or.inl ⟨by rfl, ?_⟩) (by assumption) ?_
                rotate_left
                · (intro w hSw; (try dsimp only at hSw); go_simp; (try with_reducible rfl))
                (try simp only [Act.put, List.setIfInBounds_toArray, List.set_cons_zero, List.set_cons_succ])
                refine wpAnyT_takeV (i := 1) (v := ?_) rfl (by kernel_rfl) (by kernel_rfl) (by kernel_rfl) (by decide) (fun _ _ _ h => h) (Or.inl ⟨by rfl, ?_⟩) (by assumption) ?_
                rotate_left
                · (intro w hSw; (try dsimp only at hSw); go_simp; (try with_reducible rfl))
                (try simp only [Act.put, List.setIfInBounds_toArray, List.set_cons_zero, List.set_cons_succ])
                refine wpAnyT_takeV (i := 2) (v := ?_) rfl (by kernel_rfl) (by kernel_rfl) (by kernel_rfl) (by decide) (fun _ _ _ h => h) (Or.inl ⟨by rfl, ?_⟩) (by assumption) ?_
                rotate_left
                · (intro w hSw; (try dsimp only at hSw); go_simp; (try with_reducible rfl))
                (try simp only [Act.put, List.setIfInBounds_toArray, List.set_cons_zero, List.set_cons_succ])
                refine wpAnyT_takeV (i := 3) (v := ?_) rfl (by kernel_rfl) (by kernel_rfl) (by kernel_rfl) (by decide) (fun _ _ _ h => h) (Or.inl ⟨by rfl, ?_⟩) (by assumption) ?_
                rotate_left
                · (intro w hSw; (try dsimp only at hSw); go_simp; (try with_reducible rfl))
                (try simp only [Act.put, List.setIfInBounds_toArray, List.set_cons_zero, List.set_cons_succ])
                refine wpAnyT_takeV (i := 4) (v := ?_) rfl (by kernel_rfl) (by kernel_rfl) (by kernel_rfl) (by decide) (fun _ _ _ h => h) (Or.inl ⟨by rfl, ?_⟩) (by assumption) ?_
                rotate_left
                · (intro w hSw; (try dsimp only at hSw); go_simp; (try with_reducible rfl))
                (try simp only [Act.put, List.setIfInBounds_toArray, List.set_cons_zero, List.set_cons_succ])
                refine wpAnyT_takeV (i := 5) (v := ?_) rfl (by kernel_rfl) (by kernel_rfl) (by kernel_rfl) (by decide) (fun _ _ _ h => h) (Or.inl ⟨by rfl, ?_⟩) (by assumption) ?_
                rotate_left
                · (intro w hSw; (try dsimp only at hSw); go_simp; (try with_reducible rfl))
                (try simp only [Act.put, List.setIfInBounds_toArray, List.set_cons_zero, List.set_cons_succ])
                refine wpAnyT_takeV (i := 6) (v := ?_) rfl (by kernel_rfl) (by kernel_rfl) (by kernel_rfl) (by decide) (fun _ _ _ h => h) (Or.inl ⟨by rfl, ?_⟩) (by assumption) ?_
                rotate_left
                · (intro w hSw; (try dsimp only at hSw); go_simp; (try with_reducible rfl))
                (try simp only [Act.put, List.setIfInBounds_toArray, List.set_cons_zero, List.set_cons_succ])
                refine wpAnyT_takeV (i := 7) (v := ?_) rfl (by kernel_rfl) (by kernel_rfl) (by kernel_rfl) (by decide) (fun _ _ _ h => h) (Or.inl ⟨by rfl, ?_⟩) (by assumption) ?_
                rotate_left
                · (intro w hSw; (try dsimp only at hSw); go_simp; (try with_reducible rfl))
                (try simp only [Act.put, List.setIfInBounds_toArray, List.set_cons_zero, List.set_cons_succ])
                refine wpAnyT_takeV (i := 8) (v := ?_) rfl (by kernel_rfl) (by kernel_rfl) (by kernel_rfl) (by decide) (fun _ _ _ h => h) (Or.inl ⟨by rfl, ?_⟩) (by assumption) ?_
                rotate_left
                · (intro w hSw; (try dsimp only at hSw); go_simp; (try with_reducible rfl))
                (try simp only [Act.put, List.setIfInBounds_toArray, List.set_cons_zero, List.set_cons_succ])
                refine wpAnyT_takeV (i := 9) (v := ?_) rfl (by kernel_rfl) (by kernel_rfl) (by kernel_rfl) (by decide) (fun _ _ _ h => h) (Or.inl ⟨by rfl, ?_⟩) (by assumption) ?_
                rotate_left
                · (intro w hSw; (try dsimp only at hSw); go_simp; (try with_reducible rfl))
                (try simp only [Act.put, List.setIfInBounds_toArray, List.set_cons_zero, List.set_cons_succ])
                refine wpAnyT_takeV (i := 11) (v := ?_) rfl (by kernel_rfl) (by kernel_rfl) (by kernel_rfl) (by decide) (fun _ _ _ h => h) (Or.inl ⟨by rfl, ?_⟩) (by assumption) ?_
                rotate_left
                · (intro w hSw; (try dsimp only at hSw); go_simp; (try with_reducible rfl))
                (try simp only [Act.put, List.setIfInBounds_toArray, List.set_cons_zero, List.set_cons_succ])
                refine wpAnyT_takeV (i := 12) (v := ?_) rfl (by kernel_rfl) (by kernel_rfl) (by kernel_rfl) (by decide) (fun _ _ _ h => h) (Or.inl ⟨by rfl, ?_⟩) (by assumption) ?_
                rotate_left
                · (intro w hSw; (try dsimp only at hSw); go_simp; (try with_reducible rfl))
                (try simp only [Act.put, List.setIfInBounds_toArray, List.set_cons_zero, List.set_cons_succ])
                refine wpAnyT_takeV (i := 13) (v := ?_) rfl (by kernel_rfl) (by kernel_rfl) (by kernel_rfl) (by decide) (fun _ _ _ h => h) (Or.inl ⟨by rfl, ?_⟩) (by assumption) ?_
                rotate_left
                · (intro w hSw; (try dsimp only at hSw); go_simp; (try with_reducible rfl))
                (try simp only [Act.put, List.setIfInBounds_toArray, List.set_cons_zero, List.set_cons_succ])
                refine wpAnyT_takeV (i := 14) (v := ?_) rfl (by kernel_rfl) (by kernel_rfl) (by kernel_rfl) (by decide) (fun _ _ _ h => h) (Or.inl ⟨by rfl, ?_⟩) (by assumption) ?_
                rotate_left
                · (intro w hSw; (try dsimp only at hSw); go_simp; (try with_reducible rfl))
                (try simp only [Act.put, List.setIfInBounds_toArray, List.set_cons_zero, List.set_cons_succ])
                refine wpAnyT_takeV (i := 15) (v := ?_) rfl (by kernel_rfl) (by kernel_rfl) (by kernel_rfl) (by decide) (fun _ _ _ h => h) (Or.inl ⟨by rfl, ?_⟩) (by assumption) ?_
                rotate_left
                · (intro w hSw; (try dsimp only at hSw); go_simp; (try with_reducible rfl))
                (try simp only [Act.put, List.setIfInBounds_toArray, List.set_cons_zero, List.set_cons_succ])
                refine wpAnyT_takeV (i := 16) (v := ?_) rfl (by kernel_rfl) (by kernel_rfl) (by kernel_rfl) (by decide) (fun _ _ _ h => h) (Or.inl ⟨by rfl, ?_⟩) (by assumption) ?_
                rotate_left
                · (intro w hSw; (try dsimp only at hSw); go_simp; (try with_reducible rfl))
                (try simp only [Act.put, List.setIfInBounds_toArray, List.set_cons_zero, List.set_cons_succ])
                refine wpAnyT_takeV (i := 17) (v := ?_) rfl (by kernel_rfl) (by kernel_rfl) (by kernel_rfl) (by decide) (fun _ _ _ h => h) (Or.inl ⟨by rfl, ?_⟩) (by assumption) ?_
                rotate_left
                · (intro w hSw; (try dsimp only at hSw); go_simp; (try with_reducible rfl))
                (try simp only [Act.put, List.setIfInBounds_toArray, List.set_cons_zero, List.set_cons_succ])
                refine wpAnyT_takeV (i := 18) (v := ?_) rfl (by kernel_rfl) (by kernel_rfl) (by kernel_rfl) (by decide) (fun _ _ _ h => h) (Or.inl ⟨by rfl, ?_⟩) (by assumption) ?_
                rotate_left
                · (intro w hSw; (try dsimp only at hSw); go_simp; (try with_reducible rfl))
                (try simp only [Act.put, List.setIfInBounds_toArray, List.set_cons_zero, List.set_cons_succ])
                obtain ⟨wk, hwk⟩ : ∃ wk, wr.drew = wk := ⟨_, rfl⟩
                have Hcur : Hid (Grew wr wk) := Lib.hid (by rw [← hwk]; exact (Grew.refl wr).drew)
                rw [hwk] at hH ⊢
                replace z4 := hH.1
                replace z6 := hH.2
                clear hwk
                refine wpAnyT_all (rs := [10]) (by kernel_rfl) (by simp) (AllT.consL (i := 10) rfl (fun K hK => ?_) AllT.nil)
                go_simp; go_wp2_with (go_at_call 44; apply Calls.mono; (with_reducible exact Hr1.out _ (Hcur.out.trans (by (repeat (first | exact gR _ | refine gO ?_ _ | refine gA ?_ _ | refine gD ?_ | refine gN ?_ _))))); rintro e wk ⟨rfl, hgk9⟩; have hgk8 := Grew.trans (by (repeat (first | exact gR _ | refine gO ?_ _ | refine gA ?_ _ | refine gD ?_ | refine gN ?_ _))) hgk9; have Hcur := Lib.hid (Hcur.out.trans hgk8); have z4 := hgk8.cellEq z4; have z6 := hgk8.cellEq z6; clear hgk8 hgk9)
                refine hK.out _ _ ?_ (fun hH => ?_)
                · (first | (simp [go_sem, ↓IntWalk.iteOmega, *]; done) | go_keep)
                clear hK K
                (try simp only [Act.put, List.setIfInBounds_toArray, List.set_cons_zero, List.set_cons_succ])
                refine wpAnyT_all (rs := [19]) (by kernel_rfl) (by simp) (AllT.consL (i := 19) rfl (fun K hK => ?_) AllT.nil)
                go_simp; go_wp2_with (go_at_call 44; apply Calls.mono; (with_reducible exact Hr2.out _ (Hcur.out.trans (by (repeat (first | exact gR _ | refine gO ?_ _ | refine gA ?_ _ | refine gD ?_ | refine gN ?_ _))))); rintro e wk ⟨rfl, hgk9⟩; have hgk8 := Grew.trans (by (repeat (first | exact gR _ | refine gO ?_ _ | refine gA ?_ _ | refine gD ?_ | refine gN ?_ _))) hgk9; have Hcur := Lib.hid (Hcur.out.trans hgk8); have z4 := hgk8.cellEq z4; have z6 := hgk8.cellEq z6; clear hgk8 hgk9)
                refine hK.out _ _ ?_ (fun hH => ?_)
                · (first | (simp [go_sem, ↓IntWalk.iteOmega, *]; done) | go_keep)
                clear hK K
                (try simp only [Act.put, List.setIfInBounds_toArray, List.set_cons_zero, List.set_cons_succ])
                refine wpAnyT_takeV (i := 20) (v := ?_) rfl (by kernel_rfl) (by kernel_rfl) (by kernel_rfl) (by decide) (fun _ _ _ h => h) (Or.inl ⟨by rfl, ?_⟩) (by assumption) ?_
                rotate_left
                · (intro w hSw; (try dsimp only at hSw); go_simp; (try with_reducible rfl))
                (try simp only [Act.put, List.setIfInBounds_toArray, List.set_cons_zero, List.set_cons_succ])
                refine wpAnyT_takeV (i := 21) (v := ?_) rfl (by kernel_rfl) (by kernel_rfl) (by kernel_rfl) (by decide) (fun _ _ _ h => h) (Or.inl ⟨by rfl, ?_⟩) (by assumption) ?_
                rotate_left
                · (intro w hSw; (try dsimp only at hSw); go_simp; (try with_reducible rfl))
                (try simp only [Act.put, List.setIfInBounds_toArray, List.set_cons_zero, List.set_cons_succ])
                have HP6 := Lib.hid (HP5.out.grew Hcur.out)
                obtain ⟨⟨y1, y2⟩, y3, y4⟩ := HP6.out.c v hlt
                have hgl := HP6.out.lt
                have hbg : ¬ b = g := by have := Hgs.out; have := HgC.out.below.size; have := HPl.out.lt; omega
                have Hset := Lib.hid (HP6.out.set hlt (n1 : Int) (n2 : Int))
                refine wpAnyT_all (rs := [22]) (by kernel_rfl) (by simp) (AllT.consL (i := 22) rfl (fun K hK => ?_) AllT.nil)
                go_simp
                refine hK.out _ _ ?_ (fun hH => ?_)
                · (first | (simp [go_sem, ↓IntWalk.iteOmega, *]; done) | go_keep)
                clear hK K
                (try simp only [Act.put, List.setIfInBounds_toArray, List.set_cons_zero, List.set_cons_succ])
                refine wpAnyT_done (by kernel_rfl) ?_ _
                go_wp2_with fail
                go_roundw
                case rel => exact ⟨v + 1, by omega, by go_num, (((Hgr.out.trans (Hgk.out.trans Hcur.out)).setCell (show wC.heap.size ≤ g from Nat.le_of_eq Hgs.out) _).setCell (show wC.heap.size ≤ g from Nat.le_of_eq Hgs.out) _).trans (by (repeat (first | exact gR _ | refine gO ?_ _ | refine gA ?_ _ | refine gD ?_ | refine gN ?_ _))), P.set v ((n1 : Int), (n2 : Int)), Hset.out.grew (by (repeat (first | exact gR _ | refine gO ?_ _ | refine gA ?_ _ | refine gD ?_ | refine gN ?_ _))), fun u hu => by
                  by_cases e : u = v
                  · rw [e, Hpv.out]; unfold pr; simp [HP.out.len, hlt]
                  · have : pr (P.set v ((n1 : Int), (n2 : Int))) u = pr P u := by unfold pr; simp [List.getElem?_set, Ne.symm e]
                    rw [this]; exact Hall.out u (by omega)⟩
                case measure => (simp [intOf] <;> omega)
    · obtain rfl : v = nA := by omega
      have HdL : Hid ((drawL v E A L).length = v) := Lib.hid (by unfold drawL; rw [List.length_map, List.length_range]; exact HnA.out)
      go_wp2
      go_ret2
      rw [Hf.out]
      refine ⟨Hgo.out.trans (HgC.out.trans (Hgr.out.trans (by (repeat (first | exact gR _ | refine gO ?_ _ | refine gA ?_ _ | refine gD ?_ | refine gN ?_ _))))), some ⟨g, 0, none⟩, v, by rw [HdL.out]; rfl, ⟨by rw [HdL.out]; omega, g, 0, fun _ => ⟨rfl, ?_⟩, fun i hi => ?_⟩, by rw [HdL.out]; exact Nat.le_refl _, by simp only [maxLen]; omega⟩
      · exact (HP.out.grew (show Grew wr _ by (repeat (first | exact gR _ | refine gO ?_ _ | refine gA ?_ _ | refine gD ?_ | refine gN ?_ _)))).lt
      · rw [HdL.out] at hi
        obtain ⟨⟨c1, _⟩, c2, _⟩ := (HP.out.grew (show Grew wr _ by (repeat (first | exact gR _ | refine gO ?_ _ | refine gA ?_ _ | refine gD ?_ | refine gN ?_ _)))).c i hi
        have e : pr (drawL v E A L) i = pr P i := by
          rw [Hall.out i hi]
          unfold drawL pr
          have : i < A.length := by have := HnA.out; omega
          simp [this]
        rw [e, Nat.zero_add]
        exact ⟨c1, c2⟩
end Go.Proofs.YtlealdicoceekaaDoor

/- The reference: walls (printed by gen_refg.py). -/
namespace Go.Proofs.YtlealdicoceekaaDoor
open Go.RowKit
attribute [local go_sem ↓] Go.wp_at_zero Go.wp_at_succ

section
variable {N : Int} {E : List (Int × Int)} {A : List (List Int)} {L : List Int}
/-- dart returns the one dart between two joined vertices. -/
theorem dartF_sound {a b : Int} : dartF E a b = -1 ∧ (∀ d, isD E d → ¬ (tailE E d = a ∧ tailE E (oth d) = b)) ∨ ∃ x, isD E x ∧ dartF E a b = x ∧ tailE E x = a ∧ tailE E (oth x) = b := by
  have hpr : ∀ i : Nat, tailE E (2 * (i : Int)) = (pr E i).1 ∧ tailE E (2 * (i : Int) + 1) = (pr E i).2 := fun i => by
    refine ⟨?_, ?_⟩
    · unfold tailE; rw [if_pos (by omega), show (2 * (i : Int) / 2).toNat = i by omega]
    · unfold tailE; rw [if_neg (by omega), show ((2 * (i : Int) + 1) / 2).toNat = i by omega]
  have hdi : ∀ d, isD E d → ∃ i : Nat, i < E.length ∧ (d = 2 * (i : Int) ∨ d = 2 * (i : Int) + 1) := fun d hd => ⟨(d / 2).toNat, by have := hd.1; have := hd.2; omega, by have := hd.1; have := hd.2; omega⟩
  have hoe : ∀ i : Nat, oth (2 * (i : Int)) = 2 * (i : Int) + 1 := oth_even
  have hoo : ∀ i : Nat, oth (2 * (i : Int) + 1) = 2 * (i : Int) := oth_odd
  by_cases hex : ∃ k : Nat, k < E.length ∧ (((pr E k).1 = a ∧ (pr E k).2 = b) ∨ ((pr E k).1 = b ∧ (pr E k).2 = a))
  · have hmin : ∃ k : Nat, k < E.length ∧ (((pr E k).1 = a ∧ (pr E k).2 = b) ∨ ((pr E k).1 = b ∧ (pr E k).2 = a)) ∧ ∀ j, j < k → ¬ ((pr E j).1 = a ∧ (pr E j).2 = b) ∧ ¬ ((pr E j).1 = b ∧ (pr E j).2 = a) := by
      obtain ⟨k, hk⟩ := hex
      have key : ∀ n k : Nat, k ≤ n → (k < E.length ∧ (((pr E k).1 = a ∧ (pr E k).2 = b) ∨ ((pr E k).1 = b ∧ (pr E k).2 = a))) → ∃ k : Nat, k < E.length ∧ (((pr E k).1 = a ∧ (pr E k).2 = b) ∨ ((pr E k).1 = b ∧ (pr E k).2 = a)) ∧ ∀ j, j < k → ¬ ((pr E j).1 = a ∧ (pr E j).2 = b) ∧ ¬ ((pr E j).1 = b ∧ (pr E j).2 = a) := by
        intro n
        induction n with
        | zero => exact fun k h1 h2 => ⟨k, h2.1, h2.2, fun j hj => by omega⟩
        | succ n ih =>
          intro k h1 h2
          by_cases h : ∃ j, j < k ∧ (((pr E j).1 = a ∧ (pr E j).2 = b) ∨ ((pr E j).1 = b ∧ (pr E j).2 = a))
          · obtain ⟨j, hj, hj2⟩ := h
            exact ih j (by omega) ⟨by omega, hj2⟩
          · exact ⟨k, h2.1, h2.2, fun j hj => ⟨fun e => h ⟨j, hj, .inl e⟩, fun e => h ⟨j, hj, .inr e⟩⟩⟩
      exact key k k (Nat.le_refl _) hk
    obtain ⟨k, hk, hor, hall⟩ := hmin
    obtain ⟨d1, d2⟩ := dartF_at (a := a) (b := b) k hk hall
    by_cases h1 : (pr E k).1 = a ∧ (pr E k).2 = b
    · exact .inr ⟨2 * (k : Int), ⟨by omega, by omega⟩, d1 h1, by rw [(hpr k).1]; exact h1.1, by rw [hoe, (hpr k).2]; exact h1.2⟩
    · have h2 := hor.resolve_left h1
      exact .inr ⟨2 * (k : Int) + 1, ⟨by omega, by omega⟩, d2 h1 h2, by rw [(hpr k).2]; exact h2.2, by rw [hoo, (hpr k).1]; exact h2.1⟩
  · refine .inl ⟨dartF_none fun i hi => ⟨fun e => hex ⟨i, hi, .inl e⟩, fun e => hex ⟨i, hi, .inr e⟩⟩, fun d hd e => ?_⟩
    obtain ⟨i, hi, rfl | rfl⟩ := hdi d hd
    · rw [hoe, (hpr i).1, (hpr i).2] at e
      exact hex ⟨i, hi, .inl e⟩
    · rw [hoo, (hpr i).1, (hpr i).2] at e
      exact hex ⟨i, hi, .inr ⟨e.2, e.1⟩⟩
theorem dartF_eq (hT : trgB N E A = true) {d : Int} (hd : isD E d) {a b : Int} (ha : tailE E d = a) (hb : tailE E (oth d) = b) : dartF E a b = d := by
  rcases dartF_sound (E := E) (a := a) (b := b) with ⟨_, h⟩ | ⟨x, hx, he, h1, h2⟩
  · exact absurd ⟨ha, hb⟩ (h d hd)
  · rw [he]
    exact dart_uniq hT hx hd (by rw [h1, ha]) (by rw [h2, hb])
end
/-- The Bools tell which edges are in a list. -/
def WallIs (n : Nat) (W : List Bool) (S : List Int) : Prop := W.length = n ∧ ∀ i, i < n → gb W i = decide ((i : Int) ∈ S)
theorem WallIs.zero (n : Nat) : WallIs n (List.replicate n false) [] := ⟨by simp, fun i hi => by simp [gb, hi]⟩
theorem WallIs.put {n : Nat} {W : List Bool} {S : List Int} (h : WallIs n W S) {k : Nat} (hk : k < n) : WallIs n (W.set k true) (S ++ [(k : Int)]) := by
  refine ⟨by rw [List.length_set]; exact h.1, fun i hi => ?_⟩
  rw [gb_set _ (by rw [h.1]; exact hk)]
  by_cases e : i = k
  · rw [if_pos e, e]
    simp
  · rw [if_neg e, h.2 i hi]
    simp only [List.mem_append, List.mem_singleton]
    have : ¬ (i : Int) = (k : Int) := by omega
    simp [this]
set_option maxRecDepth 8000 in
set_option maxHeartbeats 16000000 in
theorem walls_r (N : Int) (pE pA pL : Option Addr) (nE nA nL cE cA cL : Nat) (E : List (Int × Int)) (A : List (List Int)) (L : List Int) (w : World) (hR : RotIn w pE pA cE E A) (hT : trgB N E A = true) (hS : Sch E A L) (hAc : Acy E A L) (hI : Ints w pL L) (hnE : E.length = nE) (hnA : A.length = nA) (hnL : L.length = nL) (v : Nat) (hv : v < A.length) :
    Calls Tryd.prog 68 #[.agg #[.int .i64 N, .slice pE nE cE, .slice pA nA cA], .slice pL nL cL, .int .i64 v] w fun e w' => Grew w w' ∧ ∃ g, e = .returned (.slice (some ⟨g, 0, none⟩) nE nE) ∧ w.heap.size ≤ g ∧ ∃ W, Owns w' g [rB g nE W] ∧ WallIs nE W (wallF E A L v) := by
  have hV := trg_valid hT
  have hal := hV.al
  obtain rfl : N = (nA : Int) := by omega
  have HV := Lib.hid hV
  have HT := Lib.hid hT
  have HS := Lib.hid hS
  have HAc := Lib.hid hAc
  have HR := Lib.hid hR
  have HI := Lib.hid hI
  have HnL := Lib.hid hnL
  have HnE := Lib.hid hnE
  have HnA := Lib.hid hnA
  have hE1 : nE ≤ 100 := by have := hR.e1; omega
  have hA1 : nA ≤ 100 := by have := hR.a1; omega
  have hvl : v < nA := by omega
  have hmk := mk_bools nE (by omega)
  have hE0 := trg_pos hT
  obtain ⟨s1, s2, hs1, hs2, hs1l, hs2l⟩ := sdL_nat hV hE0
  obtain ⟨ot1, ot2, ot3, ot4, ot5⟩ := outer_tails hT
  have Hs1 := Lib.hid hs1
  have Hs2 := Lib.hid hs2
  have Hdt : Hid (∀ (d : Nat) (a b : Int) W1, Grew w W1 → d < 2 * nE → tailE E d = a → tailE E (oth d) = b → Calls Tryd.prog 34 #[.agg #[.int .i64 nA, .slice pE nE cE, .slice pA nA cA], .int .i64 a, .int .i64 b] W1 fun e w' => e = .returned (.int .i64 (d : Int)) ∧ Grew W1 w') := Lib.hid (fun d a b W1 h hd ha hb => dart_r nA pE pA nE nA cE cA E a b W1 (HR.out.hE.grew h) HR.out.e1 HnE.out d (dartF_eq HT.out ⟨by omega, by have := HnE.out; omega⟩ ha hb))
  have Hrts : Hid (∀ W1, Grew w W1 → Calls Tryd.prog 23 #[.agg #[.int .i64 nA, .slice pE nE cE, .slice pA nA cA]] W1 fun e w' => Grew W1 w' ∧ ∃ q cap, e = .returned (.slice q 3 cap) ∧ Ints w' q (rts E A) ∧ ∀ a, q = some a → W1.heap.size ≤ a.block) := Lib.hid (fun W1 h => roots_r _ pE pA nE nA cE cA E A W1 (HR.out.grew h) HT.out HnE.out HnA.out)
  have Hpr : Hid (∀ (t : Nat) W1, Grew w W1 → t < 3 → Calls Tryd.prog 39 #[.agg #[.int .i64 nA, .slice pE nE cE, .slice pA nA cA], .slice pL nL cL, .int .i64 t] W1 fun e w' => Grew W1 w' ∧ ∃ q cap, e = .returned (.slice q nA cap) ∧ Ints w' q (parL E A L t) ∧ ∀ a, q = some a → W1.heap.size ≤ a.block) := Lib.hid (fun t W1 h ht => by
    have := par38_r nA pE pA pL nE nA nL cE cA cL E A L t W1 HV.out HR.out.e1 HR.out.a1 (HR.out.hE.grew h) (HI.out.grew h) HnE.out HnA.out HnL.out HS.out.len
    rw [← HnE.out, ← HnA.out, par_eq HT.out HS.out ht] at this
    rw [← HnE.out, ← HnA.out]
    exact this)
  obtain ⟨x0, hx0⟩ : ∃ x0, tailE E 0 = x0 := ⟨_, rfl⟩
  obtain ⟨x1, hx1⟩ : ∃ x1, tailE E 1 = x1 := ⟨_, rfl⟩
  obtain ⟨x2, hx2⟩ : ∃ x2, tailE E (nxF A (nxF A 0)) = x2 := ⟨_, rfl⟩
  have Hrt : Hid (rts E A = [x0, x1, x2]) := Lib.hid (by unfold rts; rw [hx0, hx1, hx2])
  have hs2' := Hs2.out
  rw [hs2'] at ot4 ot5 hx2
  rw [hs1] at ot3 ot4
  have Hd0 : Hid (∀ W1, Grew w W1 → Calls Tryd.prog 34 #[.agg #[.int .i64 nA, .slice pE nE cE, .slice pA nA cA], .int .i64 x0, .int .i64 x1] W1 fun e w' => e = .returned (.int .i64 0) ∧ Grew W1 w') := Lib.hid (fun W1 h => Hdt.out 0 _ _ W1 h (by omega) hx0 hx1)
  have Hd1 : Hid (∀ W1, Grew w W1 → Calls Tryd.prog 34 #[.agg #[.int .i64 nA, .slice pE nE cE, .slice pA nA cA], .int .i64 x1, .int .i64 x2] W1 fun e w' => e = .returned (.int .i64 (s1 : Int)) ∧ Grew W1 w') := Lib.hid (fun W1 h => Hdt.out s1 _ _ W1 h (by omega) (by rw [ot3]; exact hx1) (by rw [ot4]; exact hx2))
  have Hd2 : Hid (∀ W1, Grew w W1 → Calls Tryd.prog 34 #[.agg #[.int .i64 nA, .slice pE nE cE, .slice pA nA cA], .int .i64 x2, .int .i64 x0] W1 fun e w' => e = .returned (.int .i64 (s2 : Int)) ∧ Grew W1 w') := Lib.hid (fun W1 h => Hdt.out s2 _ _ W1 h (by omega) hx2 (by rw [ot5]; exact hx0))
  obtain ⟨h1, hh1⟩ : ∃ h1 : Nat, (s1 : Int) / 2 = (h1 : Int) := ⟨s1 / 2, by omega⟩
  obtain ⟨h2, hh2⟩ : ∃ h2 : Nat, (s2 : Int) / 2 = (h2 : Int) := ⟨s2 / 2, by omega⟩
  have hh1l : h1 < nE := by omega
  have hh2l : h2 < nE := by omega
  have hE0n : 0 < nE := by omega
  have Hw0 : Hid (wallT E A L v 0 = (([] ++ [((0 : Nat) : Int)]) ++ [(h1 : Int)]) ++ [(h2 : Int)]) := Lib.hid (by
    show (sdL A).map (· / 2) = _
    unfold sdL
    rw [Hs2.out, Hs1.out]
    simp [hh1, hh2])
  clear hR hT hS hAc hI hnE hnA hnL hV hal hE0 hs1 hs2 ot1 ot2 ot3 ot4 ot5 hx0 hx1 hx2 hs2' hv
  go_enter Tryd.func68, Tryd.ntmps68
  go_upto_region 1 with fail
  have HgB : Hid (Grew w (w.alloc (.cells #[.int .i64 nA, .slice pE nE cE, .slice pA nA cA] 25))) := Lib.hid ((Grew.refl w).alloc _)
  have k0 : (w.alloc (.cells #[.int .i64 nA, .slice pE nE cE, .slice pA nA cA] 25)).cell? ⟨w.heap.size, 0, none⟩ = some (.int .i64 nA) := by simp [go_sem]
  have k1 : (w.alloc (.cells #[.int .i64 nA, .slice pE nE cE, .slice pA nA cA] 25)).cell? ⟨w.heap.size, 1, none⟩ = some (.slice pE nE cE) := by simp [go_sem]
  have k2 : (w.alloc (.cells #[.int .i64 nA, .slice pE nE cE, .slice pA nA cA] 25)).cell? ⟨w.heap.size, 2, none⟩ = some (.slice pA nA cA) := by simp [go_sem]
  have hsB : (w.alloc (.cells #[.int .i64 nA, .slice pE nE cE, .slice pA nA cA] 25)).heap.size = w.heap.size + 1 := by simp [go_sem]
  obtain ⟨wB, hwB⟩ : ∃ wB, w.alloc (.cells #[.int .i64 nA, .slice pE nE cE, .slice pA nA cA] 25) = wB := ⟨_, rfl⟩
  rw [hwB] at HgB k0 k1 k2 hsB ⊢
  have hwl : w.heap.size < wB.heap.size := by omega
  have HsB := Lib.hid hsB
  clear hwB hsB
  go_upto_region 2 with fail
  have HO0 := Lib.hid (own_newB (Owns.nil wB wB.heap.size) (Nat.le_refl _) nE wB.heap.size (by omega) rfl)
  have Hg0 : Hid (Grew wB (wB.alloc (.cells (Array.replicate nE (.bool false)) 4))) := Lib.hid ((Grew.refl wB).alloc _)
  obtain ⟨wA, hwA⟩ : ∃ wA, wB.alloc (.cells (Array.replicate nE (.bool false)) 4) = wA := ⟨_, rfl⟩
  rw [hwA] at HO0 Hg0 ⊢
  obtain ⟨g, hg⟩ : ∃ g, wB.heap.size = g := ⟨_, rfl⟩
  have Hgs := Lib.hid hg
  rw [hg] at HO0 hwl ⊢
  have j0 := Hg0.out.cellEq k0
  have j1 := Hg0.out.cellEq k1
  have j2 := Hg0.out.cellEq k2
  have hlA := World.block_lt_of_cell? wA _ j0
  dsimp only at hlA
  clear hwA hg
  go_upto_region 3 with (go_at_call 23; apply Calls.mono; (with_reducible exact Hrts.out _ (HgB.out.trans (Hg0.out.trans (by (repeat (first | exact gR _ | refine gO ?_ _ | refine gA ?_ _ | refine gD ?_ | refine gN ?_ _)))))); rintro e w3 ⟨hg3, q3, c3, rfl, hI3, hf3⟩; have Hf3 := Lib.hid hf3; have HI3 := Lib.hid hI3; have Hg3r := Lib.hid ((show Grew wA _ by (repeat (first | exact gR _ | refine gO ?_ _ | refine gA ?_ _ | refine gD ?_ | refine gN ?_ _))).trans hg3); have Hg3 := Lib.hid (Hg0.out.trans Hg3r.out); clear hI3 hg3 hf3)
  have HO3 := Lib.hid (HO0.out.grew Hg3r.out)
  have Hqb : Hid (∀ a, q3 = some a → g < a.block) := Lib.hid (fun a ha => Nat.lt_of_lt_of_le (Nat.lt_of_lt_of_le (own_lt HO0.out (j := 0) rfl) (show Grew wA _ by (repeat (first | exact gR _ | refine gO ?_ _ | refine gA ?_ _ | refine gD ?_ | refine gN ?_ _))).below.size) (Hf3.out a ha))
  rw [Hrt.out] at HI3
  clear Hf3 j0 j1 j2 hlA
  have m0 := Hg3.out.cellEq k0
  have m1 := Hg3.out.cellEq k1
  have m2 := Hg3.out.cellEq k2
  have hlw := World.block_lt_of_cell? w3 _ m0
  dsimp only at hlw
  obtain ⟨bT, oT, e3, lT, cT⟩ := HI3.out.cells (by simp)
  have ta := cT w3 (Grew.refl _) 0 (by simp)
  have tb := cT w3 (Grew.refl _) 1 (by simp)
  obtain rfl := e3
  have xf := own_fr HO3.out (j := 0) rfl 0
  have xa := own_atB HO3.out (j := 0) rfl (i := 0) hE0n
  have hgl := own_lt HO3.out (j := 0) rfl
  have Hgw : Hid (Grew w w3) := Lib.hid (HgB.out.trans Hg3.out)
  have hwr : IntKind.i64.wrap (0) = 0 := IntWalk.i64_in _ ⟨by omega, by omega⟩
  have ha1 : ((0 : Nat) : Int) < 3 := by omega
  have hb1 : ((1 : Nat) : Int) < 3 := by omega
  simp only [show ge [x0, x1, x2] 0 = x0 from rfl, show ge [x0, x1, x2] 1 = x1 from rfl, show ge [x0, x1, x2] 2 = x2 from rfl, Nat.add_zero] at ta tb
  clear cT
  refine wp_region_lex (One 11 (fun b => if b then w3.setCell ⟨g, 0, none⟩ (.bool true) else w3)) (by kernel_rfl) (by kernel_rfl) ?_ ?_
  · (repeat (first | exact Grew.refl _ | refine Grew.over ?_ _ | refine Grew.alloc ?_ _ | refine Grew.drew ?_ | refine Grew.drewN ?_ _))
  repeat (first
    | (refine lex_skip rfl ?_ ?_
       · exact One.keep (by decide)
       (try simp only [Act.put, List.setIfInBounds_toArray, List.set_cons_zero, List.set_cons_succ]))
    | (refine lex_pure (v := ?_) rfl ?_ (fun d w hd hr hC => ?_) ?_
       rotate_left
       · exact One.keep (by decide)
       · ((try (have hs := closed_undone (s := 11) hr.2 rfl (by decide +kernel) hd; unfold One at hC; rw [hs] at hC)); obtain ⟨x, rfl⟩ := hC; simp [go_sem, ↓IntWalk.iteOmega, ta, tb, xf, xa, lT, hgl, m0, m1, m2, hlw, hwr, hE0n]; try rfl)
       (try simp only [Act.put, List.setIfInBounds_toArray, List.set_cons_zero, List.set_cons_succ]))
    | (refine lex_call (v := ?_) (f := ?_) (args := ?_) rfl ?_ One.grew (fun d w hd hr hC => ?_) (fun d w hd hr hC => ?_) ?_
       rotate_left 3
       · exact One.keep (by decide)
       · ((try (have hs := closed_undone (s := 11) hr.2 rfl (by decide +kernel) hd; unfold One at hC; rw [hs] at hC)); obtain ⟨x, rfl⟩ := hC; simp [go_sem, ↓IntWalk.iteOmega, ta, tb, xf, xa, lT, hgl, m0, m1, m2, hlw, hwr, hE0n]; (refine ⟨?_, ?_⟩ <;> rfl))
       · ((try (have hs := closed_undone (s := 11) hr.2 rfl (by decide +kernel) hd; unfold One at hC; rw [hs] at hC)); obtain ⟨x, rfl⟩ := hC; ((go_at_call 34; exact Hd0.out _ (Hgw.out.trans ((Grew.refl _).over _)))))
       (try simp only [Act.put, List.setIfInBounds_toArray, List.set_cons_zero, List.set_cons_succ]))
    | (refine lex_store rfl (fun d w hd hr hC => ?_) ?_
       · (unfold One at hC ⊢; rw [hd] at hC; rw [mark_same]; obtain ⟨x, rfl⟩ := hC; refine ⟨?_, ?_, ?_⟩; rotate_left; (simp [go_sem, ↓IntWalk.iteOmega, ta, tb, xf, xa, lT, hgl, m0, m1, m2, hlw, hwr, hE0n]; try rfl); (simp; exact ⟨_, rfl⟩))
       (try simp only [Act.put, List.setIfInBounds_toArray, List.set_cons_zero, List.set_cons_succ])))
  refine lex_nil ?_
  intro dLx w4 hd hw4
  unfold One at hw4; rw [hd 11 (by decide)] at hw4; simp only [if_true] at hw4
  have HI4 := Lib.hid ((HI3.out.gr (Gr.setCell (ex := fun k => k = g) (i := 0) (Gr.refl _ w3) rfl (.bool true)) (fun a ha e => by
    have := Hqb.out a ha
    omega)).grew hw4)
  have HO4 := Lib.hid ((own_setB HO3.out (j := 0) rfl 0 true).grew hw4)
  have Hg4 := Lib.hid ((Hg3.out.setCell (show wB.heap.size ≤ g from Nat.le_of_eq Hgs.out) (.bool true)).trans hw4)
  clear hwr hw4 xf xa ta tb m0 m1 m2 hlw Hgw hgl lT HI3 HO3 Hg3
  go_upto_region 4 with fail
  have m0 := Hg4.out.cellEq k0
  have m1 := Hg4.out.cellEq k1
  have m2 := Hg4.out.cellEq k2
  have hlw := World.block_lt_of_cell? w4 _ m0
  dsimp only at hlw
  obtain ⟨bT, oT, e3, lT, cT⟩ := HI4.out.cells (by simp)
  have ta := cT w4 (Grew.refl _) 1 (by simp)
  have tb := cT w4 (Grew.refl _) 2 (by simp)
  cases e3
  have xf := own_fr HO4.out (j := 0) rfl h1
  have xa := own_atB HO4.out (j := 0) rfl (i := h1) hh1l
  have hgl := own_lt HO4.out (j := 0) rfl
  have Hgw : Hid (Grew w w4) := Lib.hid (HgB.out.trans Hg4.out)
  have hwr : IntKind.i64.wrap ((h1 : Int)) = (h1 : Int) := IntWalk.i64_in _ ⟨by omega, by omega⟩
  have ha1 : ((1 : Nat) : Int) < 3 := by omega
  have hb1 : ((2 : Nat) : Int) < 3 := by omega
  simp only [show ge [x0, x1, x2] 0 = x0 from rfl, show ge [x0, x1, x2] 1 = x1 from rfl, show ge [x0, x1, x2] 2 = x2 from rfl, Nat.add_zero] at ta tb
  clear cT
  refine wp_region_lex (One 11 (fun b => if b then w4.setCell ⟨g, h1, none⟩ (.bool true) else w4)) (by kernel_rfl) (by kernel_rfl) ?_ ?_
  · (repeat (first | exact Grew.refl _ | refine Grew.over ?_ _ | refine Grew.alloc ?_ _ | refine Grew.drew ?_ | refine Grew.drewN ?_ _))
  repeat (first
    | (refine lex_skip rfl ?_ ?_
       · exact One.keep (by decide)
       (try simp only [Act.put, List.setIfInBounds_toArray, List.set_cons_zero, List.set_cons_succ]))
    | (refine lex_pure (v := ?_) rfl ?_ (fun d w hd hr hC => ?_) ?_
       rotate_left
       · exact One.keep (by decide)
       · ((try (have hs := closed_undone (s := 11) hr.2 rfl (by decide +kernel) hd; unfold One at hC; rw [hs] at hC)); obtain ⟨x, rfl⟩ := hC; simp [go_sem, ↓IntWalk.iteOmega, ta, tb, xf, xa, lT, hgl, m0, m1, m2, hlw, hwr, hh1l, hh1]; try rfl)
       (try simp only [Act.put, List.setIfInBounds_toArray, List.set_cons_zero, List.set_cons_succ]))
    | (refine lex_call (v := ?_) (f := ?_) (args := ?_) rfl ?_ One.grew (fun d w hd hr hC => ?_) (fun d w hd hr hC => ?_) ?_
       rotate_left 3
       · exact One.keep (by decide)
       · ((try (have hs := closed_undone (s := 11) hr.2 rfl (by decide +kernel) hd; unfold One at hC; rw [hs] at hC)); obtain ⟨x, rfl⟩ := hC; simp [go_sem, ↓IntWalk.iteOmega, ta, tb, xf, xa, lT, hgl, m0, m1, m2, hlw, hwr, hh1l, hh1]; (refine ⟨?_, ?_⟩ <;> rfl))
       · ((try (have hs := closed_undone (s := 11) hr.2 rfl (by decide +kernel) hd; unfold One at hC; rw [hs] at hC)); obtain ⟨x, rfl⟩ := hC; ((go_at_call 34; exact Hd1.out _ (Hgw.out.trans ((Grew.refl _).over _)))))
       (try simp only [Act.put, List.setIfInBounds_toArray, List.set_cons_zero, List.set_cons_succ]))
    | (refine lex_store rfl (fun d w hd hr hC => ?_) ?_
       · (unfold One at hC ⊢; rw [hd] at hC; rw [mark_same]; obtain ⟨x, rfl⟩ := hC; refine ⟨?_, ?_, ?_⟩; rotate_left; (simp [go_sem, ↓IntWalk.iteOmega, ta, tb, xf, xa, lT, hgl, m0, m1, m2, hlw, hwr, hh1l, hh1]; try rfl); (simp; exact ⟨_, rfl⟩))
       (try simp only [Act.put, List.setIfInBounds_toArray, List.set_cons_zero, List.set_cons_succ])))
  refine lex_nil ?_
  intro dLx w5 hd hw5
  unfold One at hw5; rw [hd 11 (by decide)] at hw5; simp only [if_true] at hw5
  have HI5 := Lib.hid ((HI4.out.gr (Gr.setCell (ex := fun k => k = g) (i := h1) (Gr.refl _ w4) rfl (.bool true)) (fun a ha e => by
    have := Hqb.out a ha
    omega)).grew hw5)
  have HO5 := Lib.hid ((own_setB HO4.out (j := 0) rfl h1 true).grew hw5)
  have Hg5 := Lib.hid ((Hg4.out.setCell (show wB.heap.size ≤ g from Nat.le_of_eq Hgs.out) (.bool true)).trans hw5)
  clear hwr hw5 xf xa ta tb m0 m1 m2 hlw Hgw hgl lT HI4 HO4 Hg4
  go_upto_region 5 with fail
  have m0 := Hg5.out.cellEq k0
  have m1 := Hg5.out.cellEq k1
  have m2 := Hg5.out.cellEq k2
  have hlw := World.block_lt_of_cell? w5 _ m0
  dsimp only at hlw
  obtain ⟨bT, oT, e3, lT, cT⟩ := HI5.out.cells (by simp)
  have ta := cT w5 (Grew.refl _) 2 (by simp)
  have tb := cT w5 (Grew.refl _) 0 (by simp)
  cases e3
  have xf := own_fr HO5.out (j := 0) rfl h2
  have xa := own_atB HO5.out (j := 0) rfl (i := h2) hh2l
  have hgl := own_lt HO5.out (j := 0) rfl
  have Hgw : Hid (Grew w w5) := Lib.hid (HgB.out.trans Hg5.out)
  have hwr : IntKind.i64.wrap ((h2 : Int)) = (h2 : Int) := IntWalk.i64_in _ ⟨by omega, by omega⟩
  have ha1 : ((2 : Nat) : Int) < 3 := by omega
  have hb1 : ((0 : Nat) : Int) < 3 := by omega
  simp only [show ge [x0, x1, x2] 0 = x0 from rfl, show ge [x0, x1, x2] 1 = x1 from rfl, show ge [x0, x1, x2] 2 = x2 from rfl, Nat.add_zero] at ta tb
  clear cT
  refine wp_region_lex (One 11 (fun b => if b then w5.setCell ⟨g, h2, none⟩ (.bool true) else w5)) (by kernel_rfl) (by kernel_rfl) ?_ ?_
  · (repeat (first | exact Grew.refl _ | refine Grew.over ?_ _ | refine Grew.alloc ?_ _ | refine Grew.drew ?_ | refine Grew.drewN ?_ _))
  repeat (first
    | (refine lex_skip rfl ?_ ?_
       · exact One.keep (by decide)
       (try simp only [Act.put, List.setIfInBounds_toArray, List.set_cons_zero, List.set_cons_succ]))
    | (refine lex_pure (v := ?_) rfl ?_ (fun d w hd hr hC => ?_) ?_
       rotate_left
       · exact One.keep (by decide)
       · ((try (have hs := closed_undone (s := 11) hr.2 rfl (by decide +kernel) hd; unfold One at hC; rw [hs] at hC)); obtain ⟨x, rfl⟩ := hC; simp [go_sem, ↓IntWalk.iteOmega, ta, tb, xf, xa, lT, hgl, m0, m1, m2, hlw, hwr, hh2l, hh2]; try rfl)
       (try simp only [Act.put, List.setIfInBounds_toArray, List.set_cons_zero, List.set_cons_succ]))
    | (refine lex_call (v := ?_) (f := ?_) (args := ?_) rfl ?_ One.grew (fun d w hd hr hC => ?_) (fun d w hd hr hC => ?_) ?_
       rotate_left 3
       · exact One.keep (by decide)
       · ((try (have hs := closed_undone (s := 11) hr.2 rfl (by decide +kernel) hd; unfold One at hC; rw [hs] at hC)); obtain ⟨x, rfl⟩ := hC; simp [go_sem, ↓IntWalk.iteOmega, ta, tb, xf, xa, lT, hgl, m0, m1, m2, hlw, hwr, hh2l, hh2]; (refine ⟨?_, ?_⟩ <;> rfl))
       · ((try (have hs := closed_undone (s := 11) hr.2 rfl (by decide +kernel) hd; unfold One at hC; rw [hs] at hC)); obtain ⟨x, rfl⟩ := hC; ((go_at_call 34; exact Hd2.out _ (Hgw.out.trans ((Grew.refl _).over _)))))
       (try simp only [Act.put, List.setIfInBounds_toArray, List.set_cons_zero, List.set_cons_succ]))
    | (refine lex_store rfl (fun d w hd hr hC => ?_) ?_
       · (unfold One at hC ⊢; rw [hd] at hC; rw [mark_same]; obtain ⟨x, rfl⟩ := hC; refine ⟨?_, ?_, ?_⟩; rotate_left; (simp [go_sem, ↓IntWalk.iteOmega, ta, tb, xf, xa, lT, hgl, m0, m1, m2, hlw, hwr, hh2l, hh2]; try rfl); (simp; exact ⟨_, rfl⟩))
       (try simp only [Act.put, List.setIfInBounds_toArray, List.set_cons_zero, List.set_cons_succ])))
  refine lex_nil ?_
  intro dLx w6 hd hw6
  unfold One at hw6; rw [hd 11 (by decide)] at hw6; simp only [if_true] at hw6
  have HI6 := Lib.hid ((HI5.out.gr (Gr.setCell (ex := fun k => k = g) (i := h2) (Gr.refl _ w5) rfl (.bool true)) (fun a ha e => by
    have := Hqb.out a ha
    omega)).grew hw6)
  have HO6 := Lib.hid ((own_setB HO5.out (j := 0) rfl h2 true).grew hw6)
  have Hg6 := Lib.hid ((Hg5.out.setCell (show wB.heap.size ≤ g from Nat.le_of_eq Hgs.out) (.bool true)).trans hw6)
  clear hwr hw6 xf xa ta tb m0 m1 m2 hlw Hgw hgl lT HI5 HO5 Hg5
  have HW0 : Hid (WallIs nE (((List.replicate nE false).set 0 true).set h1 true |>.set h2 true) (wallT E A L v 0)) := Lib.hid (by
    rw [Hw0.out]
    exact ((((WallIs.zero nE).put hE0n).put hh1l).put hh2l))
  clear hh1 hh2 hh1l hh2l Hd0 Hd1 Hd2 HI6 Hw0 Hrts
  go_wp2
  go_loopw [9] (fun tv wk => ∃ t : Nat, t ≤ 3 ∧ tv = .int .i64 t ∧ Grew wB wk ∧ ∃ W : List Bool, WallIs nE W (wallT E A L v t) ∧ Owns wk g [rB g nE W]) (fun tv _ => 3 - (intOf tv).toNat)
  case atStart => exact ⟨0, by omega, rfl, Hg6.out.trans (by (repeat (first | exact gR _ | refine gO ?_ _ | refine gA ?_ _ | refine gD ?_ | refine gN ?_ _))), _, HW0.out, HO6.out.grew (by (repeat (first | exact gR _ | refine gO ?_ _ | refine gA ?_ _ | refine gD ?_ | refine gN ?_ _)))⟩
  case round =>
    clear Hg6 HW0 HO6
    obtain ⟨t, ht, rfl, hgk, W, hW, hO⟩ := hrel
    have Hgk := Lib.hid hgk
    have HW := Lib.hid hW
    have HO := Lib.hid hO
    have Hgw : Hid (Grew w wr) := Lib.hid (HgB.out.trans hgk)
    clear hgk hW hO
    by_cases htl : t < 3
    · have hti : (t : Int) < 3 := by omega
      have Hend : Hid (endF E A L t nA (v : Int) ∈ rts E A) := Lib.hid (by have := HAc.out t v htl (by have := HnA.out; omega); rw [HnA.out] at this; exact this)
      have m0 := Hgk.out.cellEq k0
      have m1 := Hgk.out.cellEq k1
      have m2 := Hgk.out.cellEq k2
      have hlw := World.block_lt_of_cell? wr _ m0
      dsimp only at hlw
      go_wp2_with (go_at_call 39; apply Calls.mono; (with_reducible exact Hpr.out _ _ (Hgw.out.trans (by (repeat (first | exact gR _ | refine gO ?_ _ | refine gA ?_ _ | refine gD ?_ | refine gN ?_ _)))) htl); rintro e w4 ⟨hg4, q4, c4, rfl, hI4, hf4⟩; have Hf4 := Lib.hid hf4; have HI4 := Lib.hid hI4; have Hg4r := Lib.hid ((show Grew wr _ by (repeat (first | exact gR _ | refine gO ?_ _ | refine gA ?_ _ | refine gD ?_ | refine gN ?_ _))).trans hg4); have Hg4 := Lib.hid (Hgk.out.trans Hg4r.out); clear hI4 hg4 hf4)
      have HO4 := Lib.hid (HO.out.grew Hg4r.out)
      have Hqb4 : Hid (∀ a, q4 = some a → g < a.block) := Lib.hid (fun a ha => Nat.lt_of_lt_of_le (Nat.lt_of_lt_of_le (own_lt HO.out (j := 0) rfl) (show Grew wr _ by (repeat (first | exact gR _ | refine gO ?_ _ | refine gA ?_ _ | refine gD ?_ | refine gN ?_ _))).below.size) (Hf4.out a ha))
      clear Hf4 m0 m1 m2 hlw HO Hgk Hg4r Hgw
      go_loopg [11] (nA) (fun k uv wk => ∃ u : Nat, uv = .int .i64 u ∧ u < nA ∧ endF E A L t k (u : Int) ∈ rts E A ∧ Grew wB wk ∧ Ints wk q4 (parL E A L t) ∧ ∃ (W : List Bool) (V : List Int), WallIs nE W V ∧ V ++ pathW E A L t k (u : Int) = wallT E A L v (t + 1) ∧ Owns wk g [rB g nE W])
      case atStart => exact ⟨v, rfl, hvl, Hend.out, Hg4.out.trans (by (repeat (first | exact gR _ | refine gO ?_ _ | refine gA ?_ _ | refine gD ?_ | refine gN ?_ _))), HI4.out.grew (by (repeat (first | exact gR _ | refine gO ?_ _ | refine gA ?_ _ | refine gD ?_ | refine gN ?_ _))), W, _, HW.out, by rw [← HnA.out]; rfl, HO4.out.grew (by (repeat (first | exact gR _ | refine gO ?_ _ | refine gA ?_ _ | refine gD ?_ | refine gN ?_ _)))⟩
      case round =>
        clear Hg4 HI4 HO4 HW Hend
        obtain ⟨u, rfl, hul, hend, hgk4, hI4, W4, V, hW4, hV4, hO4⟩ := hrel
        have Hgk4 := Lib.hid hgk4
        have HI4 := Lib.hid hI4
        have HW4 := Lib.hid hW4
        have HV4 := Lib.hid hV4
        have HO4 := Lib.hid hO4
        have Hend4 := Lib.hid hend
        have Hgw : Hid (Grew w wr) := Lib.hid (HgB.out.trans hgk4)
        clear hgk4 hI4 hW4 hV4 hO4 hend
        have hpl : (parL E A L t).length = A.length := by unfold parL; rw [tab_length]
        obtain ⟨bP, oP, rfl, lP, cP⟩ := HI4.out.cells (by rw [hpl, HnA.out]; omega)
        have p0 := cP wr (Grew.refl _) u (by rw [hpl, HnA.out]; exact hul)
        have hge : ge (parL E A L t) u = if (u : Int) ∈ rts E A then -1 else parF E A L t u := by
          unfold parL
          rw [ge_tab _ (by rw [HnA.out]; exact hul)]
        rw [hge] at p0
        clear cP hge hpl
        by_cases hni : (u : Int) ∈ rts E A
        · rw [if_pos hni] at p0
          have HV5 : Hid (V = wallT E A L v (t + 1)) := Lib.hid (by
            have := HV4.out
            rw [pathW_root hni, List.append_nil] at this
            exact this)
          clear hni
          go_wp2
          go_roundw
          case rel => exact ⟨t + 1, by omega, by go_num, Hgk4.out.trans (by (repeat (first | exact gR _ | refine gO ?_ _ | refine gA ?_ _ | refine gD ?_ | refine gN ?_ _))), W4, by rw [← HV5.out]; exact HW4.out, HO4.out.grew (by (repeat (first | exact gR _ | refine gO ?_ _ | refine gA ?_ _ | refine gD ?_ | refine gN ?_ _)))⟩
          case measure => (simp [intOf] <;> omega)
        · rw [if_neg hni] at p0
          obtain ⟨k', hk'⟩ : ∃ k', gk = k' + 1 := by
            cases gk with
            | zero => exact absurd Hend4.out hni
            | succ n => exact ⟨n, rfl⟩
          subst hk'
          have hup := up_dart HT.out HS.out (v := u) (t := t) (by have := HnA.out; omega) hni htl
          obtain ⟨d, hd⟩ : ∃ d : Nat, upF A L t u = (d : Int) := ⟨(upF A L t u).toNat, by have := hup.1.1; omega⟩
          have hd2 : d < 2 * nE := by have := hup.1.2; have := HnE.out; omega
          have hhr := head_in HV.out hup.1.oth
          obtain ⟨u', hu'⟩ : ∃ u' : Nat, tailE E (oth (d : Int)) = (u' : Int) := ⟨(tailE E (oth (d : Int))).toNat, by rw [hd] at hhr; omega⟩
          have hu'l : u' < nA := by rw [hd, hu'] at hhr; have := HnA.out; omega
          have hpar : parF E A L t u = (u' : Int) := by unfold parF; rw [hd, hu']
          rw [hpar] at p0
          have Hdd : Hid (∀ W1, Grew w W1 → Calls Tryd.prog 34 #[.agg #[.int .i64 nA, .slice pE nE cE, .slice pA nA cA], .int .i64 (u : Int), .int .i64 (u' : Int)] W1 fun e w' => e = .returned (.int .i64 (d : Int)) ∧ Grew W1 w') := Lib.hid (fun W1 h => Hdt.out d _ _ W1 h hd2 (by rw [← hd]; exact hup.2) hu')
          have Hend5 : Hid (endF E A L t k' (u' : Int) ∈ rts E A) := Lib.hid (by
            have := Hend4.out
            unfold endF at this
            rw [if_neg hni, hpar] at this
            exact this)
          obtain ⟨hf, hhf⟩ : ∃ hf : Nat, (d : Int) / 2 = (hf : Int) := ⟨d / 2, by omega⟩
          have hfl : hf < nE := by omega
          have HV5 : Hid ((V ++ [(hf : Int)]) ++ pathW E A L t k' (u' : Int) = wallT E A L v (t + 1)) := Lib.hid (by
            have := HV4.out
            unfold pathW at this
            rw [if_neg hni, hpar, hd, hhf] at this
            rw [← this]; simp)
          have xf := own_fr HO4.out (j := 0) rfl hf
          have xa := own_atB HO4.out (j := 0) rfl (i := hf) hfl
          have hgl := own_lt HO4.out (j := 0) rfl
          have m0 := Hgk4.out.cellEq k0
          have m1 := Hgk4.out.cellEq k1
          have m2 := Hgk4.out.cellEq k2
          have hlw := World.block_lt_of_cell? wr _ m0
          dsimp only at hlw
          have hwr : IntKind.i64.wrap (hf : Int) = (hf : Int) := IntWalk.i64_in _ ⟨by omega, by omega⟩
          have hui : (u : Int) < (nA : Int) := by omega
          have hfi : (hf : Int) < (nE : Int) := by omega
          clear hni hup hd hhr hu' hpar
          go_upto_region 12 with fail
          refine wp_region_lex (One 10 (fun b => if b then wr.setCell ⟨g, hf, none⟩ (.bool true) else wr)) (by kernel_rfl) (by kernel_rfl) ?_ ?_
          · (repeat (first | exact Grew.refl _ | refine Grew.over ?_ _ | refine Grew.alloc ?_ _ | refine Grew.drew ?_ | refine Grew.drewN ?_ _))
          repeat (first
            | (refine lex_skip rfl ?_ ?_
               · exact One.keep (by decide)
               (try simp only [Act.put, List.setIfInBounds_toArray, List.set_cons_zero, List.set_cons_succ]))
            | (refine lex_pure (v := ?_) rfl ?_ (fun d w hd hr hC => ?_) ?_
               rotate_left
               · exact One.keep (by decide)
               · ((try (have hs := closed_undone (s := 10) hr.2 rfl (by decide +kernel) hd; unfold One at hC; rw [hs] at hC)); obtain ⟨x, rfl⟩ := hC; simp [go_sem, ↓IntWalk.iteOmega, p0, xf, xa, lP, hgl, m0, m1, m2, hlw, hwr, hhf, hfl]; try rfl)
               (try simp only [Act.put, List.setIfInBounds_toArray, List.set_cons_zero, List.set_cons_succ]))
            | (refine lex_call (v := ?_) (f := ?_) (args := ?_) rfl ?_ One.grew (fun d w hd hr hC => ?_) (fun d w hd hr hC => ?_) ?_
               rotate_left 3
               · exact One.keep (by decide)
               · ((try (have hs := closed_undone (s := 10) hr.2 rfl (by decide +kernel) hd; unfold One at hC; rw [hs] at hC)); obtain ⟨x, rfl⟩ := hC; simp [go_sem, ↓IntWalk.iteOmega, p0, xf, xa, lP, hgl, m0, m1, m2, hlw, hwr, hhf, hfl]; (refine ⟨?_, ?_⟩ <;> rfl))
               · ((try (have hs := closed_undone (s := 10) hr.2 rfl (by decide +kernel) hd; unfold One at hC; rw [hs] at hC)); obtain ⟨x, rfl⟩ := hC; ((go_at_call 34; exact Hdd.out _ (Hgw.out.trans ((Grew.refl _).over _)))))
               (try simp only [Act.put, List.setIfInBounds_toArray, List.set_cons_zero, List.set_cons_succ]))
            | (refine lex_store rfl (fun d w hd hr hC => ?_) ?_
               · (unfold One at hC ⊢; rw [hd] at hC; rw [mark_same]; obtain ⟨x, rfl⟩ := hC; refine ⟨?_, ?_, ?_⟩; rotate_left; (simp [go_sem, ↓IntWalk.iteOmega, p0, xf, xa, lP, hgl, m0, m1, m2, hlw, hwr, hhf, hfl]; try rfl); (simp; exact ⟨_, rfl⟩))
               (try simp only [Act.put, List.setIfInBounds_toArray, List.set_cons_zero, List.set_cons_succ])))
          refine lex_nil ?_
          intro dLx w5 hd hw5
          unfold One at hw5; rw [hd 10 (by decide)] at hw5; simp only [if_true] at hw5
          have HI5 := Lib.hid ((HI4.out.gr (Gr.setCell (ex := fun k => k = g) (i := hf) (Gr.refl _ wr) rfl (.bool true)) (fun a ha e => by
            have := Hqb4.out a ha
            omega)).grew hw5)
          have p5 := hw5.cellEq ((Gr.setCell (ex := fun k => k = g) (i := hf) (Gr.refl _ wr) rfl (.bool true)).cellEq (fun e => by have := Hqb4.out _ rfl; dsimp only at this e; omega) p0)
          have HO5 := Lib.hid ((own_setB HO4.out (j := 0) rfl hf true).grew hw5)
          have Hg5 := Lib.hid ((Hgk4.out.setCell (show wB.heap.size ≤ g from Nat.le_of_eq Hgs.out) (.bool true)).trans hw5)
          clear hw5 xf xa m0 m1 m2 hlw Hgw hgl lP p0 hhf
          go_wp2
          go_roundg k'
          case rel => exact ⟨u', rfl, hu'l, Hend5.out, Hg5.out.trans (by (repeat (first | exact gR _ | refine gO ?_ _ | refine gA ?_ _ | refine gD ?_ | refine gN ?_ _))), HI5.out.grew (by (repeat (first | exact gR _ | refine gO ?_ _ | refine gA ?_ _ | refine gD ?_ | refine gN ?_ _))), W4.set hf true, V ++ [(hf : Int)], HW4.out.put hfl, HV5.out, HO5.out.grew (by (repeat (first | exact gR _ | refine gO ?_ _ | refine gA ?_ _ | refine gD ?_ | refine gN ?_ _)))⟩
          case measure => omega
    · have Hte : Hid (t = 3) := Lib.hid (by omega)
      have HWw : Hid (WallIs nE W (wallF E A L v)) := Lib.hid (by unfold wallF; rw [← Hte.out]; exact HW.out)
      have hti : ¬ (t : Int) < 3 := by omega
      go_wp2
      go_ret
      exact ⟨Hgw.out.trans (by (repeat (first | exact gR _ | refine gO ?_ _ | refine gA ?_ _ | refine gD ?_ | refine gN ?_ _))), _, rfl, by have := Hgs.out; have := HsB.out; omega, W, HO.out.grew (by (repeat (first | exact gR _ | refine gO ?_ _ | refine gA ?_ _ | refine gD ?_ | refine gN ?_ _))), HWw.out⟩
end Go.Proofs.YtlealdicoceekaaDoor

/- Rounds of flooding, plain. -/
namespace Go.Proofs.YtlealdicoceekaaDoor
open Go.RowKit

def flE (W : List Bool) (X : List Int) (I : List Bool) (i : Nat) : List Bool :=
  if gb W i = false ∧ (gb I (ge X (2 * i)).toNat = true ∨ gb I (ge X (2 * i + 1)).toNat = true) then (I.set (ge X (2 * i)).toNat true).set (ge X (2 * i + 1)).toNat true else I
def flR (W : List Bool) (X : List Int) : Nat → List Bool → List Bool
  | 0, I => I
  | k + 1, I => flE W X (flR W X k I) k
def flN (W : List Bool) (X : List Int) (n : Nat) : Nat → List Bool → List Bool
  | 0, I => I
  | k + 1, I => flR W X n (flN W X n k I)
def cntT (I : List Bool) : Nat → Nat
  | 0 => 0
  | k + 1 => if gb I k = true then cntT I k + 1 else cntT I k
theorem flE_len (W : List Bool) (X : List Int) (I : List Bool) (i : Nat) : (flE W X I i).length = I.length := by
  unfold flE
  split
  · rw [List.length_set, List.length_set]
  · rfl
theorem flR_len (W : List Bool) (X : List Int) : ∀ k I, (flR W X k I).length = I.length
  | 0, I => rfl
  | k + 1, I => by unfold flR; rw [flE_len, flR_len]
theorem flN_len (W : List Bool) (X : List Int) (n : Nat) : ∀ k I, (flN W X n k I).length = I.length
  | 0, I => rfl
  | k + 1, I => by unfold flN; rw [flR_len, flN_len]
theorem gb_set2 {I : List Bool} {i j : Nat} (hj : j < I.length) : gb (I.set i true) j = true ↔ j = i ∨ gb I j = true := by
  by_cases hi : i < I.length
  · rw [gb_set _ hi]
    split
    · rename_i e; simp [e]
    · rename_i e; simp [e]
  · rw [List.set_eq_of_length_le (by omega)]
    constructor
    · exact .inr
    · rintro (e | e)
      · omega
      · exact e
theorem set_self {I : List Bool} {i : Nat} (h : gb I i = true) : I.set i true = I := by
  refine List.ext_getElem (by rw [List.length_set]) fun j h1 h2 => ?_
  rw [List.getElem_set]
  split
  · rename_i e
    subst e
    rw [← gb_eq I h2, h]
  · rfl
section
variable {W : List Bool} {X : List Int} {I : List Bool} {F n : Nat}
theorem flE_mono {i f : Nat} (h : gb I f = true) (hf : f < I.length) : gb (flE W X I i) f = true := by
  unfold flE
  split
  · rw [gb_set2 (by rw [List.length_set]; exact hf), gb_set2 hf]
    exact .inr (.inr h)
  · exact h
theorem flR_mono {f : Nat} (h : gb I f = true) (hf : f < I.length) : ∀ k, gb (flR W X k I) f = true
  | 0 => h
  | k + 1 => flE_mono (flR_mono h hf k) (by rw [flR_len]; exact hf)
theorem flR_more {f : Nat} (hf : f < I.length) {k : Nat} : ∀ m, k ≤ m → gb (flR W X k I) f = true → gb (flR W X m I) f = true
  | 0, h, h2 => by
    obtain rfl : k = 0 := by omega
    exact h2
  | m + 1, h, h2 => by
    by_cases e : k = m + 1
    · rw [← e]; exact h2
    · exact flE_mono (flR_more hf m (by omega) h2) (by rw [flR_len]; exact hf)
/-- Both sides of an edge that is no wall are in, or none. -/
def ClosedF (W : List Bool) (X : List Int) (n : Nat) (I : List Bool) : Prop := ∀ i, i < n → gb W i = false → (gb I (ge X (2 * i)).toNat = true ↔ gb I (ge X (2 * i + 1)).toNat = true)
theorem closed_same (h : ClosedF W X n I) : ∀ k, k ≤ n → flR W X k I = I
  | 0, _ => rfl
  | k + 1, hk => by
    unfold flR
    rw [closed_same h k (by omega)]
    unfold flE
    split
    · rename_i e
      have hc := h k (by omega) e.1
      have h1 : gb I (ge X (2 * k)).toNat = true := e.2.elim id hc.2
      rw [set_self h1, set_self (hc.1 h1)]
    · rfl
theorem cnt_le (I : List Bool) : ∀ k, cntT I k ≤ k
  | 0 => Nat.le_refl _
  | k + 1 => by
    have := cnt_le I k
    unfold cntT
    split <;> omega
theorem cnt_mono {J : List Bool} : ∀ k, (∀ f, f < k → gb I f = true → gb J f = true) → cntT I k ≤ cntT J k
  | 0, _ => Nat.le_refl _
  | k + 1, h => by
    have := cnt_mono k (fun f hf => h f (by omega))
    unfold cntT
    split
    · rename_i e
      rw [if_pos (h k (by omega) e)]
      omega
    · split <;> omega
theorem cnt_strict {J : List Bool} {f : Nat} (h1 : gb I f ≠ true) (h2 : gb J f = true) : ∀ k, f < k → (∀ f, f < k → gb I f = true → gb J f = true) → cntT I k + 1 ≤ cntT J k
  | 0, hf, _ => by omega
  | k + 1, hf, h => by
    unfold cntT
    by_cases e : f = k
    · subst e
      rw [if_neg h1, if_pos h2]
      have := cnt_mono f (fun j hj => h j (by omega))
      omega
    · have := cnt_strict h1 h2 k (by omega) (fun j hj => h j (by omega))
      split
      · rename_i e2
        rw [if_pos (h k (by omega) e2)]
        omega
      · split <;> omega
theorem round_grows (hI : I.length = F) (hX : ∀ i, i < n → (ge X (2 * i)).toNat < F ∧ (ge X (2 * i + 1)).toNat < F) (h : ¬ ClosedF W X n I) : cntT I F + 1 ≤ cntT (flR W X n I) F := by
  have : ∃ i, i < n ∧ gb W i = false ∧ ¬ (gb I (ge X (2 * i)).toNat = true ↔ gb I (ge X (2 * i + 1)).toNat = true) := by
    refine Classical.byContradiction fun hn => h fun i hi hw => Classical.byContradiction fun k => hn ⟨i, hi, hw, k⟩
  obtain ⟨i, hi, hw, hne⟩ := this
  obtain ⟨hx, hy⟩ := hX i hi
  have hor : gb I (ge X (2 * i)).toNat = true ∨ gb I (ge X (2 * i + 1)).toNat = true := by
    by_cases a : gb I (ge X (2 * i)).toNat = true
    · exact .inl a
    · by_cases b : gb I (ge X (2 * i + 1)).toNat = true
      · exact .inr b
      · exact absurd ⟨fun h => absurd h a, fun h => absurd h b⟩ hne
  have hst : gb (flR W X (i + 1) I) (ge X (2 * i)).toNat = true ∧ gb (flR W X (i + 1) I) (ge X (2 * i + 1)).toNat = true := by
    have hl := flR_len W X i I
    show gb (flE W X (flR W X i I) i) _ = true ∧ gb (flE W X (flR W X i I) i) _ = true
    unfold flE
    rw [if_pos ⟨hw, hor.imp (fun h => flR_mono h (by omega) i) (fun h => flR_mono h (by omega) i)⟩]
    constructor
    · rw [gb_set2 (by rw [List.length_set]; omega), gb_set2 (by omega)]
      exact .inr (.inl rfl)
    · rw [gb_set2 (by rw [List.length_set]; omega)]
      exact .inl rfl
  have hm : ∀ f, f < F → gb I f = true → gb (flR W X n I) f = true := fun f hf h => flR_mono h (by omega) n
  have h1 := flR_more (I := I) (f := (ge X (2 * i)).toNat) (W := W) (X := X) (k := i + 1) (by omega) n (by omega) hst.1
  have h2 := flR_more (I := I) (f := (ge X (2 * i + 1)).toNat) (W := W) (X := X) (k := i + 1) (by omega) n (by omega) hst.2
  by_cases a : gb I (ge X (2 * i)).toNat = true
  · by_cases b : gb I (ge X (2 * i + 1)).toNat = true
    · exact absurd ⟨fun _ => b, fun _ => a⟩ hne
    · exact cnt_strict b h2 F hy hm
  · exact cnt_strict a h1 F hx hm
theorem rounds (hI : I.length = F) (hX : ∀ i, i < n → (ge X (2 * i)).toNat < F ∧ (ge X (2 * i + 1)).toNat < F) (h1 : 1 ≤ cntT I F) : ∀ k, ClosedF W X n (flN W X n k I) ∨ k + 1 ≤ cntT (flN W X n k I) F
  | 0 => .inr h1
  | k + 1 => by
    show ClosedF W X n (flR W X n (flN W X n k I)) ∨ _ ≤ cntT (flR W X n (flN W X n k I)) F
    by_cases hc : ClosedF W X n (flN W X n k I)
    · rw [closed_same hc n (Nat.le_refl _)]
      exact .inl hc
    · have := round_grows (by rw [flN_len]; exact hI) hX hc
      have := (rounds hI hX h1 k).resolve_left hc
      exact .inr (by omega)
/-- What is in is reached. -/
def SoundF (R : Int → Int → Prop) (a : Int) (I : List Bool) : Prop := ∀ f : Nat, f < I.length → gb I f = true → Rc R a f
variable {Wl : List Int} {a : Int}
theorem flE_sound (hW : WallIs n W Wl) (hX : ∀ d, d < 2 * n → 0 ≤ ge X d) {i : Nat} (hi : i < n) (hxl : (ge X (2 * i)).toNat < I.length ∧ (ge X (2 * i + 1)).toNat < I.length) (h : SoundF (edgR (2 * n) X Wl) a I) : SoundF (edgR (2 * n) X Wl) a (flE W X I i) := by
  intro f hf hg
  rw [flE_len] at hf
  unfold flE at hg
  split at hg
  · rename_i e
    have hx0 := hX (2 * i) (by omega)
    have hy0 := hX (2 * i + 1) (by omega)
    have hnw : (i : Int) ∉ Wl := by have := hW.2 i hi; rw [e.1] at this; exact of_decide_eq_false this.symm
    have r1 : edgR (2 * n) X Wl (ge X (2 * i)) (ge X (2 * i + 1)) := ⟨2 * i, by omega, rfl, by rw [show ((2 * i : Nat) : Int) / 2 = i by omega]; exact hnw, by
      have := oth_even i
      rw [show ((2 * i : Nat) : Int) = 2 * (i : Int) by push_cast; rfl, this]
      congr 1⟩
    have r2 : edgR (2 * n) X Wl (ge X (2 * i + 1)) (ge X (2 * i)) := ⟨2 * i + 1, by omega, rfl, by rw [show ((2 * i + 1 : Nat) : Int) / 2 = i by omega]; exact hnw, by
      have := oth_odd i
      rw [show ((2 * i + 1 : Nat) : Int) = 2 * (i : Int) + 1 by push_cast; rfl, this]
      congr 1⟩
    have hx : Rc (edgR (2 * n) X Wl) a (ge X (2 * i)) ∧ Rc (edgR (2 * n) X Wl) a (ge X (2 * i + 1)) := by
      rcases e.2 with k | k
      · have := h _ hxl.1 k
        rw [Int.toNat_of_nonneg hx0] at this
        exact ⟨this, this.step r1⟩
      · have := h _ hxl.2 k
        rw [Int.toNat_of_nonneg hy0] at this
        exact ⟨this.step r2, this⟩
    rw [gb_set2 (by rw [List.length_set]; exact hf), gb_set2 hf] at hg
    rcases hg with rfl | rfl | hg
    · rw [Int.toNat_of_nonneg hy0]; exact hx.2
    · rw [Int.toNat_of_nonneg hx0]; exact hx.1
    · exact h f hf hg
  · exact h f hf hg
theorem flR_sound (hW : WallIs n W Wl) (hX : ∀ d, d < 2 * n → 0 ≤ ge X d) (hxl : ∀ i, i < n → (ge X (2 * i)).toNat < I.length ∧ (ge X (2 * i + 1)).toNat < I.length) (h : SoundF (edgR (2 * n) X Wl) a I) : ∀ k, k ≤ n → SoundF (edgR (2 * n) X Wl) a (flR W X k I)
  | 0, _ => h
  | k + 1, hk => flE_sound hW hX (by omega) (by rw [flR_len]; exact hxl k (by omega)) (flR_sound hW hX hxl h k (by omega))
theorem flN_sound (hW : WallIs n W Wl) (hX : ∀ d, d < 2 * n → 0 ≤ ge X d) (hxl : ∀ i, i < n → (ge X (2 * i)).toNat < I.length ∧ (ge X (2 * i + 1)).toNat < I.length) (h : SoundF (edgR (2 * n) X Wl) a I) : ∀ k, SoundF (edgR (2 * n) X Wl) a (flN W X n k I)
  | 0 => h
  | k + 1 => flR_sound hW hX (by rw [flN_len]; exact hxl) (flN_sound hW hX hxl h k) n (Nat.le_refl _)
theorem cnt_filter {p : Int → Prop} [DecidablePred p] : ∀ k, (∀ f : Nat, f < k → (gb I f = true ↔ p f)) → cntT I k = ((idL k).filter fun f => decide (p f)).length
  | 0, _ => rfl
  | k + 1, h => by
    rw [idL_succ, List.filter_append, List.length_append, ← cnt_filter k (fun f hf => h f (by omega))]
    have hk := h k (by omega)
    show (if gb I k = true then cntT I k + 1 else cntT I k) = _
    by_cases e : gb I k = true
    · rw [if_pos e, List.filter_cons_of_pos (by simpa using hk.1 e)]
      rfl
    · rw [if_neg e, List.filter_cons_of_neg (by simpa using fun h => e (hk.2 h))]
      rfl
theorem cnt_has {f : Nat} (h : gb I f = true) : ∀ k, f < k → 1 ≤ cntT I k
  | 0, hf => by omega
  | k + 1, hf => by
    unfold cntT
    by_cases e : f = k
    · rw [← e, if_pos h]; omega
    · have := cnt_has h k (by omega)
      split <;> omega
/-- After as many rounds as there are faces all that are reached are counted. -/
theorem flood_count (hW : WallIs n W Wl) (hX : ∀ d, d < 2 * n → 0 ≤ ge X d ∧ ge X d < (F : Int)) (ha : 0 ≤ a ∧ a < (F : Int)) :
    cntT (flN W X n F ((List.replicate F false).set a.toNat true)) F = regN (edgR (2 * n) X Wl) F a := by
  obtain ⟨I0, hI0⟩ : ∃ I0, (List.replicate F false).set a.toNat true = I0 := ⟨_, rfl⟩
  rw [hI0]
  have hl : I0.length = F := by rw [← hI0]; simp
  have hXn : ∀ i, i < n → (ge X (2 * i)).toNat < F ∧ (ge X (2 * i + 1)).toNat < F := fun i hi => by
    have := hX (2 * i) (by omega)
    have := hX (2 * i + 1) (by omega)
    omega
  have hg0 : ∀ f, f < F → (gb I0 f = true ↔ f = a.toNat) := fun f hf => by
    rw [← hI0, gb_set2 (by simpa using hf)]
    constructor
    · rintro (h | h)
      · exact h
      · simp [gb, hf] at h
    · exact .inl
  have hs0 : SoundF (edgR (2 * n) X Wl) a I0 := fun f hf hg => by
    rw [hl] at hf
    rw [(hg0 f hf).1 hg, Int.toNat_of_nonneg ha.1]
    exact .refl
  have hsN := flN_sound hW (fun d hd => (hX d hd).1) (by rw [hl]; exact hXn) hs0 F
  have hc : ClosedF W X n (flN W X n F I0) := by
    rcases rounds (W := W) hl hXn (cnt_has (f := a.toNat) ((hg0 _ (by omega)).2 rfl) F (by omega)) F with h | h
    · exact h
    · have := cnt_le (flN W X n F I0) F
      omega
  have hmono : ∀ k f, f < F → gb I0 f = true → gb (flN W X n k I0) f = true := by
    intro k f hf h
    induction k with
    | zero => exact h
    | succ k ih => exact flR_mono ih (by rw [flN_len, hl]; exact hf) n
  have hall : ∀ x, Rc (edgR (2 * n) X Wl) a x → gb (flN W X n F I0) x.toNat = true := fun x hx => by
    induction hx with
    | refl => exact hmono F _ (by omega) ((hg0 _ (by omega)).2 rfl)
    | step h1 hr ih =>
      obtain ⟨d, hd, e1, hw, e2⟩ := hr
      have hwn : gb W (d / 2) = false := by
        rw [hW.2 _ (by omega)]
        exact decide_eq_false (by rw [show ((d / 2 : Nat) : Int) = (d : Int) / 2 by omega]; exact hw)
      have hcl := hc (d / 2) (by omega) hwn
      rcases Nat.mod_two_eq_zero_or_one d with hm | hm
      · have a1 : 2 * (d / 2) = d := by omega
        have a2 : (oth (d : Int)).toNat = d + 1 := by
          have := oth_even (d / 2)
          rw [show 2 * ((d / 2 : Nat) : Int) = (d : Int) by omega] at this
          omega
        rw [a1] at hcl
        rw [← e2, a2]
        rw [← e1] at ih
        exact hcl.1 ih
      · have a1 : 2 * (d / 2) + 1 = d := by omega
        have a2 : (oth (d : Int)).toNat = 2 * (d / 2) := by
          have := oth_odd (d / 2)
          rw [show 2 * ((d / 2 : Nat) : Int) + 1 = (d : Int) by omega] at this
          omega
        rw [a1] at hcl
        rw [← e2, a2]
        rw [← e1] at ih
        exact hcl.2 ih
  unfold regN
  refine @cnt_filter _ _ (fun _ => Classical.propDecidable _) F fun f hf => ⟨fun h => hsN f (by rw [flN_len, hl]; exact hf) h, fun h => ?_⟩
  have := hall f h
  rwa [Int.toNat_natCast] at this
end
section
variable {N : Int} {E : List (Int × Int)} {A : List (List Int)}
/-- A dart and the next one lie in one face. -/
theorem face_next (hV : vRot N E A) {d d' : Nat} (hd : d < 2 * E.length) (hd' : d' < 2 * E.length) (h : nxF A d = d') : ge (faceL N E A) d' = ge (faceL N E A) d := by
  have hO := facs_ok hV
  have hD := fac_dec hV
  have hF : facesO N E A = facesF A (2 * E.length) := by unfold facesO; rw [if_pos (vRotB_iff.2 hV)]
  rw [← hF] at hD
  unfold faceL
  rw [ge_tab _ hd, ge_tab _ hd']
  obtain ⟨F, hFe⟩ : ∃ F, facesO N E A = F := ⟨_, rfl⟩
  rw [hFe] at hO hD ⊢
  have key : ∀ (x : Int) i, i < F.length → x ∈ rowOf F i → fcI F x = i := fun x i hi hx => by
    unfold fcI
    refine (List.findIdx_eq hi).2 ⟨by rw [← rowOf_eq F hi]; exact decide_eq_true hx, fun j hj => ?_⟩
    rw [← rowOf_eq F (by omega)]
    exact decide_eq_false (fun k => by have := hO.dis i j hi (by omega) _ hx k; omega)
  obtain ⟨i, hi, hd2⟩ := hO.cov d (by omega) (by omega)
  have hm : (d' : Int) ∈ rowOf F i := by
    rw [← h]
    exact (hD.cyc _ (by rw [rowOf_eq F hi]; exact List.getElem_mem hi)).img hd2
  rw [key _ i hi hd2, key _ i hi hm]
end
end Go.Proofs.YtlealdicoceekaaDoor
