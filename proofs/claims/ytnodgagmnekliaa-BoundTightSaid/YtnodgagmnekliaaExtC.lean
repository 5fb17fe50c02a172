/- Branch and bound: extend where elements are left. -/
import Derived.Test.YtnodgagmnekliaaExtB
set_option linter.unusedSimpArgs false
set_option linter.unusedVariables false
namespace Go.Proofs.Ytnodgagmnekliaa
open Go.RowKit

/-- The elements before t other than j and those of the order. -/
def oth (ord : List Int) (j t : Nat) : List Nat := (List.range t).filter fun u => u != j && !(natL ord).contains u
theorem oth_succ (ord : List Int) (j t : Nat) : oth ord j (t + 1) = if (t != j && !(natL ord).contains t) = true then oth ord j t ++ [t] else oth ord j t := by
  unfold oth
  rw [List.range_succ, List.filter_append]
  split <;> rename_i h
  · rw [List.filter_cons, if_pos h]
    rfl
  · rw [List.filter_cons, if_neg h]
    simp
theorem oth_all (ord : List Int) (j n : Nat) : oth ord j n = (left n (natL ord)).filter (· != j) := by
  unfold oth left
  rw [List.filter_filter]

theorem oth_bd (ord : List Int) {j n t : Nat} (hn : n ≤ 8) (ht : t ≤ n) {f : Nat → Int} (hf : ∀ u, u < n → 0 ≤ f u ∧ f u ≤ 1000000) : 0 ≤ sumL f (oth ord j t) ∧ sumL f (oth ord j t) ≤ 8000000 := by
  have key : ∀ t, t ≤ n → 0 ≤ sumL f (oth ord j t) ∧ sumL f (oth ord j t) ≤ 1000000 * (t : Int) := by
    intro t
    induction t with
    | zero => intro _; exact ⟨Int.le_refl _, Int.le_refl _⟩
    | succ t ih =>
      intro h
      have h1 := ih (by omega)
      have h2 := hf t (by omega)
      rw [oth_succ]
      split
      · rw [sumL_append]
        simp only [sumL]
        omega
      · omega
  have := key t ht
  omega

theorem contains_e {p : Option Addr} {n cap : Nat} {xs : List Int} {v : Int} {w : World} {b : Bool} (hb : decide (v ∈ xs) = b) (hI : Ints w p xs) (hn : xs.length = n) :
    Calls Try.prog 28 #[.slice p n cap, .int .i64 v] w fun e w' => e = .returned (.bool b) ∧ w = w' := by
  subst hb
  exact contains_p _ _ _ _ _ _ hI hn

/-- The order grown by one element, laid back into its field. -/
theorem SOK.push {wr wa w1 : World} {S n : Nat} {ms vo vb v1 : Value} {ord : List Int} {y least : Int} {st : Option (List Nat × Int)}
    (hh : wr.heap[S]? = some (.cells #[ms, vo, vb, .int .i64 least] 41 (0, 0))) (hown : Own wr (S + 1) vo ord) (hsep : ∀ g, vo.ownBlock = some g → vb.ownBlock ≠ some g)
    (hbest : (st = none ∧ vb = .slice none 0 0 ∧ least = 0) ∨ ∃ o c, st = some (o, c) ∧ 0 ≤ c ∧ c ≤ 64000000 ∧ Own wr (S + 1) vb (intL o) ∧ (vb ≠ .slice none 0 0 ∨ n = 0) ∧ least = c)
    (hga : Grew wr wa) (hgb : wa.grownBy w1 vo.ownBlock) (hown1 : Own w1 (S + 1) v1 (ord ++ [y])) (hsp : ∀ g, v1.ownBlock = some g → vo.ownBlock = some g ∨ wa.heap.size ≤ g) :
    w1.heap[S]? = some (.cells #[ms, vo, vb, .int .i64 least] 41 (0, 0)) ∧ SOK (w1.setCell ⟨S, 1, none⟩ v1) S ms n (ord ++ [y]) st := by
  have hS := lt_of_heap hh
  have hsz := hga.below.size
  have h1 : w1.heap[S]? = some (.cells #[ms, vo, vb, .int .i64 least] 41 (0, 0)) := by
    rw [hgb.block S (by omega) (fun e => by have := (hown.lt S e.symm).1; omega), hga.below.block S hS]
    exact hh
  refine ⟨h1, v1, vb, least, ?_, hown1.setCell (Nat.lt_succ_self S), ?_, ?_⟩
  · rw [heap_setCell_same h1 1]
    simp
  · intro g e1 e2
    rcases hsp g e1 with h | h
    · exact hsep g h e2
    · rcases hbest with ⟨_, rfl, _⟩ | ⟨o, c, _, _, _, hob, _, _⟩
      · simp [Value.ownBlock] at e2
      · have := (hob.lt g e2).2
        omega
  · rcases hbest with hb | ⟨o, c, e, b1, b2, hob, hn, hl⟩
    · exact Or.inl hb
    · refine Or.inr ⟨o, c, e, b1, b2, ((hob.grew hga).far hgb ?_).setCell (Nat.lt_succ_self S), hn, hl⟩
      cases hvb : vb.ownBlock with
      | none => exact Or.inl rfl
      | some g => exact Or.inr fun e => hsep g e.symm hvb

/-- The order cut by its last element. -/
theorem SOK.pop {w2 W : World} {S n g cap : Nat} {ms vb : Value} {ord : List Int} {least : Int} {st : Option (List Nat × Int)}
    (hh : w2.heap[S]? = some (.cells #[ms, .slice (some ⟨g, 0, none⟩) (ord.length + 1) cap, vb, .int .i64 least] 41 (0, 0))) (hown : Own w2 (S + 1) (.slice (some ⟨g, 0, none⟩) ord.length cap) ord)
    (hsep : ∀ g', (Value.slice (some ⟨g, 0, none⟩) (ord.length + 1) cap).ownBlock = some g' → vb.ownBlock ≠ some g')
    (hbest : (st = none ∧ vb = .slice none 0 0 ∧ least = 0) ∨ ∃ o c, st = some (o, c) ∧ 0 ≤ c ∧ c ≤ 64000000 ∧ Own w2 (S + 1) vb (intL o) ∧ (vb ≠ .slice none 0 0 ∨ n = 0) ∧ least = c)
    (hW : Grew (w2.setCell ⟨S, 1, none⟩ (.slice (some ⟨g, 0, none⟩) ord.length cap)) W) : SOK W S ms n ord st := by
  refine SOK.grew ?_ hW
  refine ⟨.slice (some ⟨g, 0, none⟩) ord.length cap, vb, least, ?_, hown.setCell (Nat.lt_succ_self S), hsep, ?_⟩
  · rw [heap_setCell_same hh 1]
    simp
  · rcases hbest with hb | ⟨o, c, e, b1, b2, hob, hn, hl⟩
    · exact Or.inl hb
    · exact Or.inr ⟨o, c, e, b1, b2, hob.setCell (Nat.lt_succ_self S), hn, hl⟩

theorem min_spell (a b : Int) : (if b < a then b else a) = min a b := by
  simp only [Int.min_def]
  split <;> split <;> omega

set_option maxRecDepth 4000 in
set_option maxHeartbeats 16000000 in
theorem extend_succ (m : List (List Int)) (hV : vMat m) (w0 : World) (p : Option Addr) (cp : Nat) (hM : Mat w0 p m) (k : Nat) (ih : ExtAll m w0 p cp k) : ExtAll m w0 p cp (k + 1) := by
  have h8 := hV.1
  have HV := Lib.hid hV
  have HM := Lib.hid hM
  unfold ExtAll at ih
  have Hih := Lib.hid ih
  clear hV hM ih
  intro ord st cost rest w hg hS hr hk hlen hcost hrest hst
  have hbd := fix_bd HV.out (l := natL ord) (fun x hx => by
    obtain ⟨y, hy, rfl⟩ := List.mem_map.1 hx
    have := hr y hy
    omega) (by rw [hk, natL_length]; exact hlen)
  rw [← hcost, ← hrest] at hbd
  by_cases hp : ∃ o c, st = some (o, c) ∧ c ≤ cost + rest
  · obtain ⟨o, c, rfl, hp⟩ := hp
    exact extend_prune m h8 w0 p cp (k + 1) ord o c cost rest w hg hS hbd.1 hbd.2 (hst.resolve_left (by simp)) hp (prune_ok hk (by rw [← hcost, ← hrest]; exact hp))
  obtain ⟨⟨bd1, bd2⟩, bd3, bd4⟩ := hbd
  have HS := Lib.hid hS
  have Hr := Lib.hid hr
  have Hk := Lib.hid hk
  have Hcost := Lib.hid hcost
  have Hrest := Lib.hid hrest
  have hl1 : ((ord.length : Int) == (m.length : Int)) = false := by rw [beq_eq_false_iff_ne]; omega
  have hl8 : ord.length < m.length := by omega
  have Hlen := Lib.hid hlen
  obtain ⟨vo, vb, least, hh, hown, hsep, hbest⟩ := hS
  obtain ⟨q, cq, rfl, hcq, hqn, hI⟩ := hown.ints (Own.wf h8 hr)
  have c0 := cell_of_heap hh 0
  have c1 := cell_of_heap hh 1
  have c2 := cell_of_heap hh 2
  have c3 := cell_of_heap hh 3
  have hlt := lt_of_heap hh
  simp at c0 c1 c2 c3
  clear hh hown hsep hI hcost hrest hk hr hlen
  rcases hbest with ⟨hst1, rfl, rfl⟩ | ⟨o, c, hst1, b1, b2, hob, hnn, rfl⟩
  case' inl =>
    have hne := fun W : World => run_neq_slice_nil_any (P := Try.prog) W 25 3 none 0 0 0 0 Try.underlying25
    clear hp hst hst1
  case' inr =>
    have hpos : 0 < m.length := hst.resolve_left (by rw [hst1]; simp)
    have hp2 : cost + rest < least := by
      rcases Int.lt_or_le (cost + rest) least with h | h
      · exact h
      · exact absurd ⟨o, least, hst1, h⟩ hp
    obtain ⟨g, cb, rfl⟩ := hob.some (hnn.resolve_right (by omega))
    have hne := fun W : World => run_neq_slice_nil_any (P := Try.prog) W 25 3 (some ⟨g, 0, none⟩) (intL o).length cb 0 0 Try.underlying25
    clear hp hst hob hnn hst1
  all_goals
    go_enter Try.func20, Try.ntmps20
    go_wp2
    refine wp_region_over (by kernel_rfl) (by kernel_rfl) ?_; (repeat (go_big_quiet_step (fail))); refine wpQuiet_nil ?_; rintro _ ⟨x, rfl⟩
    go_wp2
    go_loopw [53] (fun i wr => ∃ j : Nat, j ≤ m.length ∧ i = .int .i64 j ∧ SOK wr w0.heap.size (.slice p m.length cp) m.length ord (foldE m.length (at2 m) k (natL ord) st j) ∧ Grew w0 wr) (fun i _ => m.length - (intOf i).toNat)
    case atStart => exact ⟨0, Nat.zero_le _, rfl, HS.out.grew (by (repeat (first | exact Grew.refl _ | refine Grew.over ?_ _ | refine Grew.alloc ?_ _ | refine Grew.drew ?_ | refine Grew.drewN ?_ _))), hg.trans (by (repeat (first | exact Grew.refl _ | refine Grew.over ?_ _ | refine Grew.alloc ?_ _ | refine Grew.drew ?_ | refine Grew.drewN ?_ _)))⟩
    case round =>
      obtain ⟨j, hj, rfl, hS, hg1⟩ := hrel
      by_cases hlt : j < m.length
      · have HS1 := Lib.hid hS
        clear hne c0 c1 c2 c3
        obtain ⟨vo1, vb1, least1, hh, hown, hsep, hbest⟩ := hS
        obtain ⟨q1, cq1, rfl, hcq1, hqn1, hI⟩ := hown.ints (Own.wf h8 Hr.out)
        have c0 := cell_of_heap hh 0
        have c1 := cell_of_heap hh 1
        have f1 := free_of_heap hh 1
        have hlt1 := lt_of_heap hh
        simp at c0 c1
        have Hsep := Lib.hid hsep
        have Hbest := Lib.hid hbest
        clear hsep hbest
        by_cases hin : decide ((j : Int) ∈ ord) = true
        · have Hin := Lib.hid hin
          clear hin hh hown f1
          go_wp2_with ((go_at_call 28; apply Calls.mono; (with_reducible exact contains_e Hin.out hI rfl); rintro e w' ⟨rfl, rfl⟩))
          go_roundw
          case rel => exact ⟨j + 1, by omega, by go_num, by rw [foldE_succ, natL_mem (fun x hx => (Hr.out x hx).1), Hin.out]; exact HS1.out, hg1⟩
          case measure => simp [intOf]; omega
        · have Hin := Lib.hid (show decide ((j : Int) ∈ ord) = false by simpa using hin)
          clear hin
          have Hh := Lib.hid hh
          have Hown := Lib.hid hown
          clear hh hown
          go_wp2_with ((go_at_call 28; apply Calls.mono; (with_reducible exact contains_e Hin.out hI rfl); rintro e w' ⟨rfl, rfl⟩))
          go_loopw [7, 8, 67] (fun v7 v8 i wr2 => ∃ t : Nat, t ≤ m.length ∧ i = .int .i64 t ∧ v7 = .int .i64 (sumL (at2 m j) (oth ord j t)) ∧ v8 = .int .i64 (sumL (fun u => min (at2 m j u) (at2 m u j)) (oth ord j t)) ∧ Grew wr wr2) (fun _ _ i _ => m.length - (intOf i).toNat)
          case atStart => exact ⟨0, Nat.zero_le _, rfl, rfl, rfl, Grew.refl _⟩
          case round =>
            obtain ⟨t, ht, rfl, rfl, rfl, x, rfl⟩ := hrel
            by_cases htl : t < m.length
            · by_cases htj : t = j
              · have hq1 : ((t : Int) = (j : Int)) = True := by simp [htj]
                have Hoth : Hid (oth ord j (t + 1) = oth ord j t) := Lib.hid (by rw [oth_succ, if_neg (by simp [htj])])
                clear htj
                go_wp2
                go_roundw
                case rel => exact ⟨t + 1, by omega, by go_num, by rw [Hoth.out], by rw [Hoth.out], by (repeat (first | exact Grew.refl _ | refine Grew.over ?_ _ | refine Grew.alloc ?_ _ | refine Grew.drew ?_ | refine Grew.drewN ?_ _))⟩
                case measure => simp [intOf]; omega
              · have hq1 : ((t : Int) = (j : Int)) = False := by simp; omega
                by_cases htin : decide ((t : Int) ∈ ord) = true
                · have Htin := Lib.hid htin
                  clear htin
                  have Hoth : Hid (oth ord j (t + 1) = oth ord j t) := Lib.hid (by rw [oth_succ, natL_mem (fun x hx => (Hr.out x hx).1), Htin.out, if_neg (by simp)])
                  clear htj
                  go_wp2_with ((go_at_call 28; apply Calls.mono; (with_reducible exact contains_e Htin.out (hI.grew (by (repeat (first | exact Grew.refl _ | refine Grew.over ?_ _ | refine Grew.alloc ?_ _ | refine Grew.drew ?_ | refine Grew.drewN ?_ _)))) rfl); rintro e w' ⟨rfl, rfl⟩))
                  go_roundw
                  case rel => exact ⟨t + 1, by omega, by go_num, by rw [Hoth.out], by rw [Hoth.out], by (repeat (first | exact Grew.refl _ | refine Grew.over ?_ _ | refine Grew.alloc ?_ _ | refine Grew.drew ?_ | refine Grew.drewN ?_ _))⟩
                  case measure => simp [intOf]; omega
                · have Htin := Lib.hid (show decide ((t : Int) ∈ ord) = false by simpa using htin)
                  clear htin
                  have Hoth : Hid (oth ord j (t + 1) = oth ord j t ++ [t]) := Lib.hid (by rw [oth_succ, natL_mem (fun x hx => (Hr.out x hx).1), Htin.out, if_pos (by simp [htj])])
                  have hs1 := oth_bd ord (j := j) h8 ht (f := at2 m j) (fun u hu => (HV.out.2 j hlt).2 u hu)
                  have hs2 := oth_bd ord (j := j) h8 ht (f := fun u => min (at2 m j u) (at2 m u j)) (fun u hu => by
                    have := (HV.out.2 j hlt).2 u hu
                    have := (HV.out.2 u hu).2 j hlt
                    omega)
                  have hv1 := (HV.out.2 j hlt).2 t htl
                  have hv2 := (HV.out.2 t htl).2 j hlt
                  obtain ⟨b, o2, rb, ro, rc, rfl, hb, hc⟩ := (HM.out.grew hg1).valid HV.out (by omega)
                  obtain ⟨e11, e12, e13⟩ := hc j hlt
                  obtain ⟨e21, e22, e23⟩ := hc t htl
                  have e14 := e13 t htl
                  have e24 := e23 j hlt
                  have hq2 : ((t : Int) != (j : Int)) = true := by rw [bne_iff_ne]; omega
                  clear htj hc e13 e23
                  obtain ⟨hs11, hs12⟩ := hs1
                  obtain ⟨hs21, hs22⟩ := hs2
                  obtain ⟨hv11, hv12⟩ := hv1
                  obtain ⟨hv21, hv22⟩ := hv2
                  go_wp2_with ((go_at_call 28; apply Calls.mono; (with_reducible exact contains_e Htin.out (hI.grew (by (repeat (first | exact Grew.refl _ | refine Grew.over ?_ _ | refine Grew.alloc ?_ _ | refine Grew.drew ?_ | refine Grew.drewN ?_ _)))) rfl); rintro e w' ⟨rfl, rfl⟩))
                  refine wp_region_over (by kernel_rfl) (by kernel_rfl) ?_; (repeat (go_big_quiet_step (fail))); refine wpQuiet_nil ?_; rintro _ ⟨x, rfl⟩
                  go_wp2
                  go_roundw
                  case rel => exact ⟨t + 1, by omega, by go_num, by rw [Hoth.out, sumL_append]; simp [sumL], by rw [Hoth.out, sumL_append]; simp [sumL, min_spell], by (repeat (first | exact Grew.refl _ | refine Grew.over ?_ _ | refine Grew.alloc ?_ _ | refine Grew.drew ?_ | refine Grew.drewN ?_ _))⟩
                  case measure => simp [intOf]; omega
            · have htm : t = m.length := by omega
              subst htm
              have hjl : j ∈ left m.length (natL ord) := by
                have h0 := natL_mem (fun x hx => (Hr.out x hx).1) j
                rw [Hin.out] at h0
                unfold left
                rw [List.mem_filter]
                exact ⟨by simpa using hlt, by rw [h0]; rfl⟩
              have hfix := fix_step m.length (at2 m) (natL ord) j hjl
              have hlow := low_step m.length (at2 m) (natL ord) j hjl
              rw [← Hcost.out, ← oth_all] at hfix
              rw [← Hrest.out, ← oth_all] at hlow
              have hs1 := oth_bd ord (j := j) h8 ht (f := at2 m j) (fun u hu => (HV.out.2 j hlt).2 u hu)
              have hs2 := oth_bd ord (j := j) h8 ht (f := fun u => min (at2 m j u) (at2 m u j)) (fun u hu => by
                have := (HV.out.2 j hlt).2 u hu
                have := (HV.out.2 u hu).2 j hlt
                omega)
              generalize sumL (at2 m j) (oth ord j m.length) = A at hfix hs1 ⊢
              generalize sumL (fun u => min (at2 m j u) (at2 m u j)) (oth ord j m.length) = B at hlow hs2 ⊢
              have hnat : natL (ord ++ [(j : Int)]) = natL ord ++ [j] := by rw [natL_append]; simp [natL]
              rw [← hnat] at hfix hlow
              have Hfix := Lib.hid hfix
              have Hlow := Lib.hid hlow
              have Hkk : Hid ((left m.length (natL (ord ++ [(j : Int)]))).length = k) := Lib.hid (by rw [hnat]; exact left_len Hk.out hjl)
              have Hll : Hid ((ord ++ [(j : Int)]).length + k = m.length) := Lib.hid (by have := Hlen.out; simp; omega)
              have Hpos : Hid (foldE m.length (at2 m) k (natL ord) st j = none ∨ 0 < m.length) := Lib.hid (Or.inr (by omega))
              have Hr2 : Hid (∀ x ∈ ord ++ [(j : Int)], 0 ≤ x ∧ x < (m.length : Int)) := Lib.hid (by
                intro x hx
                rcases List.mem_append.1 hx with h | h
                · exact Hr.out x h
                · simp at h; omega)
              have Hnext : Hid (foldE m.length (at2 m) k (natL ord) st (j + 1) = updO (foldE m.length (at2 m) k (natL ord) st j) (bestF m.length (at2 m) k (natL (ord ++ [(j : Int)])))) := Lib.hid (by
                rw [foldE_succ, natL_mem (fun x hx => (Hr.out x hx).1), Hin.out, hnat]
                rfl)
              have Hgx : Hid (Grew wr (over wr x)) := Lib.hid (by (repeat (first | exact Grew.refl _ | refine Grew.over ?_ _ | refine Grew.alloc ?_ _ | refine Grew.drew ?_ | refine Grew.drewN ?_ _)))
              clear hfix hlow hjl hnat
              obtain ⟨hs11, hs12⟩ := hs1
              obtain ⟨hs21, hs22⟩ := hs2
              go_wp2_with (first
                | (at_builtin; refine wp_append_sep rfl _ _ rfl (w0.heap.size + 1) _ ord [(j : Int)] rfl (Own.grew Hown.out (by (repeat (first | exact Grew.refl _ | refine Grew.over ?_ _ | refine Grew.alloc ?_ _ | refine Grew.drew ?_ | refine Grew.drewN ?_ _)))) _ 1 1 rfl (Ints.one _ _ _ _ (by simp) ⟨by omega, by omega⟩) rfl (by omega) (by simp; omega) (by simp; omega) ?_; intro v1 w1 hown1 hgb hsp; obtain ⟨g1, cp1, rfl, _, _, _⟩ := hown1.cut; obtain ⟨hh1, hS1⟩ := SOK.push (n := m.length) Hh.out Hown.out Hsep.out Hbest.out (Hgx.out.alloc _) hgb hown1 hsp; have Hg1 : Hid (Grew w0 w1) := Lib.hid (((hg1.trans Hgx.out).alloc _).grown hgb (fun k hk => by have := (Hown.out.lt k hk).1; omega)); have HS2 := Lib.hid hS1; have d1 := cell_of_heap hh1 1; have f2 := free_of_heap hh1 1; have hlt2 := lt_of_heap hh1; simp at d1; clear hown1 hgb hsp hS1 hh1)
                | (go_at_call 20; apply Calls.mono; (with_reducible exact Hih.out _ _ _ _ _ (Grew.setAt Hg1.out) HS2.out Hr2.out Hkk.out Hll.out Hfix.out Hlow.out Hpos.out); rintro e w2 hpost; obtain ⟨rfl, hg2, hS3⟩ := hpost; rw [← Hnext.out] at hS3; obtain ⟨vo2, vb2, least2, hh2, hown2, hsep2, hbest2⟩ := hS3; obtain ⟨g2, cap2, rfl, hc2, hcm2, hcut2⟩ := hown2.cut; have e1 := cell_of_heap hh2 1; have f3 := free_of_heap hh2 1; have hlt3 := lt_of_heap hh2; simp at e1; have Hpop : Hid (∀ W, Grew (w2.setCell ⟨w0.heap.size, 1, none⟩ (.slice (some ⟨g2, 0, none⟩) ord.length cap2)) W → SOK W w0.heap.size (.slice p m.length cp) m.length ord (foldE m.length (at2 m) k (natL ord) st (j + 1))) := Lib.hid (fun W hW => SOK.pop hh2 hcut2 hsep2 hbest2 hW); clear hh2 hown2 hsep2 hbest2 hcut2 d1 f2 hlt2))
              have hwr : IntKind.i64.wrap (ord.length : Int) = (ord.length : Int) := IntWalk.i64_in _ ⟨by omega, by omega⟩
              have hwc : (ord.length : Int) ≤ (cap2 : Int) := by omega
              refine wp_region_lex (One 14 (fun b => if b then w2.setCell ⟨w0.heap.size, 1, none⟩ (.slice (some ⟨g2, 0, none⟩) ord.length cap2) else w2)) (by kernel_rfl) (by kernel_rfl) ?_ ?_
              · (repeat (first | exact Grew.refl _ | refine Grew.over ?_ _ | refine Grew.alloc ?_ _ | refine Grew.drew ?_ | refine Grew.drewN ?_ _))
              repeat (first
                | (refine lex_skip rfl ?_ ?_
                   · exact One.keep (by decide)
                   (try simp only [Act.put, List.setIfInBounds_toArray, List.set_cons_zero, List.set_cons_succ]))
                | (refine lex_pure (v := ?_) rfl ?_ (fun d w hd hr hC => ?_) ?_
                   rotate_left
                   · exact One.keep (by decide)
                   · ((try (have hs := closed_undone (s := 14) hr.2 rfl (by decide +kernel) hd; unfold One at hC; rw [hs] at hC)); obtain ⟨x, rfl⟩ := hC; simp [go_sem, ↓IntWalk.iteOmega, e1, f3, hwr, hwc]; try rfl)
                   (try simp only [Act.put, List.setIfInBounds_toArray, List.set_cons_zero, List.set_cons_succ]))
                | (refine lex_call (v := ?_) (f := ?_) (args := ?_) rfl ?_ One.grew (fun d w hd hr hC => ?_) (fun d w hd hr hC => ?_) ?_
                   rotate_left 3
                   · exact One.keep (by decide)
                   · ((try (have hs := closed_undone (s := 14) hr.2 rfl (by decide +kernel) hd; unfold One at hC; rw [hs] at hC)); obtain ⟨x, rfl⟩ := hC; simp [go_sem, ↓IntWalk.iteOmega, e1, f3, hwr, hwc]; (refine ⟨?_, ?_⟩ <;> rfl))
                   · ((try (have hs := closed_undone (s := 14) hr.2 rfl (by decide +kernel) hd; unfold One at hC; rw [hs] at hC)); obtain ⟨x, rfl⟩ := hC; (fail))
                   (try simp only [Act.put, List.setIfInBounds_toArray, List.set_cons_zero, List.set_cons_succ]))
                | (refine lex_store rfl (fun d w hd hr hC => ?_) ?_
                   · (unfold One at hC ⊢; rw [hd] at hC; rw [mark_same]; obtain ⟨x, rfl⟩ := hC; refine ⟨?_, ?_, ?_⟩; rotate_left; (simp [go_sem, ↓IntWalk.iteOmega, e1, f3, hwr, hwc]; try rfl); (simp; exact ⟨_, rfl⟩))
                   (try simp only [Act.put, List.setIfInBounds_toArray, List.set_cons_zero, List.set_cons_succ])))
              refine lex_nil ?_
              intro d w hd hC
              unfold One at hC; rw [hd 14 (by decide)] at hC; obtain ⟨x, rfl⟩ := hC; simp only [if_true]
              clear hwr hwc
              go_wp2
              go_roundw
              case rel => exact ⟨j + 1, by omega, by go_num, Hpop.out _ (by (repeat (first | exact Grew.refl _ | refine Grew.over ?_ _ | refine Grew.alloc ?_ _ | refine Grew.drew ?_ | refine Grew.drewN ?_ _))), hg2.setAt.trans (by (repeat (first | exact Grew.refl _ | refine Grew.over ?_ _ | refine Grew.alloc ?_ _ | refine Grew.drew ?_ | refine Grew.drewN ?_ _)))⟩
              case measure => simp [intOf]; omega
      · have hj2 : j = m.length := by omega
        subst hj2
        have HS1 := Lib.hid hS
        clear hS
        go_wp2
        refine bodyPost_ret (results_none rfl _ _ _) rfl ?_
        exact ⟨rfl, hg1, by rw [← foldE_all]; exact HS1.out⟩

end Go.Proofs.Ytnodgagmnekliaa
