/- The reference's Place. -/
import Derived.Test.YtgodoeefgmfpfaaTidyX
set_option linter.unusedSimpArgs false
set_option linter.unusedVariables false
namespace Go.Proofs.Ytgodoeefgmfpfaa
open Go.RowKit
attribute [local go_sem ↓] Go.wp_at_zero Go.wp_at_succ

theorem all_subr (p q d : Option Addr) (cp cq cd : Nat) (P W : List Int) (sep : Int) (hP : vFor P) (hWl : W.length = P.length) (hW : wOK W sep) : ∀ k, SubR p q d cp cq cd P W sep k
  | 0 => fun v w hv hk => by omega
  | k + 1 => subr_succ p q d cp cq cd P W sep hP hWl hW k (rowr_of_sub p q d cp cq cd P W sep hP hWl hW k (all_subr p q d cp cq cd P W sep hP hWl hW k))

set_option maxRecDepth 8000 in
set_option maxHeartbeats 4000000 in
theorem placer_bad {p q : Option Addr} {n k cp cq : Nat} {P W : List Int} {sep : Int} {w : World} (hI : Ints w p P) (hJ : Ints w q W) (hn : P.length = n) (hk : W.length = k) (hb : okA P W sep = false) :
    Calls Try.prog 10 #[.slice p n cp, .slice q k cq, .int .i64 sep] w fun e w' => e = .returned (.tuple #[.slice none 0 0, .int .i64 1]) ∧ Grew w w' := by
  subst hn hk
  have hm1 := hI.1
  have hm2 := hJ.1
  cases hv : vForB P
  case false =>
    have Hv := Lib.hid hv
    clear hv hb
    go_enter Try.func10, Try.ntmps10
    go_wp2_with ((go_at_call 20; apply Calls.mono; (with_reducible exact validr_e Hv.out hI rfl); rintro e w' ⟨rfl, rfl⟩))
    go_ret2
    exact ⟨rfl, by (repeat (first | exact Grew.refl _ | refine Grew.over ?_ _ | refine Grew.alloc ?_ _ | refine Grew.drew ?_ | refine Grew.drewN ?_ _))⟩
  case true =>
  have Hv := Lib.hid hv
  by_cases hl : W.length = P.length
  case neg =>
    have hl' : ((W.length : Int) != (P.length : Int)) = true := by rw [bne_iff_ne]; omega
    clear hl hb hv
    go_enter Try.func10, Try.ntmps10
    go_wp2_with ((go_at_call 20; apply Calls.mono; (with_reducible exact validr_e Hv.out hI rfl); rintro e w' ⟨rfl, rfl⟩))
    go_ret2
    exact ⟨rfl, by (repeat (first | exact Grew.refl _ | refine Grew.over ?_ _ | refine Grew.alloc ?_ _ | refine Grew.drew ?_ | refine Grew.drewN ?_ _))⟩
  case pos =>
  have hl' : ((W.length : Int) != (P.length : Int)) = false := by rw [hl]; simp
  by_cases hs1 : sep < 0
  · clear hl hb hv
    go_enter Try.func10, Try.ntmps10
    go_wp2_with ((go_at_call 20; apply Calls.mono; (with_reducible exact validr_e Hv.out hI rfl); rintro e w' ⟨rfl, rfl⟩))
    go_ret2
    exact ⟨rfl, by (repeat (first | exact Grew.refl _ | refine Grew.over ?_ _ | refine Grew.alloc ?_ _ | refine Grew.drew ?_ | refine Grew.drewN ?_ _))⟩
  by_cases hs2 : 1048576 < sep
  · have hs1' : 0 ≤ sep := by omega
    clear hl hb hv hs1
    go_enter Try.func10, Try.ntmps10
    go_wp2_with ((go_at_call 20; apply Calls.mono; (with_reducible exact validr_e Hv.out hI rfl); rintro e w' ⟨rfl, rfl⟩))
    go_ret2
    exact ⟨rfl, by (repeat (first | exact Grew.refl _ | refine Grew.over ?_ _ | refine Grew.alloc ?_ _ | refine Grew.drew ?_ | refine Grew.drewN ?_ _))⟩
  have hs1' : 0 ≤ sep := by omega
  have hs2' : sep ≤ 1048576 := by omega
  obtain ⟨i0, hi0, hw0⟩ : ∃ i, i < W.length ∧ (ge W i < 0 ∨ 1048576 < ge W i) := by
    have ha : W.any wrongB = true := by
      unfold okA at hb
      rw [hv, hl] at hb
      have : wrongB sep = false := by unfold wrongB; simp; omega
      rw [this] at hb
      simpa using hb
    obtain ⟨x, hx, hwx⟩ := List.any_eq_true.1 ha
    obtain ⟨i, hi, rfl⟩ := List.getElem_of_mem hx
    refine ⟨i, hi, ?_⟩
    unfold wrongB at hwx
    rw [ge_eq W hi]
    simpa using hwx
  have Hw0 := Lib.hid hw0
  have HI := Lib.hid hI
  obtain ⟨bW, oW, rfl, lW, cW⟩ := hJ.cells (by omega)
  have CW := Lib.hid cW
  clear hl hb hv hs1 hs2 hw0 hI hJ cW
  go_enter Try.func10, Try.ntmps10
  go_wp2_with ((go_at_call 20; apply Calls.mono; (with_reducible exact validr_e Hv.out HI.out rfl); rintro e w' ⟨rfl, rfl⟩))
  go_loopw [8] (fun i wr => ∃ j : Nat, j ≤ i0 ∧ i = .int .i64 j ∧ Grew w wr) (fun i _ => i0 - (intOf i).toNat)
  case atStart => exact ⟨0, Nat.zero_le _, rfl, by (repeat (first | exact Grew.refl _ | refine Grew.over ?_ _ | refine Grew.alloc ?_ _ | refine Grew.drew ?_ | refine Grew.drewN ?_ _))⟩
  case round =>
    obtain ⟨j, hj, rfl, hg⟩ := hrel
    have Hg := Lib.hid hg
    have hc := CW.out wr hg j (by omega)
    have hjl : j < W.length := by omega
    clear hg
    by_cases h1 : ge W j < 0
    · go_wp2
      go_ret2
      exact ⟨rfl, Hg.out.trans (by (repeat (first | exact Grew.refl _ | refine Grew.over ?_ _ | refine Grew.alloc ?_ _ | refine Grew.drew ?_ | refine Grew.drewN ?_ _)))⟩
    · by_cases h2 : 1048576 < ge W j
      · have h1' : 0 ≤ ge W j := by omega
        clear h1
        go_wp2
        go_ret2
        exact ⟨rfl, Hg.out.trans (by (repeat (first | exact Grew.refl _ | refine Grew.over ?_ _ | refine Grew.alloc ?_ _ | refine Grew.drew ?_ | refine Grew.drewN ?_ _)))⟩
      · have hji : j < i0 := by
          rcases Nat.lt_or_ge j i0 with h | h
          · exact h
          · have e : j = i0 := by omega
            subst e
            exact absurd Hw0.out (by omega)
        have h1' : 0 ≤ ge W j := by omega
        have h2' : ge W j ≤ 1048576 := by omega
        clear h1 h2
        go_wp2
        go_roundw
        case rel => exact ⟨j + 1, by omega, by go_num, Hg.out.trans (by (repeat (first | exact Grew.refl _ | refine Grew.over ?_ _ | refine Grew.alloc ?_ _ | refine Grew.drew ?_ | refine Grew.drewN ?_ _)))⟩
        case measure => simp [intOf]; omega

/-- The least left end of the first i. -/
def LeastI (W : List Int) (s : Dr) (i : Nat) (m : Int) : Prop := (∀ t, t < i → ∀ u x, s[t]? = some (u, x) → m ≤ x - ge W u / 2) ∧ (0 < i → ∃ t u x, t < i ∧ s[t]? = some (u, x) ∧ x - ge W u / 2 = m) ∧ (i = 0 → m = 0)
/-- The positions of the first i are written. -/
def OutI (P : List Int) (s : Dr) (m : Int) (i : Nat) (Y : List Int) : Prop := Y.length = P.length ∧ ∀ t, t < i → ∀ u x, s[t]? = some (u, x) → ge Y u = x - m

theorem LeastI.new {W : List Int} {s : Dr} {j : Nat} {m l x : Int} {u : Nat} (h : LeastI W s j m) (hu : s[j]? = some (u, x)) (hl : x - ge W u / 2 = l) (hc : j = 0 ∨ l < m) : LeastI W s (j + 1) l := by
  refine ⟨fun t ht v y hv => ?_, fun _ => ⟨j, u, x, by omega, hu, hl⟩, fun e => by omega⟩
  by_cases e : t = j
  · subst e; rw [hu] at hv; cases hv; omega
  · have := h.1 t (by omega) v y hv
    omega
theorem LeastI.keep {W : List Int} {s : Dr} {j : Nat} {m l x : Int} {u : Nat} (h : LeastI W s j m) (hu : s[j]? = some (u, x)) (hl : x - ge W u / 2 = l) (h0 : 0 < j) (hc : m ≤ l) : LeastI W s (j + 1) m := by
  refine ⟨fun t ht v y hv => ?_, fun _ => ?_, fun e => by omega⟩
  · by_cases e : t = j
    · subst e; rw [hu] at hv; cases hv; omega
    · exact h.1 t (by omega) v y hv
  · obtain ⟨t, v, y, h1, h2, h3⟩ := h.2.1 h0
    exact ⟨t, v, y, by omega, h2, h3⟩
theorem LeastI.bd {W : List Int} {s : Dr} {j : Nat} {m : Int} (h : LeastI W s j m) (hW : ∀ u, 0 ≤ ge W u ∧ ge W u ≤ 1048576) (hs : ∀ q ∈ s, -134217728 ≤ q.2 ∧ q.2 ≤ 134217728) : -200000000 ≤ m ∧ m ≤ 200000000 := by
  rcases Nat.eq_zero_or_pos j with h0 | h0
  · rw [h.2.2 h0]; omega
  · obtain ⟨t, u, x, _, h2, h3⟩ := h.2.1 h0
    have := hs _ (List.mem_of_getElem? h2)
    have := hW u
    dsimp only at *
    omega
theorem OutI.step {P : List Int} {s : Dr} {m x : Int} {j u : Nat} {Y : List Int} (hn : (verts s).Nodup) (h : OutI P s m j Y) (hu : s[j]? = some (u, x)) (hup : u < P.length) : OutI P s m (j + 1) (Y.set u (x - m)) := by
  refine ⟨by rw [List.length_set]; exact h.1, fun t ht v y hv => ?_⟩
  rw [ge_set Y (by rw [h.1]; exact hup)]
  by_cases e : t = j
  · subst e; rw [hu] at hv; cases hv; rw [if_pos rfl]
  · have hne : v ≠ u := fun e2 => by
      obtain ⟨h1, h2⟩ := List.getElem?_eq_some_iff.1 hv
      obtain ⟨h3, h4⟩ := List.getElem?_eq_some_iff.1 hu
      have hp := List.pairwise_iff_getElem.1 hn
      have l1 : t < (verts s).length := by simpa [verts] using h1
      have l3 : j < (verts s).length := by simpa [verts] using h3
      have g1 : (verts s)[t] = v := by simp [verts, h2]
      have g2 : (verts s)[j] = u := by simp [verts, h4]
      rcases Nat.lt_or_gt_of_ne e with h | h
      · exact hp t j l1 l3 h (by rw [g1, g2, e2])
      · exact hp j t l3 l1 h (by rw [g1, g2, e2])
    rw [if_neg hne]
    exact h.2 t (by omega) v y hv

set_option maxRecDepth 8000 in
set_option maxHeartbeats 16000000 in
theorem placer_good {p q : Option Addr} {n k cp cq : Nat} {P W : List Int} {sep : Int} {w : World} (hI : Ints w p P) (hJ : Ints w q W) (hn : P.length = n) (hk : W.length = k) (hb : okA P W sep = true) :
    Calls Try.prog 10 #[.slice p n cp, .slice q k cq, .int .i64 sep] w fun e w' => Grew w w' ∧ ∃ q' cap Y m, e = .returned (.tuple #[.slice q' P.length cap, .int .i64 0]) ∧ Ints w' q' Y ∧ LeastI W (forD P W sep) (forD P W sep).length m ∧ OutI P (forD P W sep) m (forD P W sep).length Y := by
  obtain ⟨hP, hWl, hW, _⟩ := okA_facts hb
  rw [hWl] at hk
  subst hn hk
  have h64 := hP.1
  have Hv := Lib.hid (vForB_iff.2 hP)
  have hl' : ((P.length : Int) != (P.length : Int)) = false := by simp
  have hs1 := hW.1
  have hs2 := hW.2.1
  have HP := Lib.hid hP
  have HW := Lib.hid hW
  have HWl := Lib.hid hWl
  have HI := Lib.hid hI
  have HJ := Lib.hid hJ
  have H2 := Lib.hid (fun (W1 : World) (hg : Grew w W1) => depths_ok (cap := cp) hb (hI.grew hg) rfl)
  have H3 := Lib.hid (fun (W1 : World) (hg : Grew w W1) => children_k (cap := cp) (v := -1) (hI.grew hg) rfl h64)
  have Hrow := Lib.hid (fun (d : Option Addr) (cd : Nat) => rowr_of_sub p q d cp cq cd P W sep hP hWl hW P.length (all_subr p q d cp cq cd P W sep hP hWl hW P.length))
  clear hI hJ hb hP hW hWl
  go_enter Try.func10, Try.ntmps10
  go_wp2_with ((go_at_call 20; apply Calls.mono; (with_reducible exact validr_e Hv.out HI.out rfl); rintro e w' ⟨rfl, rfl⟩))
  go_loopw [8] (fun i wr => ∃ j : Nat, j ≤ P.length ∧ i = .int .i64 j ∧ Grew w wr) (fun i _ => P.length - (intOf i).toNat)
  case atStart => exact ⟨0, Nat.zero_le _, rfl, by (repeat (first | exact Grew.refl _ | refine Grew.over ?_ _ | refine Grew.alloc ?_ _ | refine Grew.drew ?_ | refine Grew.drewN ?_ _))⟩
  case round =>
    obtain ⟨j, hj, rfl, hg⟩ := hrel
    have Hg := Lib.hid hg
    clear hg
    by_cases hlt : j < P.length
    · obtain ⟨bW, oW, rfl, lW, cW⟩ := HJ.out.cells (by rw [HWl.out]; omega)
      have hc := cW wr Hg.out j (by rw [HWl.out]; exact hlt)
      obtain ⟨h1, h2⟩ := HW.out.2.2 j
      clear cW
      go_wp2
      go_roundw
      case rel => exact ⟨j + 1, by omega, by go_num, Hg.out.trans (by (repeat (first | exact Grew.refl _ | refine Grew.over ?_ _ | refine Grew.alloc ?_ _ | refine Grew.drew ?_ | refine Grew.drewN ?_ _)))⟩
      case measure => simp [intOf]; omega
    · go_upto_region 9 with (go_at_call 14; apply Calls.mono; (with_reducible exact H2.out _ (Hg.out.trans (by (repeat (first | exact Grew.refl _ | refine Grew.over ?_ _ | refine Grew.alloc ?_ _ | refine Grew.drew ?_ | refine Grew.drewN ?_ _))))); rintro e w2 ⟨hg2, qD, cD, rfl, hD⟩; have HD := Lib.hid hD; have Hg2 := Lib.hid hg2; clear hD hg2)
      obtain ⟨W3, hW3⟩ : ∃ W3, w2.alloc (.cells #[.slice p P.length cp, .slice q P.length cq, .slice qD P.length cD, .int .i64 sep] 45) = W3 := ⟨_, rfl⟩
      have z0 : W3.cell? ⟨w2.heap.size, 0, none⟩ = some (.slice p P.length cp) := by rw [← hW3]; simp [go_sem]
      have z1 : W3.cell? ⟨w2.heap.size, 1, none⟩ = some (.slice q P.length cq) := by rw [← hW3]; simp [go_sem]
      have z2 : W3.cell? ⟨w2.heap.size, 2, none⟩ = some (.slice qD P.length cD) := by rw [← hW3]; simp [go_sem]
      have z3 : W3.cell? ⟨w2.heap.size, 3, none⟩ = some (.int .i64 sep) := by rw [← hW3]; simp [go_sem]
      have Hg23 : Hid (Grew w2 W3) := Lib.hid (by rw [← hW3]; exact (Grew.refl _).alloc _)
      have Hgw3 : Hid (Grew w W3) := Lib.hid ((Hg.out.trans (Grew.trans (by (repeat (first | exact Grew.refl _ | refine Grew.over ?_ _ | refine Grew.alloc ?_ _ | refine Grew.drew ?_ | refine Grew.drewN ?_ _))) Hg2.out)).trans Hg23.out)
      have hs3 := Hgw3.out.below.size
      have hFs : w2.heap.size < W3.heap.size := by rw [← hW3]; simp
      obtain ⟨F, hF⟩ : ∃ F, w2.heap.size = F := ⟨_, rfl⟩
      have Hrow2 := Lib.hid (fun (lp : Option Addr) (lc : Nat) (W1 : World) (hg : Grew W3 W1) (hL : Ints W1 lp (intL (kids P (-1)))) => Hrow.out qD cD (-1) lp lc W1 (HI.out.grew (Hgw3.out.trans hg)) (HJ.out.grew (Hgw3.out.trans hg)) (HD.out.grew (Hg23.out.trans hg)) (fun c _ => by omega) hL)
      rw [hW3, hF]
      rw [hF] at z0 z1 z2 z3 hFs
      clear hW3 hF
      go_cut [10] (fun v10 wx => ∃ T vV vX, v10 = .pointer (some ⟨T, 0, none⟩) ∧ Grew w wx ∧ Owns wx W3.heap.size (roNext T vV vX (forD P W sep)))
      case first =>
        refine wp_region_T (s := 5) (S := fun w' => w'.cell? ⟨F, 0, none⟩ = some (.slice p P.length cp) ∧ w'.cell? ⟨F, 1, none⟩ = some (.slice q P.length cq) ∧ w'.cell? ⟨F, 2, none⟩ = some (.slice qD P.length cD) ∧ w'.cell? ⟨F, 3, none⟩ = some (.int .i64 sep)) (by kernel_rfl) ⟨z0, z1, z2, z3⟩ (fun hH => ?_)
        refine wpAnyT_takeL (i := 0) (v := ?_) rfl (by kernel_rfl) (by kernel_rfl) (by kernel_rfl) (by kernel_rfl) (fun _ _ _ h => h) (Or.inl ⟨by rfl, ?_⟩) (by assumption) ?_
        rotate_left
        · (intro w hSw; (try dsimp only at hSw); go_simp; (try with_reducible rfl))
        (try simp only [Act.put, List.setIfInBounds_toArray, List.set_cons_zero, List.set_cons_succ])
        refine wpAnyT_takeL (i := 1) (v := ?_) rfl (by kernel_rfl) (by kernel_rfl) (by kernel_rfl) (by kernel_rfl) (fun _ _ _ h => h) (Or.inl ⟨by rfl, ?_⟩) (by assumption) ?_
        rotate_left
        · (intro w hSw; (try dsimp only at hSw); go_simp; (try with_reducible rfl))
        (try simp only [Act.put, List.setIfInBounds_toArray, List.set_cons_zero, List.set_cons_succ])
        refine wpAnyT_all (rs := [2, 4]) (by kernel_rfl) (by simp) (AllT.consL (i := 2) rfl (fun K hK => ?_) (AllT.consL (i := 4) rfl (fun K hK => ?_) AllT.nil))
        · go_simp
          go_wp2_with (go_at_call 16; apply Calls.mono; (with_reducible exact H3.out _ (Hgw3.out.trans (by (repeat (first | exact Grew.refl _ | refine Grew.over ?_ _ | refine Grew.alloc ?_ _ | refine Grew.drew ?_ | refine Grew.drewN ?_ _))))); rintro e w5 ⟨hg5, qK, cK, rfl, hK⟩; have HK := Lib.hid hK; have Hg5 := Lib.hid hg5; have hsz5 := hg5.below.size; simp at hsz5; obtain ⟨h0, h1, h2, h3⟩ := hH; have q0 := hg5.cellEq h0; have q1 := hg5.cellEq h1; have q2 := hg5.cellEq h2; have q3 := hg5.cellEq h3; clear h0 h1 h2 h3; clear hK hg5)
          refine hK.out _ _ ?_ (fun hH => ?_)
          · (first | (simp [go_sem, ↓IntWalk.iteOmega, *]; done) | go_keep)
          clear hK K
          (try simp only [Act.put, List.setIfInBounds_toArray, List.set_cons_zero, List.set_cons_succ])
          refine wpAnyT_all (rs := [3, 4]) (by kernel_rfl) (by simp) (AllT.consL (i := 3) rfl (fun K hK => ?_) (AllT.consL (i := 4) rfl (fun K hK => ?_) AllT.nil))
          · go_simp
            go_wp2_with (go_at_call 25; apply Calls.mono; (with_reducible exact Hrow2.out _ _ _ (Grew.trans (by (repeat (first | exact Grew.refl _ | refine Grew.over ?_ _ | refine Grew.alloc ?_ _ | refine Grew.drew ?_ | refine Grew.drewN ?_ _))) (Hg5.out.trans (by (repeat (first | exact Grew.refl _ | refine Grew.over ?_ _ | refine Grew.alloc ?_ _ | refine Grew.drew ?_ | refine Grew.drewN ?_ _))))) (HK.out.grew (by (repeat (first | exact Grew.refl _ | refine Grew.over ?_ _ | refine Grew.alloc ?_ _ | refine Grew.drew ?_ | refine Grew.drewN ?_ _))))); rintro e w6 ⟨hg6, vV, vX, rfl, hO6⟩; obtain ⟨pV, cV, rfl, _, _, _, _, _⟩ := hO6.form (k := 0) rfl; obtain ⟨pX, cX, rfl, _, _, _, _, _⟩ := hO6.form (k := 1) rfl; have HO6 := Lib.hid hO6; have Hg6 := Lib.hid hg6; obtain ⟨h0, h1, h2, h3⟩ := hH; have q0 := hg6.cellEq h0; have q1 := hg6.cellEq h1; have q2 := hg6.cellEq h2; have q3 := hg6.cellEq h3; clear h0 h1 h2 h3; clear hO6 hg6)
            refine hK.out _ _ ?_ (fun hH => ?_)
            · (first | (simp [go_sem, ↓IntWalk.iteOmega, *]; done) | go_keep)
            clear hK K
            (try simp only [Act.put, List.setIfInBounds_toArray, List.set_cons_zero, List.set_cons_succ])
            refine wpAnyT_all (rs := [4]) (by kernel_rfl) (by simp) (AllT.consL (i := 4) rfl (fun K hK => ?_) AllT.nil)
            go_simp
            refine hK.out _ _ ?_ (fun hH => ?_)
            · (first | (simp [go_sem, ↓IntWalk.iteOmega, *]; done) | go_keep)
            clear hK K
            (try simp only [Act.put, List.setIfInBounds_toArray, List.set_cons_zero, List.set_cons_succ])
            refine wpAnyT_all (rs := [5]) (by kernel_rfl) (by simp) (AllT.lastL rfl (fun K hK => ?_))
            go_simp
            refine hK.out _ _ ?_
            clear hK K
            (try simp only [Act.put, List.setIfInBounds_toArray, List.set_cons_zero, List.set_cons_succ])
            refine wpAnyT_done (by kernel_rfl) ?_ _
            go_wp2_with fail
            go_meet
            have hOA := ro_box2 (rs := []) (Owns.nil w5 W3.heap.size) (by omega) HO6.out Hg6.out w6.heap.size rfl
            exact ⟨_, _, _, rfl, Grew.alloc (Hgw3.out.trans (Grew.trans (by (repeat (first | exact Grew.refl _ | refine Grew.over ?_ _ | refine Grew.alloc ?_ _ | refine Grew.drew ?_ | refine Grew.drewN ?_ _))) (Hg5.out.trans Hg6.out))) _, hOA⟩
          · go_simp
            refine hK.out _ _ ?_ (fun hH => ?_)
            · (first | (simp [go_sem, ↓IntWalk.iteOmega, *]; done) | go_keep)
            clear hK K
            (try simp only [Act.put, List.setIfInBounds_toArray, List.set_cons_zero, List.set_cons_succ])
            refine wpAnyT_all (rs := [3]) (by kernel_rfl) (by simp) (AllT.consL (i := 3) rfl (fun K hK => ?_) AllT.nil)
            go_simp
            go_wp2_with (go_at_call 25; apply Calls.mono; (with_reducible exact Hrow2.out _ _ _ (Grew.trans (by (repeat (first | exact Grew.refl _ | refine Grew.over ?_ _ | refine Grew.alloc ?_ _ | refine Grew.drew ?_ | refine Grew.drewN ?_ _))) (Hg5.out.trans (by (repeat (first | exact Grew.refl _ | refine Grew.over ?_ _ | refine Grew.alloc ?_ _ | refine Grew.drew ?_ | refine Grew.drewN ?_ _))))) (HK.out.grew (by (repeat (first | exact Grew.refl _ | refine Grew.over ?_ _ | refine Grew.alloc ?_ _ | refine Grew.drew ?_ | refine Grew.drewN ?_ _))))); rintro e w6 ⟨hg6, vV, vX, rfl, hO6⟩; obtain ⟨pV, cV, rfl, _, _, _, _, _⟩ := hO6.form (k := 0) rfl; obtain ⟨pX, cX, rfl, _, _, _, _, _⟩ := hO6.form (k := 1) rfl; have HO6 := Lib.hid hO6; have Hg6 := Lib.hid hg6; obtain ⟨h0, h1, h2, h3⟩ := hH; have q0 := hg6.cellEq h0; have q1 := hg6.cellEq h1; have q2 := hg6.cellEq h2; have q3 := hg6.cellEq h3; clear h0 h1 h2 h3; have b0 := hg6.cellEq (b := w5.heap.size) (i := 0) (v := .slice none 0 0) (by first | (go_simp; done) | (simp [go_sem, ↓IntWalk.iteOmega, *]; done)); have b1 := hg6.cellEq (b := w5.heap.size) (i := 1) (v := .slice none 0 0) (by first | (go_simp; done) | (simp [go_sem, ↓IntWalk.iteOmega, *]; done)); have b2 := hg6.frozenEq (b := w5.heap.size) (i := 0) (by first | rfl | omega | (simp <;> omega)) (by first | (go_simp; done) | (simp [go_sem, ↓IntWalk.iteOmega, *]; done)); have b3 := hg6.frozenEq (b := w5.heap.size) (i := 1) (by first | rfl | omega | (simp <;> omega)) (by first | (go_simp; done) | (simp [go_sem, ↓IntWalk.iteOmega, *]; done)); clear hO6 hg6)
            refine hK.out _ _ ?_ (fun hH => ?_)
            · (first | (simp [go_sem, ↓IntWalk.iteOmega, *]; done) | go_keep)
            clear hK K
            (try simp only [Act.put, List.setIfInBounds_toArray, List.set_cons_zero, List.set_cons_succ])
            refine wpAnyT_all (rs := [5]) (by kernel_rfl) (by simp) (AllT.lastL rfl (fun K hK => ?_))
            go_simp
            refine hK.out _ _ ?_
            clear hK K
            (try simp only [Act.put, List.setIfInBounds_toArray, List.set_cons_zero, List.set_cons_succ])
            refine wpAnyT_done (by kernel_rfl) ?_ _
            go_wp2_with fail
            go_meet
            have hOA := ro_box1 (rs := []) (Owns.nil w5 W3.heap.size) (by omega) w5.heap.size rfl HO6.out Hg6.out
            exact ⟨_, _, _, rfl, Grew.setCell (Grew.setCell (Hgw3.out.trans (Grew.trans (by (repeat (first | exact Grew.refl _ | refine Grew.over ?_ _ | refine Grew.alloc ?_ _ | refine Grew.drew ?_ | refine Grew.drewN ?_ _))) (Hg5.out.trans (Grew.trans (by (repeat (first | exact Grew.refl _ | refine Grew.over ?_ _ | refine Grew.alloc ?_ _ | refine Grew.drew ?_ | refine Grew.drewN ?_ _))) Hg6.out)))) (show w.heap.size ≤ w5.heap.size by omega) _) (show w.heap.size ≤ w5.heap.size by omega) _, hOA⟩
        · go_simp
          refine hK.out _ _ ?_ (fun hH => ?_)
          · (first | (simp [go_sem, ↓IntWalk.iteOmega, *]; done) | go_keep)
          clear hK K
          (try simp only [Act.put, List.setIfInBounds_toArray, List.set_cons_zero, List.set_cons_succ])
          refine wpAnyT_all (rs := [2]) (by kernel_rfl) (by simp) (AllT.consL (i := 2) rfl (fun K hK => ?_) AllT.nil)
          go_simp
          go_wp2_with (go_at_call 16; apply Calls.mono; (with_reducible exact H3.out _ (Hgw3.out.trans (by (repeat (first | exact Grew.refl _ | refine Grew.over ?_ _ | refine Grew.alloc ?_ _ | refine Grew.drew ?_ | refine Grew.drewN ?_ _))))); rintro e w5 ⟨hg5, qK, cK, rfl, hK⟩; have HK := Lib.hid hK; have Hg5 := Lib.hid hg5; have hsz5 := hg5.below.size; simp at hsz5; obtain ⟨h0, h1, h2, h3⟩ := hH; have q0 := hg5.cellEq h0; have q1 := hg5.cellEq h1; have q2 := hg5.cellEq h2; have q3 := hg5.cellEq h3; clear h0 h1 h2 h3; have a0 := hg5.cellEq (b := W3.heap.size) (i := 0) (v := .slice none 0 0) (by first | (go_simp; done) | (simp [go_sem, ↓IntWalk.iteOmega, *]; done)); have a1 := hg5.cellEq (b := W3.heap.size) (i := 1) (v := .slice none 0 0) (by first | (go_simp; done) | (simp [go_sem, ↓IntWalk.iteOmega, *]; done)); have a2 := hg5.frozenEq (b := W3.heap.size) (i := 0) (by first | rfl | omega | (simp <;> omega)) (by first | (go_simp; done) | (simp [go_sem, ↓IntWalk.iteOmega, *]; done)); have a3 := hg5.frozenEq (b := W3.heap.size) (i := 1) (by first | rfl | omega | (simp <;> omega)) (by first | (go_simp; done) | (simp [go_sem, ↓IntWalk.iteOmega, *]; done)); clear hK hg5)
          refine hK.out _ _ ?_ (fun hH => ?_)
          · (first | (simp [go_sem, ↓IntWalk.iteOmega, *]; done) | go_keep)
          clear hK K
          (try simp only [Act.put, List.setIfInBounds_toArray, List.set_cons_zero, List.set_cons_succ])
          refine wpAnyT_all (rs := [3]) (by kernel_rfl) (by simp) (AllT.consL (i := 3) rfl (fun K hK => ?_) AllT.nil)
          go_simp
          go_wp2_with (go_at_call 25; apply Calls.mono; (with_reducible exact Hrow2.out _ _ _ (Grew.trans (by (repeat (first | exact Grew.refl _ | refine Grew.over ?_ _ | refine Grew.alloc ?_ _ | refine Grew.drew ?_ | refine Grew.drewN ?_ _))) (Hg5.out.trans (by (repeat (first | exact Grew.refl _ | refine Grew.over ?_ _ | refine Grew.alloc ?_ _ | refine Grew.drew ?_ | refine Grew.drewN ?_ _))))) (HK.out.grew (by (repeat (first | exact Grew.refl _ | refine Grew.over ?_ _ | refine Grew.alloc ?_ _ | refine Grew.drew ?_ | refine Grew.drewN ?_ _))))); rintro e w6 ⟨hg6, vV, vX, rfl, hO6⟩; obtain ⟨pV, cV, rfl, _, _, _, _, _⟩ := hO6.form (k := 0) rfl; obtain ⟨pX, cX, rfl, _, _, _, _, _⟩ := hO6.form (k := 1) rfl; have HO6 := Lib.hid hO6; have Hg6 := Lib.hid hg6; obtain ⟨h0, h1, h2, h3⟩ := hH; have q0 := hg6.cellEq h0; have q1 := hg6.cellEq h1; have q2 := hg6.cellEq h2; have q3 := hg6.cellEq h3; clear h0 h1 h2 h3; have b0 := hg6.cellEq a0; have b1 := hg6.cellEq a1; have b2 := hg6.frozenEq (b := W3.heap.size) (by omega) a2; have b3 := hg6.frozenEq (b := W3.heap.size) (by omega) a3; clear hO6 hg6)
          refine hK.out _ _ ?_ (fun hH => ?_)
          · (first | (simp [go_sem, ↓IntWalk.iteOmega, *]; done) | go_keep)
          clear hK K
          (try simp only [Act.put, List.setIfInBounds_toArray, List.set_cons_zero, List.set_cons_succ])
          refine wpAnyT_all (rs := [5]) (by kernel_rfl) (by simp) (AllT.lastL rfl (fun K hK => ?_))
          go_simp
          refine hK.out _ _ ?_
          clear hK K
          (try simp only [Act.put, List.setIfInBounds_toArray, List.set_cons_zero, List.set_cons_succ])
          refine wpAnyT_done (by kernel_rfl) ?_ _
          go_wp2_with fail
          go_meet
          have hgA : Grew (W3.drew.alloc (.cells #[.slice none 0 0, .slice none 0 0] 47)) w6 := Hg5.out.trans Hg6.out
          have hOA := ro_box1 (rs := []) (Owns.nil W3.drew W3.heap.size) (by simp) W3.heap.size (by simp) (HO6.out.base (by have := Hg5.out.below.size; simp at this ⊢; omega)) hgA
          exact ⟨_, _, _, rfl, Grew.setCell (Grew.setCell (Hgw3.out.trans (Grew.trans (by (repeat (first | exact Grew.refl _ | refine Grew.over ?_ _ | refine Grew.alloc ?_ _ | refine Grew.drew ?_ | refine Grew.drewN ?_ _))) hgA)) (by omega) _) (by omega) _, hOA⟩
      case rest =>
        obtain ⟨T, vV, vX, rfl, hgx, hOx⟩ := hcut
        have hsp := rowD_span (sep := sep) HP.out HW.out (par := -1) (k := P.length) (fun c _ => by omega) (fun c hc => subD_span HP.out HW.out P.length c (mem_kids.1 hc).1 (by omega)) (kids P (-1)).length (Nat.le_refl _)
        rw [List.take_length] at hsp
        have hok := forD_ok (W := W) (sep := sep) HP.out
        have hall := forD_all (W := W) (sep := sep) HP.out
        have hsl : (forD P W sep).length ≤ 64 := hok.len HP.out (fun c hc => (mem_kids.1 hc).1)
        have hsb := hok.bd HP.out (fun c hc => (mem_kids.1 hc).1) HW.out hsp
        obtain ⟨s, hsd⟩ : ∃ s, forD P W sep = s := ⟨_, rfl⟩
        rw [hsd] at hOx hok hall hsl hsb
        have Hsd := Lib.hid hsd
        clear hsd
        obtain ⟨pV, cV, rfl, _, _, _, _, _⟩ := hOx.form (k := 1) rfl
        obtain ⟨pX, cX, rfl, _, _, _, _, _⟩ := hOx.form (k := 2) rfl
        obtain ⟨gT, cT, eT, hT1, hT2, _, _, _, mT⟩ := hOx.some (k := 0) rfl (by omega)
        cases eT
        have t0 := mT 0 _ rfl
        have t1 := mT 1 _ rfl
        have HIv := Lib.hid (hOx.intsOf (k := 1) rfl (vtx_length s) (vtx_wf (fun q hq => (hsb q hq).1) (by omega)))
        have HIx := Lib.hid (hOx.intsOf (k := 2) rfl (posD_length s) (posD_wf (fun q hq => by have := hsb q hq; omega)))
        have Hgx := Lib.hid hgx
        have Hall := Lib.hid hall
        have Hnd := Lib.hid hok.nodup
        have Hsb := Lib.hid hsb
        have hszc := hgx.below.size
        clear hgx hOx hok hall hsb hsp mT z0 z1 z2 z3
        go_wp2
        go_loopw [11, 12] (fun v11 i wr => ∃ (j : Nat) (m : Int), j ≤ s.length ∧ i = .int .i64 j ∧ v11 = .int .i64 m ∧ Grew wc wr ∧ LeastI W s j m) (fun _ i _ => s.length - (intOf i).toNat)
        case atStart => exact ⟨0, 0, Nat.zero_le _, rfl, rfl, by (repeat (first | exact Grew.refl _ | refine Grew.over ?_ _ | refine Grew.alloc ?_ _ | refine Grew.drew ?_ | refine Grew.drewN ?_ _)), (fun t ht => absurd ht (Nat.not_lt_zero _)), (fun h => absurd h (Nat.lt_irrefl _)), fun _ => rfl⟩
        case round =>
          obtain ⟨j, m, hj, rfl, rfl, hgr, hL⟩ := hrel
          have Hgr := Lib.hid hgr
          have HL := Lib.hid hL
          have hszr := hgr.below.size
          have c0 := hgr.cellEq t0
          have c1 := hgr.cellEq t1
          obtain ⟨hm1, hm2⟩ := hL.bd HW.out.2.2 (fun q hq => (Hsb.out q hq).2)
          clear hgr hL
          by_cases hlt : j < s.length
          · obtain ⟨u, x, hux⟩ := dr_at s hlt
            obtain ⟨h1, h2, _⟩ := vtx_at hux
            obtain ⟨hu, hx1, hx2⟩ := Hsb.out _ (List.mem_of_getElem? hux)
            dsimp only at hu hx1 hx2
            obtain ⟨bV, oV, rfl, lV, cV'⟩ := HIv.out.cells (by rw [vtx_length]; omega)
            obtain ⟨bX, oX, rfl, lX, cX'⟩ := HIx.out.cells (by rw [posD_length]; omega)
            obtain ⟨bW, oW, rfl, lW, cW'⟩ := HJ.out.cells (by rw [HWl.out]; omega)
            have e1 := cV' wr Hgr.out j (by rw [vtx_length]; exact hlt)
            have e2 := cX' wr Hgr.out j (by rw [posD_length]; exact hlt)
            have e3 := cW' wr (Hgx.out.trans Hgr.out) u (by rw [HWl.out]; exact hu)
            rw [h1] at e1
            rw [h2] at e2
            obtain ⟨hw1, hw2⟩ := HW.out.2.2 u
            have HLf := Lib.hid (fun W1 : World => left_r x (ge W u) W1 (by omega) ⟨hw1, hw2⟩)
            have Hux := Lib.hid hux
            clear hux h1 h2 cV' cX' cW'
            by_cases hj0 : j = 0
            · have hjz : ((j : Int) == 0) = true := by rw [hj0]; rfl
              have Hn := Lib.hid (HL.out.new Hux.out rfl (Or.inl hj0))
              clear hj0
              go_wp2
              refine wp_region_over (by kernel_rfl) (by kernel_rfl) ?_; (repeat (go_big_quiet_step ((go_at_call 17; apply over_callE; with_reducible exact HLf.out _)))); refine wpQuiet_nil ?_; rintro _ ⟨x, rfl⟩
              clear c0 c1 e1 e2 e3
              go_wp2
              go_roundw
              case rel => exact ⟨j + 1, _, by omega, by go_num, rfl, Hgr.out.trans (by (repeat (first | exact Grew.refl _ | refine Grew.over ?_ _ | refine Grew.alloc ?_ _ | refine Grew.drew ?_ | refine Grew.drewN ?_ _))), Hn.out⟩
              case measure => simp [intOf]; omega
            · have hjz : ((j : Int) == 0) = false := by rw [beq_eq_false_iff_ne]; omega
              by_cases hc : x - ge W u / 2 < m
              · have Hn := Lib.hid (HL.out.new Hux.out rfl (Or.inr hc))
                clear hj0
                go_wp2
                refine wp_region_over (by kernel_rfl) (by kernel_rfl) ?_; (repeat (go_big_quiet_step ((go_at_call 17; apply over_callE; with_reducible exact HLf.out _)))); refine wpQuiet_nil ?_; rintro _ ⟨x, rfl⟩
                clear c0 c1 e1 e2 e3
                go_wp2
                go_roundw
                case rel => exact ⟨j + 1, _, by omega, by go_num, rfl, Hgr.out.trans (by (repeat (first | exact Grew.refl _ | refine Grew.over ?_ _ | refine Grew.alloc ?_ _ | refine Grew.drew ?_ | refine Grew.drewN ?_ _))), Hn.out⟩
                case measure => simp [intOf]; omega
              · have hc' : m ≤ x - ge W u / 2 := by omega
                have Hn := Lib.hid (HL.out.keep Hux.out rfl (by omega) hc')
                clear hj0 hc
                go_wp2
                refine wp_region_over (by kernel_rfl) (by kernel_rfl) ?_; (repeat (go_big_quiet_step ((go_at_call 17; apply over_callE; with_reducible exact HLf.out _)))); refine wpQuiet_nil ?_; rintro _ ⟨x, rfl⟩
                clear c0 c1 e1 e2 e3
                go_wp2
                go_roundw
                case rel => exact ⟨j + 1, _, by omega, by go_num, rfl, Hgr.out.trans (by (repeat (first | exact Grew.refl _ | refine Grew.over ?_ _ | refine Grew.alloc ?_ _ | refine Grew.drew ?_ | refine Grew.drewN ?_ _))), Hn.out⟩
                case measure => simp [intOf]; omega
          · have HL2 : Hid (LeastI W s s.length m) := Lib.hid (by have e : j = s.length := by omega
                                                                  rw [← e]; exact HL.out)
            have Ht0 := Lib.hid t0
            have Ht1 := Lib.hid t1
            clear t0 t1
            go_wp2_with (refine wp_make_owns rfl _ _ 22 rfl 3 8 (.int .i64 0) Try.underlying22 Try.infoInt rfl .i64 .i64 _ _ P.length rfl rfl rfl rfl (by omega) (by simp only [maxLen]; omega) wr.heap.size [] (Owns.nil _ _) (Nat.le_refl _) ?_; intro w4 hO hg4 hs4; have HO4 := Lib.hid hO; have Hg4 := Lib.hid hg4; clear hO hg4)
            obtain ⟨O, hO⟩ : ∃ O, wr.heap.size = O := ⟨_, rfl⟩
            rw [hO] at HO4 hs4 ⊢
            have HOr := Lib.hid hO
            have hrO : wc.heap.size ≤ O := by omega
            clear hO c0 c1
            go_loopw [15] (fun i wq => ∃ j : Nat, j ≤ s.length ∧ i = .int .i64 j ∧ Grew wr wq ∧ ∃ Y, OutI P s m j Y ∧ Owns wq O [⟨.slice (some ⟨O, 0, none⟩) P.length P.length, 3, 1, P.length, intVs Y⟩]) (fun i _ => s.length - (intOf i).toNat)
            case atStart => exact ⟨0, Nat.zero_le _, rfl, Hg4.out, tab P.length (fun _ => 0), ⟨tab_length _ _, fun t ht => absurd ht (Nat.not_lt_zero _)⟩, by rw [← intVs_rep]; exact HO4.out⟩
            case round =>
              obtain ⟨i, hi, rfl, hgq, Y, hY, hOq⟩ := hrel
              have Hgq := Lib.hid hgq
              have HY := Lib.hid hY
              have HOq := Lib.hid hOq
              have hgt : Grew wc wr := Hgr.out.trans hgq
              have Hgt := Lib.hid hgt
              have hszq := hgq.below.size
              have c0 := hgt.cellEq Ht0.out
              have c1 := hgt.cellEq Ht1.out
              clear hgq hY hOq hgt
              by_cases hli : i < s.length
              · obtain ⟨u, x, hux⟩ := dr_at s hli
                obtain ⟨h1, h2, _⟩ := vtx_at hux
                obtain ⟨hu, hx1, hx2⟩ := Hsb.out _ (List.mem_of_getElem? hux)
                dsimp only at hu hx1 hx2
                obtain ⟨bV, oV, rfl, lV, cV'⟩ := HIv.out.cells (by rw [vtx_length]; omega)
                obtain ⟨bX, oX, rfl, lX, cX'⟩ := HIx.out.cells (by rw [posD_length]; omega)
                have e1 := cV' wr Hgt.out i (by rw [vtx_length]; exact hli)
                have e2 := cX' wr Hgt.out i (by rw [posD_length]; exact hli)
                rw [h1] at e1
                rw [h2] at e2
                obtain ⟨gO, cO, eO, _, kO, _, _, nO, mO⟩ := HOq.out.some (k := 0) rfl (by omega)
                cases eO
                have o1 := mO u (.int .i64 (ge Y u)) (intVs_get Y (by rw [HY.out.1]; exact hu))
                have o2 := nO u
                have Hn := Lib.hid (HY.out.step Hnd.out hux hu)
                have hwx : IntKind.i64.wrap (x - m) = x - m := IntWalk.i64_in _ ⟨by omega, by omega⟩
                clear hux h1 h2 cV' cX' nO mO
                go_upto_region 21 with fail
                refine wp_region_T (s := 14) (S := fun w' => w'.cell? ⟨T, 0, none⟩ = some (.slice (some ⟨bV, oV, none⟩) s.length cV) ∧ w'.cell? ⟨T, 1, none⟩ = some (.slice (some ⟨bX, oX, none⟩) s.length cX) ∧ w'.cell? ⟨bV, oV + i, none⟩ = some (.int .i64 u) ∧ w'.cell? ⟨bX, oX + i, none⟩ = some (.int .i64 x)) (by kernel_rfl) ⟨c0, c1, e1, e2⟩ (fun hH => ?_)
                refine wpAnyT_takeL (i := 0) (v := ?_) rfl (by kernel_rfl) (by kernel_rfl) (by kernel_rfl) (by kernel_rfl) (fun _ _ _ h => h) (Or.inl ⟨by rfl, ?_⟩) (by assumption) ?_
                rotate_left
                · (intro w hSw; (try dsimp only at hSw); go_simp; (try with_reducible rfl))
                (try simp only [Act.put, List.setIfInBounds_toArray, List.set_cons_zero, List.set_cons_succ])
                refine wpAnyT_takeL (i := 1) (v := ?_) rfl (by kernel_rfl) (by kernel_rfl) (by kernel_rfl) (by kernel_rfl) (fun _ _ _ h => h) (Or.inl ⟨by rfl, ?_⟩) (by assumption) ?_
                rotate_left
                · (intro w hSw; (try dsimp only at hSw); go_simp; (try with_reducible rfl))
                (try simp only [Act.put, List.setIfInBounds_toArray, List.set_cons_zero, List.set_cons_succ])
                refine wpAnyT_takeL (i := 2) (v := ?_) rfl (by kernel_rfl) (by kernel_rfl) (by kernel_rfl) (by kernel_rfl) (fun _ _ _ h => h) (Or.inl ⟨by rfl, ?_⟩) (by assumption) ?_
                rotate_left
                · (intro w hSw; (try dsimp only at hSw); go_simp; (try with_reducible rfl))
                (try simp only [Act.put, List.setIfInBounds_toArray, List.set_cons_zero, List.set_cons_succ])
                refine wpAnyT_takeL (i := 3) (v := ?_) rfl (by kernel_rfl) (by kernel_rfl) (by kernel_rfl) (by kernel_rfl) (fun _ _ _ h => h) (Or.inl ⟨by rfl, ?_⟩) (by assumption) ?_
                rotate_left
                · (intro w hSw; (try dsimp only at hSw); go_simp; (try with_reducible rfl))
                (try simp only [Act.put, List.setIfInBounds_toArray, List.set_cons_zero, List.set_cons_succ])
                refine wpAnyT_takeL (i := 4) (v := ?_) rfl (by kernel_rfl) (by kernel_rfl) (by kernel_rfl) (by kernel_rfl) (fun _ _ _ h => h) (Or.inl ⟨by rfl, ?_⟩) (by assumption) ?_
                rotate_left
                · (intro w hSw; (try dsimp only at hSw); go_simp; (try with_reducible rfl))
                (try simp only [Act.put, List.setIfInBounds_toArray, List.set_cons_zero, List.set_cons_succ])
                refine wpAnyT_takeL (i := 5) (v := ?_) rfl (by kernel_rfl) (by kernel_rfl) (by kernel_rfl) (by kernel_rfl) (fun _ _ _ h => h) (Or.inl ⟨by rfl, ?_⟩) (by assumption) ?_
                rotate_left
                · (intro w hSw; (try dsimp only at hSw); go_simp; (try with_reducible rfl))
                (try simp only [Act.put, List.setIfInBounds_toArray, List.set_cons_zero, List.set_cons_succ])
                refine wpAnyT_takeL (i := 6) (v := ?_) rfl (by kernel_rfl) (by kernel_rfl) (by kernel_rfl) (by kernel_rfl) (fun _ _ _ h => h) (Or.inl ⟨by rfl, ?_⟩) (by assumption) ?_
                rotate_left
                · (intro w hSw; (try dsimp only at hSw); go_simp; (try with_reducible rfl))
                (try simp only [Act.put, List.setIfInBounds_toArray, List.set_cons_zero, List.set_cons_succ])
                refine wpAnyT_takeL (i := 7) (v := ?_) rfl (by kernel_rfl) (by kernel_rfl) (by kernel_rfl) (by kernel_rfl) (fun _ _ _ h => h) (Or.inl ⟨by rfl, ?_⟩) (by assumption) ?_
                rotate_left
                · (intro w hSw; (try dsimp only at hSw); go_simp; (try with_reducible rfl))
                (try simp only [Act.put, List.setIfInBounds_toArray, List.set_cons_zero, List.set_cons_succ])
                refine wpAnyT_takeL (i := 8) (v := ?_) rfl (by kernel_rfl) (by kernel_rfl) (by kernel_rfl) (by kernel_rfl) (fun _ _ _ h => h) (Or.inl ⟨by rfl, ?_⟩) (by assumption) ?_
                rotate_left
                · (intro w hSw; (try dsimp only at hSw); go_simp; (try with_reducible rfl))
                (try simp only [Act.put, List.setIfInBounds_toArray, List.set_cons_zero, List.set_cons_succ])
                refine wpAnyT_takeL (i := 9) (v := ?_) rfl (by kernel_rfl) (by kernel_rfl) (by kernel_rfl) (by kernel_rfl) (fun _ _ _ h => h) (Or.inl ⟨by rfl, ?_⟩) (by assumption) ?_
                rotate_left
                · (intro w hSw; (try dsimp only at hSw); go_simp; (try with_reducible rfl))
                (try simp only [Act.put, List.setIfInBounds_toArray, List.set_cons_zero, List.set_cons_succ])
                refine wpAnyT_takeL (i := 10) (v := ?_) rfl (by kernel_rfl) (by kernel_rfl) (by kernel_rfl) (by kernel_rfl) (fun _ _ _ h => h) (Or.inl ⟨by rfl, ?_⟩) (by assumption) ?_
                rotate_left
                · (intro w hSw; (try dsimp only at hSw); go_simp; (try with_reducible rfl))
                (try simp only [Act.put, List.setIfInBounds_toArray, List.set_cons_zero, List.set_cons_succ])
                refine wpAnyT_takeL (i := 11) (v := ?_) rfl (by kernel_rfl) (by kernel_rfl) (by kernel_rfl) (by kernel_rfl) (fun _ _ _ h => h) (Or.inl ⟨by rfl, ?_⟩) (by assumption) ?_
                rotate_left
                · (intro w hSw; (try dsimp only at hSw); go_simp; (try with_reducible rfl))
                (try simp only [Act.put, List.setIfInBounds_toArray, List.set_cons_zero, List.set_cons_succ])
                refine wpAnyT_takeL (i := 12) (v := ?_) rfl (by kernel_rfl) (by kernel_rfl) (by kernel_rfl) (by kernel_rfl) (fun _ _ _ h => h) (Or.inl ⟨by rfl, ?_⟩) (by assumption) ?_
                rotate_left
                · (intro w hSw; (try dsimp only at hSw); go_simp; (try with_reducible rfl))
                (try simp only [Act.put, List.setIfInBounds_toArray, List.set_cons_zero, List.set_cons_succ])
                refine wpAnyT_takeL (i := 13) (v := ?_) rfl (by kernel_rfl) (by kernel_rfl) (by kernel_rfl) (by kernel_rfl) (fun _ _ _ h => h) (Or.inl ⟨by rfl, ?_⟩) (by assumption) ?_
                rotate_left
                · (intro w hSw; (try dsimp only at hSw); go_simp; (try with_reducible rfl))
                (try simp only [Act.put, List.setIfInBounds_toArray, List.set_cons_zero, List.set_cons_succ])
                refine wpAnyT_all (rs := [14]) (by kernel_rfl) (by simp) (AllT.lastL rfl (fun K hK => ?_))
                go_simp
                refine hK.out _ _ ?_
                clear hK K
                (try simp only [Act.put, List.setIfInBounds_toArray, List.set_cons_zero, List.set_cons_succ])
                refine wpAnyT_done (by kernel_rfl) ?_ _
                clear c0 c1 e1 e2 o1 o2 hwx
                go_wp2
                go_roundw
                case rel =>
                  have h1 := (HOq.out.grew (Grew.drew (Grew.refl wr))).set (k := 0) rfl u (.int .i64 (x - m))
                  rw [intVs_set] at h1
                  exact ⟨i + 1, by omega, by go_num, (Hgq.out.trans (Grew.drew (Grew.refl wr))).setCell (by have := HOr.out; dsimp only; omega) _, _, Hn.out, h1⟩
                case measure => simp [intOf]; omega
              · have hie : i = s.length := by omega
                have HYe : Hid (OutI P s m s.length Y) := Lib.hid (by rw [← hie]; exact HY.out)
                clear hie
                go_wp2
                go_ret2
                rw [Hsd.out]
                refine ⟨Hgx.out.trans Hgt.out, _, _, Y, m, rfl, ?_, HL2.out, HYe.out⟩
                refine HOq.out.intsOf (k := 0) rfl HYe.out.1 (fun y hy => ?_)
                obtain ⟨v, hv, rfl⟩ := List.getElem_of_mem hy
                obtain ⟨x, hx⟩ := mem_verts.1 ((Hall.out v).2 (by rw [← HYe.out.1]; exact hv))
                obtain ⟨t, ht, hte⟩ := List.getElem_of_mem hx
                have e1 := HYe.out.2 t ht v x (by rw [List.getElem?_eq_getElem ht, hte])
                rw [ge_eq Y hv] at e1
                have := Hsb.out _ hx
                dsimp only at this
                omega

end Go.Proofs.Ytgodoeefgmfpfaa
