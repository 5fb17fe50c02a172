/- The Hungarian method of the program: the walk. -/
import Derived.Test.YtdenjldadlgniaaHunE
import Derived.Deep.DeepCutAuto
import Derived.Deep.LoopGhost
import Derived.Deep.DrawnRows
set_option linter.unusedSimpArgs false
set_option linter.unusedVariables false
namespace Go.Proofs.Ytdenjldadlgniaa
open Go.RowKit
attribute [local go_sem ↓] Go.wp_at_zero Go.wp_at_succ

theorem least_nil {m : List (List Int)} (h : m.length = 0) : LeastV m 0 := by
  have hc : ∀ a, costN m a = 0 := fun a => by unfold costN; rw [h]; rfl
  exact Or.inl ⟨by decide, ⟨[], ⟨by rw [h]; rfl, fun i j hi => by omega, fun i hi => by omega, fun i hi => by omega⟩, hc _⟩, fun a _ => by rw [hc]; exact Int.le_refl _⟩

/-- The rows of a matrix in memory. -/
structure MatAt (w : World) (b o : Nat) (n k : Nat) (m : List (List Int)) (rb ro rc : Nat → Nat) : Prop where
  hb : b < w.heap.size
  row : ∀ u, u < n → w.cell? ⟨b, o + u, none⟩ = some (.slice (some ⟨rb u, ro u, none⟩) k (rc u)) ∧ rb u < w.heap.size
  at' : ∀ u v, u < n → v < k → w.cell? ⟨rb u, ro u + v, none⟩ = some (.int .i64 (at2 m u v))
theorem MatAt.grew {w w' : World} {b o n k : Nat} {m : List (List Int)} {rb ro rc : Nat → Nat} (h : MatAt w b o n k m rb ro rc) (hg : Grew w w') : MatAt w' b o n k m rb ro rc :=
  ⟨Nat.lt_of_lt_of_le h.hb hg.below.size, fun u hu => ⟨hg.cellEq (h.row u hu).1, Nat.lt_of_lt_of_le (h.row u hu).2 hg.below.size⟩, fun u v hu hv => hg.cellEq (h.at' u v hu hv)⟩
theorem matAt_of {w : World} {p : Option Addr} {m : List (List Int)} (hM : Mat w p m) (hV : vA m) (h0 : 0 < m.length) : ∃ b o rb ro rc, p = some ⟨b, o, none⟩ ∧ MatAt w b o m.length (kO m) m rb ro rc := by
  obtain ⟨_, b, o, rp, rc, h3, h4⟩ := hM
  have hk : 0 < kO m := by have := hV.nk h0; omega
  have key : ∀ u, ∃ x : Nat × Nat, u < m.length → rp u = some ⟨x.1, x.2, none⟩ ∧ x.1 < w.heap.size ∧ ∀ v, v < kO m → w.cell? ⟨x.1, x.2 + v, none⟩ = some (.int .i64 (at2 m u v)) := fun u => by
    by_cases hu : u < m.length
    · obtain ⟨g1, g2⟩ := h4 u hu
      obtain ⟨b', o', e1, e2⟩ := g2.open
      have hl := hV.sq u hu
      obtain ⟨e3, e4⟩ := e1 (by omega)
      exact ⟨(b', o'), fun _ => ⟨e3, e4, fun v hv => e2 v (by omega)⟩⟩
    · exact ⟨(0, 0), fun h => absurd h hu⟩
  refine ⟨b, o, fun u => (Classical.choose (key u)).1, fun u => (Classical.choose (key u)).2, rc, (h3 h0).1, (h3 h0).2, fun u hu => ?_, fun u v hu hv => ?_⟩
  · obtain ⟨e1, e2, _⟩ := Classical.choose_spec (key u) hu
    obtain ⟨g1, _⟩ := h4 u hu
    rw [e1, hV.sq u hu] at g1
    exact ⟨g1, e2⟩
  · obtain ⟨_, _, e3⟩ := Classical.choose_spec (key u) hu
    exact e3 v hv

theorem Mt.mono {n k : Nat} {C : Nat → Nat → Int} {i j : Nat} {u v : List Int} {row : List Nat} {b b' : Int} (h : Mt n k C i j u v row b) (hb : b ≤ b') : Mt n k C i j u v row b' :=
  { h with vb := fun c hc => (by have := h.vb c hc; omega), ub := fun r hr => (by have := h.ub r hr; omega) }
theorem hm_front {w : World} {B N K g5 g6 g7 g10 g11 g12 : Nat} {u v dist : List Int} {row way : List Nat} {used : List Bool} (h : Owns w B (hmB N K g5 g6 g7 g10 g11 g12 u v row dist way used)) : Owns w B (hmA N K g5 g6 g7 u v row) :=
  Owns.tail_of (xs := [rI g10 K dist, rN g11 K way, rB g12 K used]) (h.perm (List.perm_append_comm (l₁ := hmA N K g5 g6 g7 u v row) (l₂ := [rI g10 K dist, rN g11 K way, rB g12 K used])))
/-- Nothing is matched. -/
theorem Mt.init {n k : Nat} {C : Nat → Nat → Int} (hC : CostOK n k C) : Mt n k C 0 0 (List.replicate (n + 1) 0) (List.replicate (k + 1) 0) (List.replicate (k + 1) 0) 0 := by
  have h1 : ∀ l i, ge (List.replicate l 0) i = 0 := fun l i => by
    unfold ge
    rw [List.getD_eq_getElem?_getD, List.getElem?_replicate]
    split <;> rfl
  have h2 : ∀ l i, gn (List.replicate l 0) i = 0 := fun l i => by
    unfold gn
    rw [List.getD_eq_getElem?_getD, List.getElem?_replicate]
    split <;> rfl
  refine ⟨by simp, by simp, by simp, fun r c g1 g2 g3 g4 => ?_, fun c _ _ h => ?_, fun c _ _ => ?_, fun c c' _ _ _ _ _ h => ?_, fun r g1 g2 => by omega, fun c _ => ?_, fun c _ _ _ => h1 _ _, fun r _ => ?_, fun r _ _ => h1 _ _⟩
  · have := hC.b r c g1 g2 g3 g4
    rw [h1, h1]
    omega
  · rw [h2] at h; omega
  · rw [h2]; omega
  · rw [h2] at h; omega
  · rw [h1]; omega
  · rw [h1]; omega

theorem mSum_bd {n k : Nat} {m : List (List Int)} {u v : List Int} {row : List Nat} {b : Int} (h : Mt n k (cst m) n n u v row b) (hC : CostOK n k (cst m)) :
    ∀ y, y ≤ k → 0 ≤ mSum m row y ∧ mSum m row y ≤ (y : Int) * (1099511627776 : Int)
  | 0, _ => ⟨Int.le_refl _, Int.le_refl _⟩
  | y + 1, hy => by
    have ih := mSum_bd h hC y (by omega)
    have e : mSum m row (y + 1) = mSum m row y + (if 0 < gn row (y + 1) then cst m (gn row (y + 1)) (y + 1) else 0) := rfl
    rw [e]
    split
    · rename_i hp
      have := hC.b (gn row (y + 1)) (y + 1) hp (h.rle _ (by omega) hy) (by omega) hy
      omega
    · omega

set_option maxRecDepth 8000 in
set_option maxHeartbeats 8000000 in
theorem least_p (p : Option Addr) (n c : Nat) (m : List (List Int)) (w : World) (hM : Mat w p m) (hV : vA m) (hn : m.length = n) :
    Calls Try.prog 54 #[.slice p n c] w fun e w' => (∃ z, e = .returned (.int .i64 z) ∧ LeastV m z) ∧ Grew w w' := by
  by_cases h0 : m.length = 0
  · subst hn
    have Hf := Lib.hid (least_nil h0)
    clear hM hV
    go_enter Try.func54, Try.ntmps54
    go_wp2
    go_ret
    exact ⟨⟨0, rfl, Hf.out⟩, Grew.refl _⟩
  obtain ⟨b, o, rb, ro, rc, rfl, hA⟩ := matAt_of hM hV (by omega)
  have hC := cst_ok hV (by omega)
  obtain ⟨k, hk⟩ : ∃ k, kO m = k := ⟨_, rfl⟩
  rw [hk] at hA hC
  rw [hn] at hA hC h0
  have hn16 := hC.n16
  have hk64 := hC.k64
  have hnk := hC.nk
  have hn0 : 0 < n := by omega
  obtain ⟨r1, r2⟩ := hA.row 0 hn0
  have hb := hA.hb
  rw [Nat.add_zero] at r1
  have HA := Lib.hid hA
  have HC := Lib.hid hC
  have HV := Lib.hid hV
  have Hk := Lib.hid hk
  have Hn := Lib.hid hn
  obtain ⟨N1, hN1⟩ : ∃ N1, n + 1 = N1 := ⟨_, rfl⟩
  obtain ⟨K1, hK1⟩ : ∃ K1, k + 1 = K1 := ⟨_, rfl⟩
  have hN1' : (n : Int) + 1 = (N1 : Int) := by omega
  have hK1' : (k : Int) + 1 = (K1 : Int) := by omega
  have hkN := make_ints N1 (by omega)
  have hkK := make_ints K1 (by omega)
  have hkB := make_bools K1 (by omega)
  clear hA hC hV hk hn hM
  go_enter Try.func54, Try.ntmps54
  go_upto_region 3 with fail
  refine wp_region_over (by kernel_rfl) (by kernel_rfl) ?_; (repeat (go_big_quiet_step (fail))); refine wpQuiet_nil ?_; intro wz hW; replace hW : Grew _ wz := hW
  have Hgz := Lib.hid hW
  have hszz := hW.below.size
  clear hW
  go_upto_region 4 with fail
  go_cut [5, 6] (fun v5 v6 wx => ∃ g5 g6 : Nat, v5 = .slice (some ⟨g5, 0, none⟩) N1 N1 ∧ v6 = .slice (some ⟨g6, 0, none⟩) K1 K1 ∧ Grew wz wx ∧ Owns wx wz.heap.size [rI g5 N1 (List.replicate N1 0), rI g6 K1 (List.replicate K1 0)])
  case first =>
   as_aux_lemma =>
    go_region
    · go_wp2_with fail
      go_meet
      exact ⟨_, _, rfl, rfl, by (repeat (first | exact Grew.refl _ | refine Grew.over ?_ _ | refine Grew.alloc ?_ _ | refine Grew.drew ?_ | refine Grew.drewN ?_ _)), (own_two (Nat.le_refl _) N1 K1 (by omega) (by omega)).1.grew (by (repeat (first | exact Grew.refl _ | refine Grew.over ?_ _ | refine Grew.alloc ?_ _ | refine Grew.drew ?_ | refine Grew.drewN ?_ _)))⟩
    · go_wp2_with fail
      go_meet
      exact ⟨_, _, rfl, rfl, by (repeat (first | exact Grew.refl _ | refine Grew.over ?_ _ | refine Grew.alloc ?_ _ | refine Grew.drew ?_ | refine Grew.drewN ?_ _)), (own_two (Nat.le_refl _) N1 K1 (by omega) (by omega)).2.grew (by (repeat (first | exact Grew.refl _ | refine Grew.over ?_ _ | refine Grew.alloc ?_ _ | refine Grew.drew ?_ | refine Grew.drewN ?_ _)))⟩
  case rest =>
    obtain ⟨g5, g6, rfl, rfl, hg1, hO1⟩ := hcut
    have HO1 := Lib.hid hO1
    have Hg1 := Lib.hid hg1
    have hs1 := hg1.below.size
    clear hO1 hg1
    go_upto_region 6 with fail
    obtain ⟨w0, hw0⟩ : ∃ w0, wc.alloc (.cells (Array.replicate K1 (.int .i64 0)) 3) = w0 := ⟨_, rfl⟩
    obtain ⟨g7, hg7⟩ : ∃ g7, wc.heap.size = g7 := ⟨_, rfl⟩
    have HO0 : Hid (Owns w0 wz.heap.size (hmA N1 K1 g5 g6 g7 (List.replicate N1 0) (List.replicate K1 0) (List.replicate K1 0))) := Lib.hid (by
      rw [← hw0, ← hg7]
      have h := own_newI HO1.out hs1 K1 _ (by omega) rfl
      rw [rN_zeros] at h
      exact h.perm ((List.Perm.swap _ _ _).trans (List.Perm.cons _ (List.Perm.swap _ _ _))))
    have Hg0 : Hid (Grew wz w0) := Lib.hid (by rw [← hw0]; exact Hg1.out.trans (by (repeat (first | exact Grew.refl _ | refine Grew.over ?_ _ | refine Grew.alloc ?_ _ | refine Grew.drew ?_ | refine Grew.drewN ?_ _))))
    have Hgw : Hid (Grew w w0) := Lib.hid (Hgz.out.trans Hg0.out)
    have hs0 := Hg0.out.below.size
    obtain ⟨B, hB⟩ : ∃ B, wz.heap.size = B := ⟨_, rfl⟩
    rw [hB] at HO0 hs0
    have HBz : Hid (wz.heap.size = B) := Lib.hid hB
    have HMi : Hid (Mt n k (cst m) 0 0 (List.replicate N1 0) (List.replicate K1 0) (List.replicate K1 0) 0) := Lib.hid (by rw [← hN1, ← hK1]; exact Mt.init HC.out)
    rw [hw0, hg7]
    clear hw0 hg7 hB HO1 Hg1 hs1 hszz
    go_wp2
    go_loopw [8] (fun v8 wr => ∃ (j : Nat) (u v : List Int) (row : List Nat), j ≤ n ∧ v8 = .int .i64 ((j : Int) + 1) ∧ Mt n k (cst m) j j u v row ((j : Int) * (1099511627776 : Int)) ∧ Grew w wr ∧ Grew wz wr ∧ Owns wr B (hmA N1 K1 g5 g6 g7 u v row)) (fun v8 _ => (n + 1 - (intOf v8).toNat))
    case atStart => exact ⟨0, _, _, _, Nat.zero_le _, rfl, by have := HMi.out; simpa using this, Hgw.out, Hg0.out, HO0.out⟩
    case round =>
      clear HMi HO0 Hg0 Hgw hs0
      obtain ⟨j, u, v, row, hjn, rfl, hMt, hgw, hgz, hO⟩ := hrel
      have HMt := Lib.hid hMt
      have HO := Lib.hid hO
      have Hgw := Lib.hid hgw
      have Hgz2 := Lib.hid hgz
      clear hMt hgw hgz hO
      obtain ⟨i, hi⟩ : ∃ i, j + 1 = i := ⟨_, rfl⟩
      have hii : (j : Int) + 1 = (i : Int) := by omega
      rw [hii]
      have Hii := Lib.hid hi
      by_cases hin : i ≤ n
      · have hi1 : 1 ≤ i := by omega
        have hli : (i : Int) ≤ (n : Int) := by omega
        have q7 := own_atN HO.out (j := 2) rfl (i := 0) (by omega)
        have q7b := own_lt HO.out (j := 2) rfl
        have q7f := own_fr HO.out (j := 2) rfl
        have q7g := q7f 0
        have HO2 := Lib.hid (own_setN HO.out (j := 2) rfl 0 i)
        have Hg2 := Lib.hid (HO.out.setGrew (w0 := wz) (by rw [HBz.out]; exact Nat.le_refl _) Hgz2.out (k := 2) rfl 0 (.int .i64 (i : Int)))
        have Hg2w := Lib.hid (HO.out.setGrew (w0 := w) (by have := Hgz.out.below.size; have := HBz.out; omega) Hgw.out (k := 2) rfl 0 (.int .i64 (i : Int)))
        clear q7f hi
        go_upto_region 11 with fail
        obtain ⟨wy, hwy⟩ : ∃ wy, wr.setCell ⟨g7, 0, none⟩ (.int .i64 (i : Int)) = wy := ⟨_, rfl⟩
        rw [hwy] at HO2 Hg2 Hg2w ⊢
        clear hwy
        go_cut [10, 11, 12] (fun v10 v11 v12 wx => ∃ g10 g11 g12 : Nat, v10 = .slice (some ⟨g10, 0, none⟩) K1 K1 ∧ v11 = .slice (some ⟨g11, 0, none⟩) K1 K1 ∧ v12 = .slice (some ⟨g12, 0, none⟩) K1 K1 ∧ Grew wy wx ∧
          Owns wx B (hmB N1 K1 g5 g6 g7 g10 g11 g12 u v (row.set 0 i) (List.replicate K1 0) (List.replicate K1 0) (List.replicate K1 false)))
        case first =>
         as_aux_lemma =>
          have hBy : B ≤ wy.heap.size := by have := HBz.out; have := Hg2.out.below.size; omega
          have hK1k : K1 ≤ 1000 := by omega
          have HO2' : Hid (Owns wy B (hmA N1 K1 g5 g6 g7 u v (row.set 0 i))) := HO2
          clear q7 q7b q7g
          go_region
          all_goals
            go_wp2_with fail
            go_meet
            refine ⟨_, _, _, rfl, rfl, rfl, by (repeat (first | exact Grew.refl _ | refine Grew.over ?_ _ | refine Grew.alloc ?_ _ | refine Grew.drew ?_ | refine Grew.drewN ?_ _)), Owns.grew (w := _) ?_ (Grew.drew (Grew.refl _))⟩
            show Owns _ B (hmA N1 K1 g5 g6 g7 u v (row.set 0 i) ++ [rI _ K1 (List.replicate K1 0), rN _ K1 (List.replicate K1 0), rB _ K1 (List.replicate K1 false)])
            rw [← rN_zeros]
            first
              | exact (own_iib HO2'.out hBy K1 hK1k).perm (perm3 (n := 0) ((List.Perm.swap _ _ _).trans ((List.Perm.cons _ (List.Perm.swap _ _ _)).trans (List.Perm.swap _ _ _))))
              | exact (own_iib HO2'.out hBy K1 hK1k).perm (perm3 (n := 0) ((List.Perm.swap _ _ _).trans (List.Perm.cons _ (List.Perm.swap _ _ _))))
              | exact (own_ibi HO2'.out hBy K1 hK1k).perm (perm3 (n := 0) ((List.Perm.swap _ _ _).trans ((List.Perm.cons _ (List.Perm.swap _ _ _)).trans (List.Perm.swap _ _ _))))
              | exact (own_ibi HO2'.out hBy K1 hK1k).perm (perm3 (n := 0) ((List.Perm.swap _ _ _).trans (List.Perm.cons _ (List.Perm.swap _ _ _))))
              | exact (own_ibi HO2'.out hBy K1 hK1k).perm (perm3 (n := 0) ((List.Perm.cons _ (List.Perm.swap _ _ _)).trans (List.Perm.swap _ _ _)))
              | exact (own_ibi HO2'.out hBy K1 hK1k).perm (perm3 (n := 0) (List.Perm.cons _ (List.Perm.swap _ _ _)))
              | exact (own_bii HO2'.out hBy K1 hK1k).perm (perm3 (n := 0) (List.Perm.refl _))
              | exact (own_bii HO2'.out hBy K1 hK1k).perm (perm3 (n := 0) (List.Perm.swap _ _ _))
        case rest =>
          obtain ⟨g10, g11, g12, rfl, rfl, rfl, hgc, hOc⟩ := hcut
          have HOc := Lib.hid hOc
          have Hgc := Lib.hid (Hg2.out.trans hgc)
          have Hgcw := Lib.hid (Hg2w.out.trans hgc)
          clear hgc hOc HO2 Hg2 Hg2w q7 q7b q7g HO Hgw Hgz2
          have Hlen : Hid (u.length = n + 1 ∧ v.length = k + 1 ∧ row.length = k + 1) := Lib.hid ⟨HMt.out.lu, HMt.out.lv, HMt.out.lr⟩
          go_wp2
          go_loopw [61] (fun v61 wr => ∃ (q : Nat) (dist : List Int), q ≤ K1 ∧ v61 = .int .i64 q ∧ dist.length = K1 ∧ (∀ l, l < q → ge dist l = (1152921504606846976 : Int)) ∧ Grew w wr ∧ Grew wz wr ∧
            Owns wr B (hmB N1 K1 g5 g6 g7 g10 g11 g12 u v (row.set 0 i) dist (List.replicate K1 0) (List.replicate K1 false))) (fun v61 _ => (K1 - (intOf v61).toNat))
          case atStart => exact ⟨0, List.replicate K1 0, Nat.zero_le _, rfl, by simp, fun l hl => by omega, Hgcw.out, Hgc.out, HOc.out⟩
          case round =>
            clear HOc Hgc Hgcw
            obtain ⟨q, dist, hq, rfl, hdl, hdi, hgw, hgz, hO⟩ := hrel
            have HO := Lib.hid hO
            have Hgw := Lib.hid hgw
            have Hgz2 := Lib.hid hgz
            have Hdi := Lib.hid hdi
            have Hdl := Lib.hid hdl
            clear hO hgw hgz hdi hdl
            by_cases hqk : q < K1
            · as_aux_lemma =>
              have q10 := own_atI HO.out (j := 3) rfl hqk
              have q10b := own_lt HO.out (j := 3) rfl
              have q10f := own_fr HO.out (j := 3) rfl
              have q10g := q10f q
              have HO2 := Lib.hid (own_setI HO.out (j := 3) rfl q (1152921504606846976 : Int))
              have Hg2 := Lib.hid (HO.out.setGrew (w0 := wz) (by rw [HBz.out]; exact Nat.le_refl _) Hgz2.out (k := 3) rfl q (.int .i64 (1152921504606846976 : Int)))
              have Hg2w := Lib.hid (HO.out.setGrew (w0 := w) (by have := Hgz.out.below.size; have := HBz.out; omega) Hgw.out (k := 3) rfl q (.int .i64 (1152921504606846976 : Int)))
              clear q10f
              go_wp2
              go_roundw
              case rel =>
                refine ⟨q + 1, dist.set q (1152921504606846976 : Int), by omega, by go_num, by rw [List.length_set]; exact Hdl.out, fun l hl => ?_, Hg2w.out, Hg2.out, HO2.out⟩
                rw [ge_set dist (by rw [Hdl.out]; exact hqk)]
                split
                · rfl
                · exact Hdi.out l (by omega)
              case measure => simp [intOf]; omega
            · have hqe : K1 = q := by omega
              subst hqe
              have HPh : Hid (Ph n k (cst m) i ((j : Int) * (1099511627776 : Int)) u v (row.set 0 i) dist (List.replicate K1 0) [] 0 0) := Lib.hid (by
                have hj : i - 1 = j := by have := Hii.out; omega
                refine Mt.phase (by rw [hj]; exact HMt.out) hi1 hin (by rw [Hdl.out, hK1]) (by simp [← hK1]) (fun c hc => Hdi.out c (by omega))
                )
              obtain ⟨R, hR⟩ : ∃ R, row.set 0 i = R := ⟨_, rfl⟩
              rw [hR] at HPh HO
              have HRl : Hid (R.length = K1) := Lib.hid (by rw [← hR, List.length_set, Hlen.out.2.2, hK1])
              clear Hdi HMt hR Hlen hqk
              go_wp2
              go_loopg [9] (K1 + 1) (fun gk v9 wr => ∃ (u v dist : List Int) (way : List Nat) (used : List Bool) (ord : List Nat) (col : Nat) (D : Int), v9 = .int .i64 col ∧ gk + ord.length = K1 + 1 ∧
                Ph n k (cst m) i ((j : Int) * (1099511627776 : Int)) u v R dist way ord col D ∧ used.length = K1 ∧ (∀ c, c < K1 → gb used c = decide (c ∈ ord)) ∧ Grew w wr ∧ Grew wz wr ∧ Owns wr B (hmB N1 K1 g5 g6 g7 g10 g11 g12 u v R dist way used))
              case atStart =>
                refine ⟨u, v, dist, List.replicate K1 0, List.replicate K1 false, [], 0, 0, rfl, by simp, HPh.out, by simp, fun c hc => ?_, Hgw.out, Hgz2.out, HO.out⟩
                rw [gb_eq _ (by simpa using hc)]
                simp
              case round =>
                clear HPh HO Hgw Hgz2
                obtain ⟨u, v, dist, way, used, ord, col, D, rfl, hgk, hPh, hul, hus, hgw, hgz, hO⟩ := hrel
                have hck := hPh.colk
                have hcK : col < K1 := by omega
                have HPh := Lib.hid hPh
                have Hus := Lib.hid hus
                have Hul := Lib.hid hul
                have HO := Lib.hid hO
                have Hgw := Lib.hid hgw
                have Hgz2 := Lib.hid hgz
                have Hgk := Lib.hid hgk
                have q7 := own_atN HO.out (j := 2) rfl hcK
                obtain ⟨r, hr⟩ : ∃ r, gn R col = r := ⟨_, rfl⟩
                have hrn : r ≤ n := by
                  have := (hPh.row_le hck).1
                  omega
                rw [hr] at q7
                have Hr := Lib.hid hr
                clear hPh hul hus hgw hgz hO hgk hr
                by_cases hz : r = 0
                · as_aux_lemma =>
                  subst hz
                  have hPh := HPh.out
                  have hr0 : gn R col = 0 := Hr.out
                  have HAu := Lib.hid (hPh.au hr0)
                  have hol : ord.length ≤ K1 := nodup_len K1 hPh.nd (fun c hc => by have := hPh.ole c hc; omega)
                  clear hPh hr0
                  go_wp2
                  go_loopg [9] ord.length (fun gk v9 wr => ∃ (row' : List Nat) (h : Nat), v9 = .int .i64 h ∧ Au n k (cst m) i u v R ord row' h gk ∧ ((h = col ∧ gk = ord.length) ∨ ord[gk]? = some h) ∧ Grew w wr ∧ Grew wz wr ∧
                    Owns wr B (hmB N1 K1 g5 g6 g7 g10 g11 g12 u v row' dist way used))
                  case atStart => exact ⟨R, col, rfl, HAu.out, Or.inl ⟨rfl, rfl⟩, Hgw.out, Hgz2.out, HO.out⟩
                  case round =>
                    clear HAu HO Hgw Hgz2
                    obtain ⟨row', h, rfl, hAu, hpos, hgw, hgz, hO⟩ := hrel
                    have hhk := hAu.hk
                    have hhK : h < K1 := by omega
                    have HAu := Lib.hid hAu
                    have Hpos := Lib.hid hpos
                    have HO := Lib.hid hO
                    have Hgw := Lib.hid hgw
                    have Hgz2 := Lib.hid hgz
                    clear hAu hpos hgw hgz hO
                    by_cases hh : h = 0
                    · subst hh
                      have HM2 : Hid (Mt n k (cst m) i i u v row' ((i : Int) * (1099511627776 : Int))) := Lib.hid (by
                        have hD := HPh.out.D0
                        have := Hii.out
                        exact (HAu.out.done HPh.out).mono (by omega))
                      have HOA := Lib.hid (hm_front HO.out)
                      go_wp2
                      go_roundw
                      case rel => exact ⟨i, u, v, row', hin, by go_num, HM2.out, Hgw.out, Hgz2.out, HOA.out⟩
                      case measure => simp [intOf]; omega
                    · have hh1 : ((h : Int) == 0) = false := by rw [beq_eq_false_iff_ne]; omega
                      obtain ⟨t', ht1, ht2, hAu2⟩ := Au.step HPh.out HAu.out hh Hpos.out
                      obtain ⟨y, hy⟩ : ∃ y, gn way h = y := ⟨_, rfl⟩
                      have q11 := own_atN HO.out (j := 4) rfl hhK
                      rw [hy] at ht2 hAu2 q11
                      have hyk := hAu2.hk
                      have hyK : y < K1 := by omega
                      have q7a := own_atN HO.out (j := 2) rfl hyK
                      have q7b := own_atN HO.out (j := 2) rfl hhK
                      have q7c := own_lt HO.out (j := 2) rfl
                      have q7f := own_fr HO.out (j := 2) rfl
                      have q11c := own_lt HO.out (j := 4) rfl
                      have q7g := q7f h
                      obtain ⟨z, hz⟩ : ∃ z, gn row' y = z := ⟨_, rfl⟩
                      rw [hz] at q7a hAu2
                      have HO2 := Lib.hid (own_setN HO.out (j := 2) rfl h z)
                      have Hg2 := Lib.hid (HO.out.setGrew (w0 := wz) (by rw [HBz.out]; exact Nat.le_refl _) Hgz2.out (k := 2) rfl h (.int .i64 (z : Int)))
                      have Hg2w := Lib.hid (HO.out.setGrew (w0 := w) (by have := Hgz.out.below.size; have := HBz.out; omega) Hgw.out (k := 2) rfl h (.int .i64 (z : Int)))
                      have q11' := own_atN HO2.out (j := 4) rfl hhK
                      rw [hy] at q11'
                      have HAu2 := Lib.hid hAu2
                      have Ht2 := Lib.hid ht2
                      clear hAu2 ht2 q7f hy hz
                      go_upto_region 43 with fail
                      obtain ⟨wu, hwu⟩ : ∃ wu, wr.setCell ⟨g7, h, none⟩ (.int .i64 (z : Int)) = wu := ⟨_, rfl⟩
                      rw [hwu] at HO2 Hg2 Hg2w q11' ⊢
                      clear hwu q7a q7b q11
                      go_wp2
                      go_roundg t'
                      case measure => exact ht1
                      case rel => exact ⟨row'.set h z, y, rfl, HAu2.out, Or.inr Ht2.out, Hg2w.out, Hg2.out, HO2.out⟩
                · have hz1 : ((r : Int) == 0) = false := by rw [beq_eq_false_iff_ne]; omega
                  have hz2 : ((r : Int) != 0) = true := by rw [bne_iff_ne]; omega
                  have hr0 : 0 < r := by omega
                  have q12 := own_atB HO.out (j := 5) rfl hcK
                  have q12b := own_lt HO.out (j := 5) rfl
                  have q12f := own_fr HO.out (j := 5) rfl
                  have q12g := q12f col
                  have HO2 := Lib.hid (own_setB HO.out (j := 5) rfl col true)
                  have Hg2 := Lib.hid (HO.out.setGrew (w0 := wz) (by rw [HBz.out]; exact Nat.le_refl _) Hgz2.out (k := 5) rfl col (.bool true))
                  have Hg2w := Lib.hid (HO.out.setGrew (w0 := w) (by have := Hgz.out.below.size; have := HBz.out; omega) Hgw.out (k := 5) rfl col (.bool true))
                  have q7' := own_atN HO2.out (j := 2) rfl hcK
                  rw [Hr.out] at q7'
                  have Hul2 : Hid ((used.set col true).length = K1) := Lib.hid (by rw [List.length_set]; exact Hul.out)
                  have Hus2 : Hid (∀ c, c < K1 → gb (used.set col true) c = decide (c ∈ ord ∨ c = col)) := Lib.hid (fun c hc => by
                    rw [gb_set used (by rw [Hul.out]; exact hcK)]
                    by_cases e : c = col
                    · rw [if_pos e, decide_eq_true (Or.inr e)]
                    · rw [if_neg e, Hus.out c hc]
                      simp [e])
                  clear q12f
                  go_upto_region 20 with fail
                  obtain ⟨ws, hws⟩ : ∃ ws, wr.setCell ⟨g12, col, none⟩ (.bool true) = ws := ⟨_, rfl⟩
                  rw [hws] at HO2 Hg2 Hg2w q7' ⊢
                  clear hws q7 q7' q12 q12b q12g HO Hgw Hgz2
                  obtain ⟨us, hus⟩ : ∃ us, used.set col true = us := ⟨_, rfl⟩
                  rw [hus] at HO2 Hul2 Hus2
                  clear hus Hus Hul
                  go_wp2
                  go_loopw [15, 16, 17] (fun v15 v16 v17 wr => ∃ (x : Nat) (d2 : List Int) (w2 : List Nat) (delta : Int) (next : Nat), 1 ≤ x ∧ x ≤ K1 ∧ v17 = .int .i64 x ∧ v15 = .int .i64 next ∧ v16 = .int .i64 delta ∧
                    Sc n k (cst m) u v r col ord dist way x d2 w2 delta next ∧ Grew w wr ∧ Grew wz wr ∧ Owns wr B (hmB N1 K1 g5 g6 g7 g10 g11 g12 u v R d2 w2 us)) (fun _ _ v17 _ => (K1 - (intOf v17).toNat))
                  case atStart => exact ⟨1, dist, way, (1152921504606846976 : Int), 0, Nat.le_refl _, by omega, rfl, rfl, rfl, Sc.begin r col ord HPh.out.ld HPh.out.lw, Hg2w.out, Hg2.out, HO2.out⟩
                  case round =>
                    clear HO2 Hg2 Hg2w
                    obtain ⟨x, d2, w2, delta, next, hx1, hxK1, rfl, rfl, rfl, hSc, hgw, hgz, hO⟩ := hrel
                    have HSc := Lib.hid hSc
                    have HO := Lib.hid hO
                    have Hgw := Lib.hid hgw
                    have Hgz2 := Lib.hid hgz
                    clear hSc hgw hgz hO
                    by_cases hxK : x < K1
                    · have hxk : x ≤ k := by omega
                      have hxki : (x : Int) ≤ (k : Int) := by omega
                      have q12 := own_atB HO.out (j := 5) rfl hxK
                      rw [Hus2.out x hxK] at q12
                      have b12 := own_lt HO.out (j := 5) rfl
                      by_cases hu : x ∈ ord ∨ x = col
                      · rw [decide_eq_true hu] at q12
                        have HSc2 := Lib.hid (HSc.out.skip hu)
                        clear hu
                        go_wp2
                        go_roundw
                        case rel => exact ⟨x + 1, _, _, _, _, by omega, by omega, by go_num, rfl, rfl, HSc2.out, Hgw.out, Hgz2.out, HO.out⟩
                        case measure => simp [intOf]; omega
                      · rw [decide_eq_false hu] at q12
                        obtain ⟨r', hr'⟩ : ∃ r', r' + 1 = r := ⟨r - 1, by omega⟩
                        obtain ⟨x', hx'⟩ : ∃ x', x' + 1 = x := ⟨x - 1, by omega⟩
                        have hri : (r : Int) - 1 = (r' : Int) := by omega
                        have hxi : (x : Int) - 1 = (x' : Int) := by omega
                        have hrn' : r' < n := by omega
                        have hxk' : x' < k := by omega
                        obtain ⟨m1, m1b⟩ := (HA.out.grew Hgw.out).row r' hrn'
                        have m2 := (HA.out.grew Hgw.out).at' r' x' hrn' hxk'
                        have hAb := (HA.out.grew Hgw.out).hb
                        have hcb := HV.out.b r' (by rw [Hn.out]; exact hrn') x' (by rw [Hk.out]; exact hxk')
                        obtain ⟨a, ha⟩ : ∃ a, at2 m r' x' = a := ⟨_, rfl⟩
                        have hcs : cst m r x = if a < 0 then (1099511627776 : Int) else a := by
                          unfold cst
                          rw [show r - 1 = r' by omega, show x - 1 = x' by omega, ha]
                        rw [ha] at m2 hcb
                        have hub := HPh.out.m.ub r hrn
                        have hvb := HPh.out.m.vb x hxk
                        have hD := HPh.out.D0
                        have q5 := own_atI HO.out (j := 0) rfl (i := r) (by omega)
                        have q6 := own_atI HO.out (j := 1) rfl hxK
                        have q10 := own_atI HO.out (j := 3) rfl hxK
                        have q11 := own_atN HO.out (j := 4) rfl hxK
                        have b5 := own_lt HO.out (j := 0) rfl
                        have b6 := own_lt HO.out (j := 1) rfl
                        have b10' := own_lt HO.out (j := 3) rfl
                        have hu1 : x ∉ ord := fun h => hu (Or.inl h)
                        have hu2 : x ≠ col := fun h => hu (Or.inr h)
                        have hwst : wst (cst m) u v r x = (if a < 0 then (1099511627776 : Int) else a) - ge u r - ge v x := by unfold wst; rw [hcs]
                        obtain ⟨ur, hur⟩ : ∃ z, ge u r = z := ⟨_, rfl⟩
                        obtain ⟨vx, hvx⟩ : ∃ z, ge v x = z := ⟨_, rfl⟩
                        obtain ⟨dx, hdx⟩ : ∃ z, ge d2 x = z := ⟨_, rfl⟩
                        obtain ⟨wx, hwx⟩ : ∃ z, gn w2 x = z := ⟨_, rfl⟩
                        rw [hur] at q5 hub hwst
                        rw [hvx] at q6 hvb hwst
                        rw [hdx] at q10
                        rw [hwx] at q11
                        have hj15 : (j : Int) ≤ 15 := by have := Hii.out; omega
                        have hrN : r < N1 := by omega
                        obtain ⟨hub1, hub2⟩ := hub
                        obtain ⟨hvb1, hvb2⟩ := hvb
                        obtain ⟨hcb1, hcb2⟩ := hcb
                        have hur17 : ur ≤ 18691697672192 := by omega
                        have hvx17 : -18691697672192 ≤ vx := by omega
                        clear hub2 hvb1 hD hcs ha hur hvx hwx hu hr' hx'
                        obtain ⟨cc, hcc⟩ : ∃ z, (if a < 0 then (1099511627776 : Int) else a) = z := ⟨_, rfl⟩
                        rw [hcc] at hwst
                        have hccb : cc ≤ 1099511627776 ∧ 0 ≤ cc := by rw [← hcc]; split <;> omega
                        obtain ⟨hccb1, hccb2⟩ := hccb
                        have Hwst := Lib.hid hwst
                        have Hdx := Lib.hid hdx
                        have Hcc := Lib.hid hcc
                        have Hu1 := Lib.hid hu1
                        have Hu2 := Lib.hid hu2
                        clear hwst hdx hcc hu1 hu2
                        go_upto_if 99 with fail
                        go_cut [18] (fun v18 wx => v18 = .int .i64 cc ∧ wx = wr)
                        case first =>
                          by_cases hneg : a < 0
                          · have e := Hcc.out
                            rw [if_pos hneg] at e
                            go_wp2_with fail
                            go_meet
                            exact ⟨by rw [← e], rfl⟩
                          · go_wp2_with fail
                            go_meet
                            exact ⟨by have e := Hcc.out; rw [if_neg (by omega)] at e; rw [e], rfl⟩
                        case rest =>
                         as_aux_lemma =>
                          obtain ⟨rfl, rfl⟩ := hcut
                          clear hcb1 hcb2 m1 m1b m2 q12 b12
                          obtain ⟨W, hWe⟩ : ∃ W, cc - ur - vx = W := ⟨_, rfl⟩
                          have Hw2 : Hid (wst (cst m) u v r x = W) := Lib.hid (by rw [Hwst.out, hWe])
                          have hWb : W ≤ 20000000000000 ∧ -20000000000000 ≤ W := by omega
                          obtain ⟨hWb1, hWb2⟩ := hWb
                          go_upto_region 27 with fail
                          refine wp_region_over (by kernel_rfl) (by kernel_rfl) ?_; (repeat (go_big_quiet_step (fail))); refine wpQuiet_nil ?_; intro wq hW; replace hW : Grew _ wq := hW
                          have HOq := Lib.hid (HO.out.grew hW)
                          have Hgwq := Lib.hid (Hgw.out.trans hW)
                          have Hgzq := Lib.hid (Hgz2.out.trans hW)
                          replace q10 := hW.cellEq q10
                          replace q11 := hW.cellEq q11
                          have b10 := own_lt HOq.out (j := 3) rfl
                          have f10 := own_fr HOq.out (j := 3) rfl
                          have b11 := own_lt HOq.out (j := 4) rfl
                          have f11 := own_fr HOq.out (j := 4) rfl
                          replace f10 := f10 x
                          replace f11 := f11 x
                          clear hW q5 q6 hWe b5 b6 b10' HO Hgw Hgz2 Hwst
                          go_upto_if 116 with fail
                          go_cut [17] (fun v17 wx => v17 = .int .i64 x ∧ ∃ (d3 : List Int) (w3 : List Nat), ((W < dx ∧ d3 = d2.set x W ∧ w3 = w2.set x col) ∨ (¬ W < dx ∧ d3 = d2 ∧ w3 = w2)) ∧ Grew w wx ∧ Grew wz wx ∧ Owns wx B (hmB N1 K1 g5 g6 g7 g10 g11 g12 u v R d3 w3 us))
                          case first =>
                            by_cases h1 : W < dx
                            · have q11n := own_atN (own_setI HOq.out (j := 3) rfl x W) (j := 4) rfl hxK
                              have b11n := own_lt (own_setI HOq.out (j := 3) rfl x W) (j := 4) rfl
                              have f11n := own_fr (own_setI HOq.out (j := 3) rfl x W) (j := 4) rfl
                              replace f11n := f11n x
                              have HO3 := Lib.hid (own_setN (own_setI HOq.out (j := 3) rfl x W) (j := 4) rfl x col)
                              have Hg3 := Lib.hid ((own_setI HOq.out (j := 3) rfl x W).setGrew (w0 := wz) (by rw [HBz.out]; exact Nat.le_refl _) (HOq.out.setGrew (w0 := wz) (by rw [HBz.out]; exact Nat.le_refl _) Hgzq.out (k := 3) rfl x (.int .i64 W)) (k := 4) rfl x (.int .i64 (col : Int)))
                              have Hg3w := Lib.hid ((own_setI HOq.out (j := 3) rfl x W).setGrew (w0 := w) (by have := Hgz.out.below.size; have := HBz.out; omega) (HOq.out.setGrew (w0 := w) (by have := Hgz.out.below.size; have := HBz.out; omega) Hgwq.out (k := 3) rfl x (.int .i64 W)) (k := 4) rfl x (.int .i64 (col : Int)))
                              go_wp2_with fail
                              go_meet
                              exact ⟨rfl, _, _, Or.inl ⟨h1, rfl, rfl⟩, Hg3w.out, Hg3.out, HO3.out⟩
                            · go_wp2_with fail
                              go_meet
                              exact ⟨rfl, _, _, Or.inr ⟨h1, rfl, rfl⟩, Hgwq.out, Hgzq.out, HOq.out⟩
                          case rest =>
                           as_aux_lemma =>
                            obtain ⟨rfl, d3, w3, hd3, hgw3, hgz3, hO3⟩ := hcut
                            have Hd3 := Lib.hid hd3
                            have HO3 := Lib.hid hO3
                            have Hgw3 := Lib.hid hgw3
                            have Hgz3 := Lib.hid hgz3
                            clear hd3 hgw3 hgz3 hO3 HOq Hgwq Hgzq q10 q11 b10 f10 b11 f11
                            have q10 := own_atI HO3.out (j := 3) rfl hxK
                            have b10 := own_lt HO3.out (j := 3) rfl
                            obtain ⟨e, he⟩ : ∃ z, ge d3 x = z := ⟨_, rfl⟩
                            have He : Hid (ge d3 x < (1152921504606846976 : Int) ∧ d3.length = k + 1 ∧ w3.length = k + 1) := Lib.hid (by
                              obtain ⟨h1, h2, h3⟩ | ⟨h1, h2, h3⟩ := Hd3.out
                              · rw [h2, h3, ge_set d2 (by rw [HSc.out.ld]; omega), if_pos rfl, List.length_set, List.length_set]
                                exact ⟨by omega, HSc.out.ld, HSc.out.lw⟩
                              · rw [h2, h3, Hdx.out]
                                exact ⟨by omega, HSc.out.ld, HSc.out.lw⟩)
                            have Hd : Hid ((wst (cst m) u v r x < ge d2 x ∧ d3 = d2.set x (wst (cst m) u v r x) ∧ w3 = w2.set x col) ∨ (¬ wst (cst m) u v r x < ge d2 x ∧ d3 = d2 ∧ w3 = w2)) := Lib.hid (by rw [Hw2.out, Hdx.out]; exact Hd3.out)
                            rw [he] at q10
                            have Hee := Lib.hid he
                            clear he Hd3
                            by_cases h2 : e < delta
                            · have HSc2 : Hid (Sc n k (cst m) u v r col ord dist way (x + 1) d3 w3 e x) := Lib.hid (
                                HSc.out.take hx1 (by omega) Hu1.out Hu2.out He.out.2.1 He.out.2.2 Hd.out He.out.1 (Or.inl ⟨by rw [Hee.out]; exact h2, Hee.out.symm, rfl⟩))
                              go_wp2
                              go_roundw
                              case rel => exact ⟨x + 1, _, _, _, _, by omega, by omega, by go_num, rfl, rfl, HSc2.out, Hgw3.out, Hgz3.out, HO3.out⟩
                              case measure => simp [intOf]; omega
                            · have HSc2 : Hid (Sc n k (cst m) u v r col ord dist way (x + 1) d3 w3 delta next) := Lib.hid (
                                HSc.out.take hx1 (by omega) Hu1.out Hu2.out He.out.2.1 He.out.2.2 Hd.out He.out.1 (Or.inr ⟨by rw [Hee.out]; exact h2, rfl, rfl⟩))
                              go_wp2
                              go_roundw
                              case rel => exact ⟨x + 1, _, _, _, _, by omega, by omega, by go_num, rfl, rfl, HSc2.out, Hgw3.out, Hgz3.out, HO3.out⟩
                              case measure => simp [intOf]; omega
                    · have hxe : K1 = x := by omega
                      subst hxe
                      have hRr := Hr.out
                      have hrg : 0 < gn R col := by rw [hRr]; exact hr0
                      have hj15 : (j : Int) ≤ 15 := by have := Hii.out; omega
                      have hb16 : (j : Int) * (1099511627776 : Int) ≤ 16 * (1099511627776 : Int) := by omega
                      have HScE : Hid (Sc n k (cst m) u v (gn R col) col ord dist way (k + 1) d2 w2 delta next) := Lib.hid (by rw [hRr, hK1]; exact HSc.out)
                      obtain ⟨hnx, hd0, hdD⟩ := HPh.out.dlt HC.out hb16 hrg HScE.out
                      have hsc := fun c h1 h2 h3 h4 => HPh.out.scan HC.out hb16 hrg HScE.out (c := c) h1 h2 h3 h4
                      have hwl := fun c h1 h2 => HPh.out.wst_lt HC.out hb16 (r := gn R col) (c := c) hrg (by rw [hRr]; exact hrn) h1 h2
                      have Hdl2 : Hid (∀ c, 1 ≤ c → c ≤ k → c ∉ ord → c ≠ col → delta ≤ ge d2 c ∧ ge d2 c ≤ 18 * (1099511627776 : Int)) := Lib.hid (fun c h1 h2 h3 h4 => by
                        have g := (HScE.out.got hnx).2.2.2.2.2 c h1 (by omega) h2 h3 h4
                        have g2 := (hsc c h1 h2 h3 h4).2.2.2.1
                        have g3 := hwl c h1 h2
                        exact ⟨g, by omega⟩)
                      have hD0 := HPh.out.D0.1
                      have hdf : delta ≤ 1099511627776 := by omega
                      have Hub : Hid (∀ r, r ≤ n → 0 ≤ ge u r ∧ ge u r ≤ 17 * (1099511627776 : Int)) := Lib.hid (fun r hr => by
                        have := HPh.out.m.ub r hr
                        omega)
                      have Hvb : Hid (∀ c, c ≤ k → -(17 * (1099511627776 : Int)) ≤ ge v c ∧ ge v c ≤ 0) := Lib.hid (fun c hc => by
                        have := HPh.out.m.vb c hc
                        omega)
                      have HUp0 : Hid (Up n k R (ord ++ [col]) delta u v d2 0 u v d2) := Lib.hid (Up.begin R (ord ++ [col]) delta HPh.out.m.lu HPh.out.m.lv HScE.out.ld)
                      have Hrg : Hid (0 < gn R col) := Lib.hid hrg
                      have Hb16 : Hid ((j : Int) * (1099511627776 : Int) ≤ 16 * (1099511627776 : Int)) := Lib.hid hb16
                      clear hsc hwl hRr hrg hb16 hxK hxK1 hx1 hdD hD0 HSc hj15
                      go_wp2
                      go_loopw [138] (fun v138 wr => ∃ (c : Nat) (u2 v2 d3 : List Int), c ≤ K1 ∧ v138 = .int .i64 c ∧ Up n k R (ord ++ [col]) delta u v d2 c u2 v2 d3 ∧ Grew w wr ∧ Grew wz wr ∧ Owns wr B (hmB N1 K1 g5 g6 g7 g10 g11 g12 u2 v2 R d3 w2 us)) (fun v138 _ => (K1 - (intOf v138).toNat))
                      case atStart => exact ⟨0, _, _, _, Nat.zero_le _, rfl, HUp0.out, Hgw.out, Hgz2.out, HO.out⟩
                      case round =>
                        clear HUp0 HO Hgw Hgz2
                        obtain ⟨c, u2, v2, d3, hcK1, rfl, hUp, hgw, hgz, hO⟩ := hrel
                        have HUp := Lib.hid hUp
                        have HO := Lib.hid hO
                        have Hgw := Lib.hid hgw
                        have Hgz2 := Lib.hid hgz
                        clear hUp hgw hgz hO
                        by_cases hcK : c < K1
                        · have hck' : c ≤ k := by omega
                          have q12 := own_atB HO.out (j := 5) rfl hcK
                          rw [Hus2.out c hcK] at q12
                          have b12 := own_lt HO.out (j := 5) rfl
                          by_cases hu : c ∈ ord ∨ c = col
                          · as_aux_lemma =>
                            rw [decide_eq_true hu] at q12
                            have hmem : c ∈ ord ++ [col] := by rw [List.mem_append, List.mem_singleton]; exact hu
                            obtain ⟨t, ht⟩ : ∃ t, gn R c = t := ⟨_, rfl⟩
                            have htn : t ≤ n := by
                              have := (HPh.out.row_le hck').1
                              have := Hii.out
                              omega
                            have ht0 : 0 < gn R c := by
                              rcases hu with h | h
                              · exact (HPh.out.row_ord h).1
                              · rw [h]; exact Hrg.out
                            have hinj : ∀ y, y < c → y ∈ ord ++ [col] → gn R y ≠ gn R c := fun y hy _ he => by
                              have := HPh.out.inj_ord (c := c) (c' := y) hck' (by omega) he.symm ht0
                              omega
                            have hUp2 := HUp.out.used hck' hmem (by rw [ht]; exact htn) hinj
                            have eu := HUp.out.uN (gn R c) hinj
                            have ev := HUp.out.vN c (Or.inl (Nat.le_refl _))
                            rw [ht] at eu hUp2
                            obtain ⟨ut, hut⟩ : ∃ z, ge u2 t = z := ⟨_, rfl⟩
                            obtain ⟨vc, hvc⟩ : ∃ z, ge v2 c = z := ⟨_, rfl⟩
                            have hub := Hub.out t htn
                            have hvb := Hvb.out c hck'
                            rw [← eu, hut] at hub
                            rw [← ev, hvc] at hvb
                            rw [hut, hvc] at hUp2
                            obtain ⟨hub1, hub2⟩ := hub
                            obtain ⟨hvb1, hvb2⟩ := hvb
                            have htN : t < N1 := by omega
                            have q5 := own_atI HO.out (j := 0) rfl htN
                            have q6 := own_atI HO.out (j := 1) rfl hcK
                            have q7 := own_atN HO.out (j := 2) rfl hcK
                            have b5 := own_lt HO.out (j := 0) rfl
                            have b7 := own_lt HO.out (j := 2) rfl
                            have f5 := own_fr HO.out (j := 0) rfl
                            replace f5 := f5 t
                            rw [hut] at q5
                            rw [hvc] at q6
                            rw [ht] at q7
                            obtain ⟨ut2, hut2⟩ : ∃ z, ut + delta = z := ⟨_, rfl⟩
                            obtain ⟨vc2, hvc2⟩ : ∃ z, vc - delta = z := ⟨_, rfl⟩
                            rw [hut2, hvc2] at hUp2
                            have HUp2 := Lib.hid hUp2
                            have Hut2 := Lib.hid hut2
                            have Hvc2 := Lib.hid hvc2
                            have HO2 := Lib.hid (own_setI HO.out (j := 0) rfl t ut2)
                            have Hg2 := Lib.hid (HO.out.setGrew (w0 := wz) (by rw [HBz.out]; exact Nat.le_refl _) Hgz2.out (k := 0) rfl t (.int .i64 ut2))
                            have Hg2w := Lib.hid (HO.out.setGrew (w0 := w) (by have := Hgz.out.below.size; have := HBz.out; omega) Hgw.out (k := 0) rfl t (.int .i64 ut2))
                            have q6' := own_atI HO2.out (j := 1) rfl hcK
                            rw [hvc] at q6'
                            clear hUp2 eu ev hut hvc hinj ht0 ht hmem hu hut2 hvc2
                            go_upto_region 37 with fail
                            rw [Hut2.out]
                            obtain ⟨wu, hwu⟩ : ∃ wu, wr.setCell ⟨g5, t, none⟩ (.int .i64 ut2) = wu := ⟨_, rfl⟩
                            rw [hwu] at HO2 Hg2 Hg2w q6' ⊢
                            clear hwu q5 q6 q7 q12 b5 b7 f5 b12 HO Hgw Hgz2
                            have b6 := own_lt HO2.out (j := 1) rfl
                            have f6 := own_fr HO2.out (j := 1) rfl
                            replace f6 := f6 c
                            have HO3 := Lib.hid (own_setI HO2.out (j := 1) rfl c vc2)
                            have Hg3 := Lib.hid (HO2.out.setGrew (w0 := wz) (by rw [HBz.out]; exact Nat.le_refl _) Hg2.out (k := 1) rfl c (.int .i64 vc2))
                            have Hg3w := Lib.hid (HO2.out.setGrew (w0 := w) (by have := Hgz.out.below.size; have := HBz.out; omega) Hg2w.out (k := 1) rfl c (.int .i64 vc2))
                            go_upto_region 39 with fail
                            rw [Hvc2.out]
                            go_wp2
                            go_roundw
                            case rel => exact ⟨c + 1, _, _, _, by omega, by go_num, HUp2.out, Hg3w.out, Hg3.out, HO3.out⟩
                            case measure => simp [intOf]; omega
                          · as_aux_lemma =>
                            rw [decide_eq_false hu] at q12
                            have hmem : c ∉ ord ++ [col] := by rw [List.mem_append, List.mem_singleton]; exact hu
                            have hUp2 := HUp.out.other hck' hmem
                            have ed := HUp.out.dN c (Or.inl (Nat.le_refl _))
                            have hc1 : 1 ≤ c := by
                              rcases Nat.eq_zero_or_pos c with h | h
                              · exfalso
                                subst h
                                by_cases e : ord = []
                                · exact hu (Or.inr (HPh.out.start e).1.symm)
                                · exact hu (Or.inl (HPh.out.zero e))
                              · exact h
                            have hdb := Hdl2.out c hc1 hck' (fun h => hu (Or.inl h)) (fun h => hu (Or.inr h))
                            obtain ⟨dc, hdc⟩ : ∃ z, ge d3 c = z := ⟨_, rfl⟩
                            rw [← ed, hdc] at hdb
                            rw [hdc] at hUp2
                            obtain ⟨hdb1, hdb2⟩ := hdb
                            have q10 := own_atI HO.out (j := 3) rfl hcK
                            have b10 := own_lt HO.out (j := 3) rfl
                            have f10 := own_fr HO.out (j := 3) rfl
                            replace f10 := f10 c
                            rw [hdc] at q10
                            obtain ⟨dc2, hdc2⟩ : ∃ z, dc - delta = z := ⟨_, rfl⟩
                            rw [hdc2] at hUp2
                            have HUp2 := Lib.hid hUp2
                            have Hdc2 := Lib.hid hdc2
                            have HO3 := Lib.hid (own_setI HO.out (j := 3) rfl c dc2)
                            have Hg3 := Lib.hid (HO.out.setGrew (w0 := wz) (by rw [HBz.out]; exact Nat.le_refl _) Hgz2.out (k := 3) rfl c (.int .i64 dc2))
                            have Hg3w := Lib.hid (HO.out.setGrew (w0 := w) (by have := Hgz.out.below.size; have := HBz.out; omega) Hgw.out (k := 3) rfl c (.int .i64 dc2))
                            clear hUp2 ed hdc hmem hu hdc2
                            go_upto_region 39 with fail
                            rw [Hdc2.out]
                            go_wp2
                            go_roundw
                            case rel => exact ⟨c + 1, _, _, _, by omega, by go_num, HUp2.out, Hg3w.out, Hg3.out, HO3.out⟩
                            case measure => simp [intOf]; omega
                        · have hce : K1 = c := by omega
                          subst hce
                          have HUpE : Hid (Up n k R (ord ++ [col]) delta u v d2 (k + 1) u2 v2 d3) := Lib.hid (by rw [hK1]; exact HUp.out)
                          have HPh2 := Lib.hid (HPh.out.round HC.out Hb16.out Hrg.out HScE.out HUpE.out)
                          have hol : ord.length ≤ K1 := nodup_len K1 HPh.out.nd (fun c hc => by have := HPh.out.ole c hc; omega)
                          have hgk1 := Hgk.out
                          have Hus3 : Hid (∀ c, c < K1 → gb us c = decide (c ∈ ord ++ [col])) := Lib.hid (fun c hc => by
                            rw [Hus2.out c hc]
                            exact decide_eq_decide.2 (by rw [List.mem_append, List.mem_singleton]))
                          have Hgk2 : Hid ((gk - 1) + (ord ++ [col]).length = K1 + 1) := Lib.hid (by rw [List.length_append, List.length_singleton]; omega)
                          have Hm : Hid (gk - 1 < gk) := Lib.hid (by omega)
                          clear hgk1 hol
                          go_wp2
                          go_roundg (gk - 1)
                          case measure => exact Hm.out
                          case rel => exact ⟨u2, v2, d3, w2, us, ord ++ [col], next, _, rfl, Hgk2.out, HPh2.out, Hul2.out, Hus3.out, Hgw.out, Hgz2.out, HO.out⟩
      · have hje : j = n := by have := Hii.out; omega
        subst hje
        have hgt : (j : Int) < (i : Int) := by omega
        have HMn : Hid (Mt j k (cst m) j j u v row ((j : Int) * (1099511627776 : Int))) := Lib.hid HMt.out
        clear HMt hi hii Hii hin
        as_aux_lemma =>
        have Hms : Hid (∀ y, y ≤ k → 0 ≤ mSum m row y ∧ mSum m row y ≤ (y : Int) * (1099511627776 : Int)) := Lib.hid (mSum_bd HMn.out HC.out)
        go_wp2
        go_loopw [21, 22] (fun v21 v22 wr => ∃ x : Nat, 1 ≤ x ∧ x ≤ K1 ∧ v22 = .int .i64 x ∧ v21 = .int .i64 (mSum m row (x - 1)) ∧ (∀ c, c + 1 < x → 0 < gn row (c + 1) → 0 ≤ at2 m (gn row (c + 1) - 1) c) ∧ Grew w wr ∧ Owns wr B (hmA N1 K1 g5 g6 g7 u v row)) (fun _ v22 _ => (K1 - (intOf v22).toNat))
        case atStart => exact ⟨1, Nat.le_refl _, by omega, rfl, rfl, fun c hc => by omega, Hgw.out, HO.out⟩
        case round =>
          clear HO Hgw Hgz2
          obtain ⟨x, hx1, hxK1, rfl, rfl, hpos, hgw, hO⟩ := hrel
          obtain ⟨x', hx'⟩ : ∃ x', x' + 1 = x := ⟨x - 1, by omega⟩
          have hxi : (x : Int) - 1 = (x' : Int) := by omega
          have hxs : x - 1 = x' := by omega
          rw [hxs]
          have HO := Lib.hid hO
          have Hgw := Lib.hid hgw
          have Hpos := Lib.hid hpos
          clear hO hgw hpos
          by_cases hxK : x < K1
          · have hxk : x ≤ k := by omega
            have hxki : (x : Int) ≤ (k : Int) := by omega
            have hxk' : x' < k := by omega
            have q7 := own_atN HO.out (j := 2) rfl hxK
            have b7 := own_lt HO.out (j := 2) rfl
            have hrn := HMn.out.rle x hx1 hxk
            have hsb := Hms.out x' (by omega)
            obtain ⟨r, hr⟩ : ∃ r, gn row x = r := ⟨_, rfl⟩
            rw [hr] at q7 hrn
            have hms : mSum m row (x' + 1) = mSum m row x' + (if 0 < gn row (x' + 1) then cst m (gn row (x' + 1)) (x' + 1) else 0) := rfl
            rw [hx', hr] at hms
            obtain ⟨s, hs⟩ : ∃ s, mSum m row x' = s := ⟨_, rfl⟩
            rw [hs] at hms hsb ⊢
            obtain ⟨hsb1, hsb2⟩ := hsb
            have hsb3 : s ≤ 70368744177664 := by omega
            have Hmsx := Lib.hid hms
            have Hr := Lib.hid hr
            clear hms hr hs hsb2
            by_cases hz : r = 0
            · have Hmx : Hid (mSum m row x = s) := Lib.hid (by rw [Hmsx.out, if_neg (by omega)]; omega)
              have Hpos2 : Hid (∀ c, c + 1 < x + 1 → 0 < gn row (c + 1) → 0 ≤ at2 m (gn row (c + 1) - 1) c) := Lib.hid (fun c hc hp => by
                by_cases e : c + 1 = x
                · rw [e, Hr.out] at hp; omega
                · exact Hpos.out c (by omega) hp)
              subst hz
              go_wp2
              go_roundw
              case rel => exact ⟨x + 1, by omega, by omega, by go_num, by rw [Nat.add_sub_cancel, Hmx.out], Hpos2.out, Hgw.out, HO.out⟩
              case measure => simp [intOf]; omega
            · obtain ⟨r', hr'⟩ : ∃ r', r' + 1 = r := ⟨r - 1, by omega⟩
              have hri : (r : Int) - 1 = (r' : Int) := by omega
              have hr1 : 0 < r := by omega
              have hrn' : r' < j := by omega
              obtain ⟨m1, m1b⟩ := (HA.out.grew Hgw.out).row r' hrn'
              have m2 := (HA.out.grew Hgw.out).at' r' x' hrn' hxk'
              have hAb := (HA.out.grew Hgw.out).hb
              have hcb := HV.out.b r' (by rw [Hn.out]; exact hrn') x' (by rw [Hk.out]; exact hxk')
              obtain ⟨a, ha⟩ : ∃ a, at2 m r' x' = a := ⟨_, rfl⟩
              rw [ha] at m2 hcb
              obtain ⟨hcb1, hcb2⟩ := hcb
              have hcs : cst m r x = if a < 0 then (1099511627776 : Int) else a := by
                unfold cst
                rw [show r - 1 = r' by omega, show x - 1 = x' by omega, ha]
              have Hcs := Lib.hid hcs
              have Ha := Lib.hid ha
              have hjc : (r : Int) ≤ (j : Int) := by omega
              clear hcs ha hr'
              by_cases hneg : a < 0
              · have Hf : Hid (LeastV m (1099511627776 : Int)) := Lib.hid (by
                  have hM := HMn.out
                  rw [← Hn.out] at hM
                  have hk := Hk.out
                  rw [← hk] at hM hxk'
                  refine least_far HV.out hM hxk' (by rw [hx', Hr.out]; exact hr1) ?_
                  rw [hx', Hr.out, show r - 1 = r' by omega, Ha.out]
                  exact hneg)
                go_wp2
                go_ret
                exact ⟨⟨_, rfl, Hf.out⟩, Hgw.out⟩
              · have Hmx : Hid (mSum m row x = s + a) := Lib.hid (by rw [Hmsx.out, if_pos hr1, Hcs.out, if_neg hneg])
                have Hpos2 : Hid (∀ c, c + 1 < x + 1 → 0 < gn row (c + 1) → 0 ≤ at2 m (gn row (c + 1) - 1) c) := Lib.hid (fun c hc hp => by
                  by_cases e : c + 1 = x
                  · have e2 : c = x' := by omega
                    rw [e, Hr.out, e2, show r - 1 = r' by omega, Ha.out]; omega
                  · exact Hpos.out c (by omega) hp)
                go_wp2
                go_roundw
                case rel => exact ⟨x + 1, by omega, by omega, by go_num, by rw [Nat.add_sub_cancel, Hmx.out], Hpos2.out, Hgw.out, HO.out⟩
                case measure => simp [intOf]; omega
          · have hxe : x' = k := by omega
            have Hf : Hid (LeastV m (mSum m row x')) := Lib.hid (by
              have hM := HMn.out
              rw [← Hn.out] at hM
              have hk := Hk.out
              rw [hxe, ← hk]
              rw [← hk] at hM
              refine least_found HV.out hM fun c hc hp => ?_
              rw [hk] at hc
              exact Hpos.out c (by omega) hp)
            clear hxe
            go_wp2
            go_ret
            exact ⟨⟨_, rfl, Hf.out⟩, Hgw.out⟩
end Go.Proofs.Ytdenjldadlgniaa
