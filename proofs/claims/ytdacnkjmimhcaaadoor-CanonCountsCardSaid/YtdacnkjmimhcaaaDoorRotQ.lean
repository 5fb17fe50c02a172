/- components of the program: the walk. -/
import Derived.Test.YtdacnkjmimhcaaaDoorRotP
import Derived.Test.YtdacnkjmimhcaaaDoorQue
import Derived.Deep.LoopGhost
set_option linter.unusedSimpArgs false
set_option linter.unusedVariables false
namespace Go.Proofs.YtdacnkjmimhcaaaDoor
open Go.RowKit
attribute [local go_sem ↓] Go.wp_at_zero Go.wp_at_succ

set_option maxRecDepth 8000 in
set_option maxHeartbeats 16000000 in
theorem comps_p (N : Int) (pE pA : Option Addr) (nE nA cE cA : Nat) (E : List (Int × Int)) (A : List (List Int)) (w : World) (hR : RotAt w pE pA E A) (hV : vRot N E A) (hnE : E.length = nE) (hnA : A.length = nA) :
    Calls Tryd.prog 57 #[.agg #[.int .i64 N, .slice pE nE cE, .slice pA nA cA]] w fun e w' => e = .returned (.int .i64 (cntL E A.length)) ∧ Grew w w' := by
  subst hnE hnA
  have he1 := hR.e1
  have ha1 := hR.a1
  have hN : N = A.length := hV.al.symm
  subst hN
  have HR := Lib.hid hR
  have HL := Lib.hid hR.r1
  have HV := Lib.hid hV
  clear hR hV
  go_enter Tryd.func57, Tryd.ntmps57
  go_wp2_with (refine wp_make_owns rfl _ _ 58 rfl 4 1 (.bool false) Tryd.underlying58 Tryd.infoBool rfl .i64 .i64 _ _ A.length rfl rfl rfl rfl (by omega) (by simp only [maxLen]; omega) (w.heap.size + 1) [] (Owns.nil _ _) (by simp) ?_; intro w4 hO hg4 hs4; have HO4 := Lib.hid hO; have Hg4 := Lib.hid hg4; have hsz4 := hg4.below.size; have b0 := hg4.cellEq (b := w.heap.size) (i := 0) (v := .int .i64 A.length) (by first | (go_simp; done) | (simp [go_sem, ↓IntWalk.iteOmega, *]; done)); clear hO hg4)
  simp at hs4 hsz4
  have HwB : Hid (Grew w (w.alloc (.cells #[.int .i64 A.length, .slice pE E.length cE, .slice pA A.length cA] 25))) := Lib.hid ((Grew.refl w).alloc _)
  have Hc0 : Hid ((w.alloc (.cells #[.int .i64 A.length, .slice pE E.length cE, .slice pA A.length cA] 25)).cell? ⟨w.heap.size, 0, none⟩ = some (.int .i64 A.length)) := Lib.hid (by simp [go_sem])
  have Hc1 : Hid ((w.alloc (.cells #[.int .i64 A.length, .slice pE E.length cE, .slice pA A.length cA] 25)).cell? ⟨w.heap.size, 1, none⟩ = some (.slice pE E.length cE)) := Lib.hid (by simp [go_sem])
  have Hc2 : Hid ((w.alloc (.cells #[.int .i64 A.length, .slice pE E.length cE, .slice pA A.length cA] 25)).cell? ⟨w.heap.size, 2, none⟩ = some (.slice pA A.length cA)) := Lib.hid (by simp [go_sem])
  have hsB : (w.alloc (.cells #[.int .i64 A.length, .slice pE E.length cE, .slice pA A.length cA] 25)).heap.size = w.heap.size + 1 := by simp
  obtain ⟨wB, hwB⟩ : ∃ wB, w.alloc (.cells #[.int .i64 A.length, .slice pE E.length cE, .slice pA A.length cA] 25) = wB := ⟨_, rfl⟩
  rw [hwB] at Hg4 HwB Hc0 Hc1 Hc2 hsB HO4
  clear hwB
  rw [hsB] at HO4
  go_loopw [4, 15] (fun vn i wq => ∃ v : Nat, v ≤ A.length ∧ i = .int .i64 v ∧ vn = .int .i64 (cntL E v) ∧ Grew wB wq ∧ w4.heap.size ≤ wq.heap.size ∧ ∃ S : List Int, Met A.length S ∧ (∀ x, x ∈ S ↔ old E v x) ∧ Owns wq (w.heap.size + 1) [⟨.slice (some ⟨w.heap.size + 1, 0, none⟩) A.length A.length, 4, 1, A.length, bls A.length S⟩]) (fun _ i _ => A.length - (intOf i).toNat)
  case atStart =>
    refine ⟨0, Nat.zero_le _, rfl, rfl, Hg4.out, Nat.le_refl _, [], ⟨List.nodup_nil, fun _ h => by cases h⟩, fun x => ⟨fun h => (by cases h), fun h => (by obtain ⟨u, h1, h2, _⟩ := h; omega)⟩, ?_⟩
    rw [bls_nil]
    exact HO4.out
  case round =>
    obtain ⟨v, hv, rfl, rfl, hgq, hsq, S, hmet, hS, hOq⟩ := hrel
    have hcv : cntL E v ≤ v := cntP_le _ v
    have Hcs := Lib.hid (cntL_succ (N := 0) hS)
    obtain ⟨c, hc⟩ : ∃ c, cntL E v = c := ⟨_, rfl⟩
    rw [hc] at hcv Hcs ⊢
    have Hc := Lib.hid hc
    clear hc
    have Hgq := Lib.hid hgq
    have HOq := Lib.hid hOq
    have Hmet := Lib.hid hmet
    have HS := Lib.hid hS
    have q0 := hgq.cellEq Hc0.out
    have Hwq : Hid (Grew w wr) := Lib.hid (HwB.out.trans hgq)
    clear hgq hOq hmet hS
    by_cases hlv : v < A.length
    · obtain ⟨gM, cM, eM, _, kM, _, _, nM, mM⟩ := HOq.out.some (k := 0) rfl (by omega)
      cases eM
      have x1 := mM v _ (bls_get _ hlv)
      have x2 := nM v
      clear nM mM
      by_cases hin : (v : Int) ∈ S
      · rw [decide_eq_true hin] at x1
        have Hcs2 : Hid (cntL E (v + 1) = c) := Lib.hid (by rw [Hcs.out, if_pos hin]; rfl)
        have HS2 : Hid (∀ x, x ∈ S ↔ old E (v + 1) x) := Lib.hid (fun x => ⟨fun h => ((HS.out x).1 h).mono, fun ⟨u, h1, h2, h3⟩ => by
          by_cases e : u < v
          · exact (HS.out x).2 ⟨u, h1, e, h3⟩
          · have : u = v := by push_cast at h2; omega
            subst this
            obtain ⟨u', g1, g2, g3⟩ := (HS.out _).1 hin
            exact (HS.out x).2 ⟨u', g1, g2, g3.trans h3⟩⟩)
        clear hin
        go_wp2
        go_roundw
        case rel => exact ⟨v + 1, by omega, by go_num, by rw [Hcs2.out], Hgq.out.trans (by (repeat (first | exact Grew.refl _ | refine Grew.over ?_ _ | refine Grew.alloc ?_ _ | refine Grew.drew ?_ | refine Grew.drewN ?_ _))), by omega, S, Hmet.out, HS2.out, HOq.out.grew (by (repeat (first | exact Grew.refl _ | refine Grew.over ?_ _ | refine Grew.alloc ?_ _ | refine Grew.drew ?_ | refine Grew.drewN ?_ _)))⟩
        case measure => simp [intOf]; omega
      have Hcs2 : Hid (cntL E (v + 1) = c + 1) := Lib.hid (by rw [Hcs.out, if_neg hin])
      have Hst := Lib.hid (Bfs.start Hmet.out HS.out hlv hin)
      rw [decide_eq_false hin] at x1
      clear hin
      have HOs : Hid (Owns (wr.setCell ⟨w.heap.size + 1, v, none⟩ (.bool true)) (w.heap.size + 1) [⟨.slice (some ⟨w.heap.size + 1, 0, none⟩) A.length A.length, 4, 1, A.length, bls A.length (S ++ [(v : Int)])⟩]) := Lib.hid (by
        have h := HOq.out.set (k := 0) rfl v (.bool true)
        rw [bls_set _ hlv] at h
        exact h)
      have Hgs := Lib.hid (Hgq.out.setCell (show wB.heap.size ≤ (⟨w.heap.size + 1, v, none⟩ : Addr).block by dsimp only; omega) (.bool true))
      go_wp2
      go_loopg [6] (A.length + 1) (fun k v6 wk => ∃ (S q : List Int) (g off p cap : Nat) (ys : List Value), v6 = .slice (some ⟨g, off, none⟩) q.length cap ∧ Bfs E A.length v S q ∧ q.length + (A.length - S.length) ≤ k ∧ k ≤ A.length + 1 ∧ Grew wB wk ∧ w4.heap.size ≤ wk.heap.size ∧ ys.length = p ∧ (0 < cap → off = p) ∧
        Owns wk (w.heap.size + 1) [⟨.slice (some ⟨w.heap.size + 1, 0, none⟩) A.length A.length, 4, 1, A.length, bls A.length S⟩, qRow 3 g p cap ys (intVs q)])
      case atStart =>
        refine ⟨S ++ [(v : Int)], [(v : Int)], wr.heap.size, 0, 0, 1, [], by simp, Hst.out, by simp; omega, Nat.le_refl _, Hgs.out.trans (by (repeat (first | exact Grew.refl _ | refine Grew.over ?_ _ | refine Grew.alloc ?_ _ | refine Grew.drew ?_ | refine Grew.drewN ?_ _))), (by first | rfl | omega | (simp <;> omega)), rfl, fun _ => rfl, ?_⟩
        exact (HOs.out.made (by simp; omega) #[.int .i64 v] 3 1 1 wr.heap.size rfl (by decide) (by simp)).perm (List.Perm.swap _ _ _)
      case round =>
        obtain ⟨S2, q, g, off, p, cap, ys, rfl, hB, hgk, hgkb, hgB, hsk, hys, hoff, hOk⟩ := hrel
        have hgr0 := hgB
        cases q with
        | nil =>
          have HS2 := Lib.hid hB.done
          have Hmet2 := Lib.hid hB.met
          have Hgr0 := Lib.hid hgr0
          have HOk := Lib.hid hOk
          clear hB hOk hgr0 hgB hoff
          go_wp2
          go_roundw
          case rel => exact ⟨v + 1, by omega, by go_num, by rw [Hcs2.out]; rfl, Hgr0.out, by omega, S2, Hmet2.out, HS2.out, (HOk.out.perm (List.Perm.swap _ _ _)).tail⟩
          case measure => simp [intOf]; omega
        | cons x q =>
          have hxr := hB.met.2 x (hB.qs x (List.mem_cons_self ..))
          obtain ⟨x, rfl⟩ := Int.eq_ofNat_of_zero_le hxr.1
          have hxl : x < A.length := by omega
          have hxi : (x : Int) < (A.length : Int) := by omega
          obtain ⟨hfl, _, _, hfm, hfc⟩ := owns_first hOk (k := 1) rfl hys
          simp only [intVs_length, List.length_cons] at hfl
          have hop := hoff (by omega)
          subst hop
          have e0 := hfc 0 (.int .i64 (x : Int)) rfl
          rw [Nat.add_zero] at e0
          obtain ⟨bA, oA, rp, rc, rfl, lA, cA'⟩ := HR.out.hA.rows (by omega)
          have Hwk : Hid (Grew w wr) := Lib.hid (HwB.out.trans hgB)
          obtain ⟨a1, _⟩ := cA' wr Hwk.out x hxl
          obtain ⟨_, a2⟩ := cA' w (Grew.refl _) x hxl
          obtain ⟨rv, hrv⟩ : ∃ rv, rp x = rv := ⟨_, rfl⟩
          rw [hrv] at a1 a2
          have Ha2 := Lib.hid a2
          have hrl := HL.out x hxl
          have q2 := hgB.cellEq Hc2.out
          have HB0 := Lib.hid hB
          have HgB := Lib.hid hgB
          have HOk := Lib.hid hOk
          have Hgk := Lib.hid hgk
          clear cA' a2 hrv hB hgB hgr0 hOk hgk hoff hfc hxr
          rw [List.length_cons]
          go_wp2
          go_region
          go_wp2
          clear q2 e0 a1
          go_loopw [6, 42] (fun v6 i wk => ∃ k2 : Nat, k2 ≤ (rowOf A x).length ∧ i = .int .i64 k2 ∧ ∃ (S q : List Int) (g p cap : Nat) (ys : List Value), v6 = .slice (some ⟨g, p, none⟩) (q.length + 1) cap ∧ Bfs E A.length v S ((x : Int) :: q) ∧ (∀ i, i < k2 → tailE E (oth (ge (rowOf A x) i)) ∈ S) ∧ q.length + 1 + (A.length - S.length) ≤ gk ∧ Grew wB wk ∧ w4.heap.size ≤ wk.heap.size ∧ ys.length = p ∧
            Owns wk (w.heap.size + 1) [⟨.slice (some ⟨w.heap.size + 1, 0, none⟩) A.length A.length, 4, 1, A.length, bls A.length S⟩, qRow 3 g p cap ys (intVs ((x : Int) :: q))]) (fun _ i _ => (rowOf A x).length - (intOf i).toNat)
          case atStart => exact ⟨0, Nat.zero_le _, rfl, S2, q, g, off, cap, ys, rfl, HB0.out, fun i hi => by omega, Hgk.out, HgB.out.trans (by (repeat (first | exact Grew.refl _ | refine Grew.over ?_ _ | refine Grew.alloc ?_ _ | refine Grew.drew ?_ | refine Grew.drewN ?_ _))), by simp; omega, hys, HOk.out.grew (by (repeat (first | exact Grew.refl _ | refine Grew.over ?_ _ | refine Grew.alloc ?_ _ | refine Grew.drew ?_ | refine Grew.drewN ?_ _)))⟩
          case round =>
            obtain ⟨k2, hk2, rfl, S, q, g, p, cap, ys, rfl, hB, hhd, hgk, hgB, hsk, hys, hOk⟩ := hrel
            obtain ⟨hfl, _, _, hfm, _⟩ := owns_first hOk (k := 1) rfl hys
            simp only [intVs_length, List.length_cons] at hfl
            have hSl := hB.met.len
            have hql : q.length ≤ 101 := by omega
            have hxS : (x : Int) ∈ S := hB.qs _ (List.mem_cons_self ..)
            have HxS := Lib.hid hxS
            have Hwk : Hid (Grew w wr) := Lib.hid (HwB.out.trans hgB)
            have q1 := hgB.cellEq Hc1.out
            have HB0 := Lib.hid hB
            have HgB := Lib.hid hgB
            have HOk := Lib.hid hOk
            have Hgk := Lib.hid hgk
            have Hhd := Lib.hid hhd
            clear hB hgB hOk hgk hhd hxS
            by_cases hlk : k2 < (rowOf A x).length
            · obtain ⟨bR, oR, rfl, lR, cR⟩ := Ha2.out.cells (by omega)
              have e1 := cR wr Hwk.out k2 hlk
              have hok := dart_of HV.out hxl hlk
              obtain ⟨m, hm0⟩ : ∃ m : Nat, ge (rowOf A x) k2 = (m : Int) := ⟨(ge (rowOf A x) k2).toNat, by have := hok.1; omega⟩
              have hm : m < 2 * E.length := by have := hok.2.1; omega
              rw [hm0] at e1 hok
              obtain ⟨ho1, ho2⟩ := oth_in (d := (m : Int)) (M := E.length) (by omega) (by omega)
              obtain ⟨o, hoe⟩ : ∃ o : Nat, oth m = (o : Int) := ⟨(oth m).toNat, by omega⟩
              have hti := tail_in HV.out (d := (o : Int)) (by omega) (by omega)
              have hnb := nbr_dart (E := E) (d := (m : Int)) (by omega) (by omega)
              rw [hok.2.2, hoe] at hnb
              obtain ⟨y, hy⟩ : ∃ y : Nat, tailE E o = (y : Int) := ⟨(tailE E o).toNat, by omega⟩
              have hyl : y < A.length := by omega
              rw [hy] at hnb
              have Hnb := Lib.hid hnb
              have Hhy : Hid (tailE E (oth (ge (rowOf A x) k2)) = (y : Int)) := Lib.hid (by rw [hm0, hoe, hy])
              obtain ⟨bE, oE, rfl, lE, cE'⟩ := HR.out.hE.cells (by omega)
              obtain ⟨c1, c2⟩ := cE' wr Hwk.out (m / 2) (by omega)
              have hm2 : m / 2 < E.length := by omega
              have hm2i : (m : Int) / 2 < (E.length : Int) := by omega
              have hx1 : bits BinOp.xor IntKind.i64 ((m : Int) % 2) 1 = (o : Int) % 2 := by rw [← hoe]; exact xor_two m (by omega)
              have ho2' : o / 2 = m / 2 := by unfold oth at hoe; split at hoe <;> omega
              have Htx := Lib.hid (fun W1 : World => (by have h := tail_e E o W1; rw [ho2', hy] at h; exact h : Calls Tryd.prog 39 #[.agg #[.int .i64 (pr E (m / 2)).1, .int .i64 (pr E (m / 2)).2], .int .i64 ((o : Int) % 2)] W1 fun e w' => e = .returned (.int .i64 (y : Int)) ∧ Grew W1 w'))
              obtain ⟨gM, cM, eM, _, kM, _, _, nM, mM⟩ := HOk.out.some (k := 0) rfl (by omega)
              cases eM
              have x1 := mM y _ (bls_get _ hyl)
              have x2 := nM y
              clear cR hok hm0 ho1 ho2 hoe hti hnb hy cE' ho2' nM mM
              by_cases hin : (y : Int) ∈ S
              · rw [decide_eq_true hin] at x1
                have Hin := Lib.hid hin
                clear hin
                go_wp2_with (go_at_call 39; apply Calls.mono; (with_reducible exact Htx.out _); rintro e w' ⟨rfl, x9, rfl⟩)
                go_roundw
                case rel => exact ⟨k2 + 1, by omega, by go_num, S, q, g, p, cap, ys, rfl, HB0.out, fun i hi => (by
                  by_cases e : i = k2
                  · rw [e, Hhy.out]; exact Hin.out
                  · exact Hhd.out i (by omega)), Hgk.out, HgB.out.trans (by (repeat (first | exact Grew.refl _ | refine Grew.over ?_ _ | refine Grew.alloc ?_ _ | refine Grew.drew ?_ | refine Grew.drewN ?_ _))), (by first | rfl | omega | (simp <;> omega)), hys, HOk.out.grew (by (repeat (first | exact Grew.refl _ | refine Grew.over ?_ _ | refine Grew.alloc ?_ _ | refine Grew.drew ?_ | refine Grew.drewN ?_ _)))⟩
                case measure => simp [intOf]; omega
              · have HB2 := Lib.hid (HB0.out.add HxS.out Hnb.out hin (by omega) (by omega))
                have hS2l := HB2.out.met.len
                simp only [List.length_append, List.length_cons, List.length_nil] at hS2l
                rw [decide_eq_false hin] at x1
                go_wp2_with (first
                  | (go_at_call 39; apply Calls.mono; (with_reducible exact Htx.out _); rintro e w' ⟨rfl, x9, rfl⟩)
                  | (at_builtin; refine wp_append_que rfl _ _ 26 rfl 3 8 (.int .i64 0) Tryd.underlying26 Tryd.infoInt rfl (w.heap.size + 1) _ 1 g p p cap (q.length + 1) ys (intVs ((x : Int) :: q)) ((HOk.out.set (k := 0) rfl y (.bool true)).grew (by (repeat (first | exact Grew.refl _ | refine Grew.over ?_ _ | refine Grew.alloc ?_ _ | refine Grew.drew ?_ | refine Grew.drewN ?_ _)))) rfl hys (fun _ => rfl) (by simp [intVs_length]) rfl _ 1 rfl (.int .i64 (y : Int)) (by (simp [go_sem, ↓IntWalk.iteOmega])) (by simp [Value.oneCell']) (by simp only [maxLen]; omega) (by omega) (by first | rfl | omega | (simp <;> omega)) ?_; intro g1 off1 p1 cap1 ys1 w1 hO1 hys1 hoff1 hcap1 hg1 hb1; have hop1 := hoff1 (by omega); subst hop1; have Hg1 := Lib.hid (Grew.grownBy (w0 := wB) ((HgB.out.setCell (show wB.heap.size ≤ (⟨w.heap.size + 1, y, none⟩ : Addr).block by dsimp only; omega) (.bool true)).trans (by (repeat (first | exact Grew.refl _ | refine Grew.over ?_ _ | refine Grew.alloc ?_ _ | refine Grew.drew ?_ | refine Grew.drewN ?_ _)))) hg1 (fun k h => by have := Option.some.inj h; omega)); have HO1 := Lib.hid hO1; have hs1 := hg1.size; simp at hs1; clear hO1 hg1 hb1 hoff1))
                go_roundw
                case rel =>
                  refine ⟨k2 + 1, by omega, by go_num, S ++ [(y : Int)], q ++ [(y : Int)], g1, off1, cap1, ys1, by simp, HB2.out, fun i hi => ?_, ?_, Hg1.out, by omega, hys1, ?_⟩
                  · by_cases e : i = k2
                    · rw [e, Hhy.out]; simp
                    · exact List.mem_append_left _ (Hhd.out i (by omega))
                  · have := Hgk.out
                    simp only [List.length_append, List.length_cons, List.length_nil]
                    omega
                  · have h := HO1.out
                    rw [bls_set _ hyl] at h
                    have e : intVs ((x : Int) :: (q ++ [(y : Int)])) = intVs ((x : Int) :: q) ++ [.int .i64 (y : Int)] := by simp [intVs]
                    rw [e]
                    exact h
                case measure => simp [intOf]; omega
            · have hke : k2 = (rowOf A x).length := by omega
              have HBc := Lib.hid (HB0.out.cut (nbr_all HV.out (fun i hi => Hhd.out i (by omega))))
              have Hgr2 := Lib.hid HgB.out
              by_cases hc1 : cap = 1
              · have hq0 : q = [] := List.length_eq_zero_iff.1 (by omega)
                subst hc1 hq0
                go_wp2
                go_roundg (gk - 1)
                case rel => exact ⟨S, [], g, p, p + 1, 0, ys ++ [.int .i64 (x : Int)], rfl, HBc.out, (by have := Hgk.out; simp at this ⊢; omega), (by omega), Hgr2.out.trans (by (repeat (first | exact Grew.refl _ | refine Grew.over ?_ _ | refine Grew.alloc ?_ _ | refine Grew.drew ?_ | refine Grew.drewN ?_ _))), (by first | rfl | omega | (simp <;> omega)), (by simp [hys]), (fun h => by cases h), (by have h : Owns wr (w.heap.size + 1) [_, qRow 3 g p (0 + 1) ys (.int .i64 (x : Int) :: intVs [])] := HOk.out; rw [qRow_cut] at h; exact h.grew (by (repeat (first | exact Grew.refl _ | refine Grew.over ?_ _ | refine Grew.alloc ?_ _ | refine Grew.drew ?_ | refine Grew.drewN ?_ _))))⟩
                case measure => have := Hgk.out; omega
              · obtain ⟨cap, rfl⟩ : ∃ c', cap = c' + 1 := ⟨cap - 1, by omega⟩
                go_wp2
                go_roundg (gk - 1)
                case rel => exact ⟨S, q, g, p + 1, p + 1, cap, ys ++ [.int .i64 (x : Int)], rfl, HBc.out, (by have := Hgk.out; omega), (by omega), Hgr2.out.trans (by (repeat (first | exact Grew.refl _ | refine Grew.over ?_ _ | refine Grew.alloc ?_ _ | refine Grew.drew ?_ | refine Grew.drewN ?_ _))), (by first | rfl | omega | (simp <;> omega)), (by simp [hys]), (fun _ => rfl), (by have h := HOk.out; rw [show intVs ((x : Int) :: q) = .int .i64 (x : Int) :: intVs q from rfl, qRow_cut] at h; exact h.grew (by (repeat (first | exact Grew.refl _ | refine Grew.over ?_ _ | refine Grew.alloc ?_ _ | refine Grew.drew ?_ | refine Grew.drewN ?_ _))))⟩
                case measure => have := Hgk.out; omega
    · have hve : v = A.length := by omega
      subst hve
      go_wp2
      go_ret
      exact ⟨by rw [Hc.out]; rfl, Hwq.out⟩

end Go.Proofs.YtdacnkjmimhcaaaDoor
