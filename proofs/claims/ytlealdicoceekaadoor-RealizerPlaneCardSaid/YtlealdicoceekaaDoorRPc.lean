/- Joined by a program from the texts RotQ RotR RotS Cyc Fac Del Gen TriA TriB TriC. -/
import Derived.Test.YtlealdicoceekaaDoorRPb
import Derived.Deep.LoopGhost
import Derived.Maps.Own
import Derived.Maps.OwnOps
import Derived.Maps.Views
import Derived.DeepKeys4
import Derived.MapViews
/- components of the program: the walk. -/
set_option linter.unusedSimpArgs false
set_option linter.unusedVariables false
namespace Go.Proofs.YtlealdicoceekaaDoor
open Go.RowKit
attribute [local go_sem ↓] Go.wp_at_zero Go.wp_at_succ

set_option maxRecDepth 8000 in
set_option maxHeartbeats 16000000 in
theorem comps_p (N : Int) (pE pA : Option Addr) (nE nA cE cA : Nat) (E : List (Int × Int)) (A : List (List Int)) (w : World) (hR : RotAt w pE pA E A) (hV : vRot N E A) (hnE : E.length = nE) (hnA : A.length = nA) :
    Calls Tryd.prog 90 #[.agg #[.int .i64 N, .slice pE nE cE, .slice pA nA cA]] w fun e w' => e = .returned (.int .i64 (cntL E A.length)) ∧ Grew w w' := by
  subst hnE hnA
  have he1 := hR.e1
  have ha1 := hR.a1
  have hN : N = A.length := hV.al.symm
  subst hN
  have HR := Lib.hid hR
  have HL := Lib.hid hR.r1
  have HV := Lib.hid hV
  clear hR hV
  go_enter Tryd.func90, Tryd.ntmps90
  go_wp2_with (refine wp_make_owns rfl _ _ 75 rfl 4 1 (.bool false) Tryd.underlying75 Tryd.infoBool rfl .i64 .i64 _ _ A.length rfl rfl rfl rfl (by omega) (by simp only [maxLen]; omega) (w.heap.size + 1) [] (Owns.nil _ _) (by simp) ?_; intro w4 hO hg4 hs4; have HO4 := Lib.hid hO; have Hg4 := Lib.hid hg4; have hsz4 := hg4.below.size; have b0 := hg4.cellEq (b := w.heap.size) (i := 0) (v := .int .i64 A.length) (by first | (go_simp; done) | (simp [go_sem, ↓IntWalk.iteOmega, *]; done)); clear hO hg4)
  simp at hs4 hsz4
  have HwB : Hid (Grew w (w.alloc (.cells #[.int .i64 A.length, .slice pE E.length cE, .slice pA A.length cA] 25))) := Lib.hid ((Grew.refl w).alloc _)
  have Hc0 : Hid ((w.alloc (.cells #[.int .i64 A.length, .slice pE E.length cE, .slice pA A.length cA] 25)).cell? ⟨w.heap.size, 0, none⟩ = some (.int .i64 A.length)) := Lib.hid (by simp [go_sem])
  have Hc1 : Hid ((w.alloc (.cells #[.int .i64 A.length, .slice pE E.length cE, .slice pA A.length cA] 25)).cell? ⟨w.heap.size, 1, none⟩ = some (.slice pE E.length cE)) := Lib.hid (by simp [go_sem])
  have Hc2 : Hid ((w.alloc (.cells #[.int .i64 A.length, .slice pE E.length cE, .slice pA A.length cA] 25)).cell? ⟨w.heap.size, 2, none⟩ = some (.slice pA A.length cA)) := Lib.hid (by simp [go_sem])
  have hsB : (w.alloc (.cells #[.int .i64 A.length, .slice pE E.length cE, .slice pA A.length cA] 25)).heap.size = w.heap.size + 1 := by simp
  obtain ⟨wB, hwB⟩ : ∃ wB, w.alloc (.cells #[.int .i64 A.length, .slice pE E.length cE, .slice pA A.length cA] 25) = wB := ⟨_, rfl⟩
  rw [hwB] at Hg4 HwB Hc0 Hc1 Hc2 hsB HO4
  clear hwB
  rw [hsB] at HO4
  go_loopw [4, 15] (fun vn i wq => ∃ v : Nat, v ≤ A.length ∧ i = .int .i64 v ∧ vn = .int .i64 (cntL E v) ∧ Grew wB wq ∧ w4.heap.size ≤ wq.heap.size ∧ ∃ S : List Int, Met A.length S ∧ (∀ x, x ∈ S ↔ old E v x) ∧ Owns wq (w.heap.size + 1) [⟨.slice (some ⟨w.heap.size + 1, 0, none⟩) A.length A.length, 4, 1, A.length, bls A.length S⟩]) (fun _ i _ => A.length - (intOf i).toNat)
  case atStart =>
    refine ⟨0, Nat.zero_le _, rfl, rfl, Hg4.out, Nat.le_refl _, [], ⟨List.nodup_nil, fun _ h => by cases h⟩, fun x => ⟨fun h => (by cases h), fun h => (by obtain ⟨u, h1, h2, _⟩ := h; omega)⟩, ?_⟩
    rw [bls_nil]
    exact HO4.out
  case round =>
    obtain ⟨v, hv, rfl, rfl, hgq, hsq, S, hmet, hS, hOq⟩ := hrel
    have hcv : cntL E v ≤ v := cntP_le _ v
    have Hcs := Lib.hid (cntL_succ (N := 0) hS)
    obtain ⟨c, hc⟩ : ∃ c, cntL E v = c := ⟨_, rfl⟩
    rw [hc] at hcv Hcs ⊢
    have Hc := Lib.hid hc
    clear hc
    have Hgq := Lib.hid hgq
    have HOq := Lib.hid hOq
    have Hmet := Lib.hid hmet
    have HS := Lib.hid hS
    have q0 := hgq.cellEq Hc0.out
    have Hwq : Hid (Grew w wr) := Lib.hid (HwB.out.trans hgq)
    clear hgq hOq hmet hS
    by_cases hlv : v < A.length
    · obtain ⟨gM, cM, eM, _, kM, _, _, nM, mM⟩ := HOq.out.some (k := 0) rfl (by omega)
      cases eM
      have x1 := mM v _ (bls_get _ hlv)
      have x2 := nM v
      clear nM mM
      by_cases hin : (v : Int) ∈ S
      · rw [decide_eq_true hin] at x1
        have Hcs2 : Hid (cntL E (v + 1) = c) := Lib.hid (by rw [Hcs.out, if_pos hin]; rfl)
        have HS2 : Hid (∀ x, x ∈ S ↔ old E (v + 1) x) := Lib.hid (fun x => ⟨fun h => ((HS.out x).1 h).mono, fun ⟨u, h1, h2, h3⟩ => by
          by_cases e : u < v
          · exact (HS.out x).2 ⟨u, h1, e, h3⟩
          · have : u = v := by push_cast at h2; omega
            subst this
            obtain ⟨u', g1, g2, g3⟩ := (HS.out _).1 hin
            exact (HS.out x).2 ⟨u', g1, g2, g3.trans h3⟩⟩)
        clear hin
        go_wp2
        go_roundw
        case rel => exact ⟨v + 1, by omega, by go_num, by rw [Hcs2.out], Hgq.out.trans (by (repeat (first | exact gR _ | refine gO ?_ _ | refine gA ?_ _ | refine gD ?_ | refine gN ?_ _))), by omega, S, Hmet.out, HS2.out, HOq.out.grew (by (repeat (first | exact gR _ | refine gO ?_ _ | refine gA ?_ _ | refine gD ?_ | refine gN ?_ _)))⟩
        case measure => simp [intOf]; omega
      have Hcs2 : Hid (cntL E (v + 1) = c + 1) := Lib.hid (by rw [Hcs.out, if_neg hin])
      have Hst := Lib.hid (Bfs.start Hmet.out HS.out hlv hin)
      rw [decide_eq_false hin] at x1
      clear hin
      have HOs : Hid (Owns (wr.setCell ⟨w.heap.size + 1, v, none⟩ (.bool true)) (w.heap.size + 1) [⟨.slice (some ⟨w.heap.size + 1, 0, none⟩) A.length A.length, 4, 1, A.length, bls A.length (S ++ [(v : Int)])⟩]) := Lib.hid (by
        have h := HOq.out.set (k := 0) rfl v (.bool true)
        rw [bls_set _ hlv] at h
        exact h)
      have Hgs := Lib.hid (Hgq.out.setCell (show wB.heap.size ≤ (⟨w.heap.size + 1, v, none⟩ : Addr).block by dsimp only; omega) (.bool true))
      go_wp2
      go_loopg [6] (A.length + 1) (fun k v6 wk => ∃ (S q : List Int) (g off p cap : Nat) (ys : List Value), v6 = .slice (some ⟨g, off, none⟩) q.length cap ∧ Bfs E A.length v S q ∧ q.length + (A.length - S.length) ≤ k ∧ k ≤ A.length + 1 ∧ Grew wB wk ∧ w4.heap.size ≤ wk.heap.size ∧ ys.length = p ∧ (0 < cap → off = p) ∧
        Owns wk (w.heap.size + 1) [⟨.slice (some ⟨w.heap.size + 1, 0, none⟩) A.length A.length, 4, 1, A.length, bls A.length S⟩, qRow 3 g p cap ys (intVs q)])
      case atStart =>
        refine ⟨S ++ [(v : Int)], [(v : Int)], wr.heap.size, 0, 0, 1, [], by simp, Hst.out, by simp; omega, Nat.le_refl _, Hgs.out.trans (by (repeat (first | exact gR _ | refine gO ?_ _ | refine gA ?_ _ | refine gD ?_ | refine gN ?_ _))), (by first | rfl | omega | (simp <;> omega)), rfl, fun _ => rfl, ?_⟩
        exact (HOs.out.made (by simp; omega) #[.int .i64 v] 3 1 1 wr.heap.size rfl (by decide) (by simp)).perm (List.Perm.swap _ _ _)
      case round =>
        obtain ⟨S2, q, g, off, p, cap, ys, rfl, hB, hgk, hgkb, hgB, hsk, hys, hoff, hOk⟩ := hrel
        have hgr0 := hgB
        cases q with
        | nil =>
          have HS2 := Lib.hid hB.done
          have Hmet2 := Lib.hid hB.met
          have Hgr0 := Lib.hid hgr0
          have HOk := Lib.hid hOk
          clear hB hOk hgr0 hgB hoff
          go_wp2
          go_roundw
          case rel => exact ⟨v + 1, by omega, by go_num, by rw [Hcs2.out]; rfl, Hgr0.out, by omega, S2, Hmet2.out, HS2.out, (HOk.out.perm (List.Perm.swap _ _ _)).tail⟩
          case measure => simp [intOf]; omega
        | cons x q =>
          have hxr := hB.met.2 x (hB.qs x (List.mem_cons_self ..))
          obtain ⟨x, rfl⟩ := Int.eq_ofNat_of_zero_le hxr.1
          have hxl : x < A.length := by omega
          have hxi : (x : Int) < (A.length : Int) := by omega
          obtain ⟨hfl, _, _, hfm, hfc⟩ := owns_first hOk (k := 1) rfl hys
          simp only [intVs_length, List.length_cons] at hfl
          have hop := hoff (by omega)
          subst hop
          have e0 := hfc 0 (.int .i64 (x : Int)) rfl
          rw [Nat.add_zero] at e0
          obtain ⟨bA, oA, rp, rc, rfl, lA, cA'⟩ := HR.out.hA.rows (by omega)
          have Hwk : Hid (Grew w wr) := Lib.hid (HwB.out.trans hgB)
          obtain ⟨a1, _⟩ := cA' wr Hwk.out x hxl
          obtain ⟨_, a2⟩ := cA' w (Grew.refl _) x hxl
          obtain ⟨rv, hrv⟩ : ∃ rv, rp x = rv := ⟨_, rfl⟩
          rw [hrv] at a1 a2
          have Ha2 := Lib.hid a2
          have hrl := HL.out x hxl
          have q2 := hgB.cellEq Hc2.out
          have HB0 := Lib.hid hB
          have HgB := Lib.hid hgB
          have HOk := Lib.hid hOk
          have Hgk := Lib.hid hgk
          clear cA' a2 hrv hB hgB hgr0 hOk hgk hoff hfc hxr
          rw [List.length_cons]
          go_wp2
          go_region
          go_wp2
          clear q2 e0 a1
          go_loopw [6, 42] (fun v6 i wk => ∃ k2 : Nat, k2 ≤ (rowOf A x).length ∧ i = .int .i64 k2 ∧ ∃ (S q : List Int) (g p cap : Nat) (ys : List Value), v6 = .slice (some ⟨g, p, none⟩) (q.length + 1) cap ∧ Bfs E A.length v S ((x : Int) :: q) ∧ (∀ i, i < k2 → tailE E (oth (ge (rowOf A x) i)) ∈ S) ∧ q.length + 1 + (A.length - S.length) ≤ gk ∧ Grew wB wk ∧ w4.heap.size ≤ wk.heap.size ∧ ys.length = p ∧
            Owns wk (w.heap.size + 1) [⟨.slice (some ⟨w.heap.size + 1, 0, none⟩) A.length A.length, 4, 1, A.length, bls A.length S⟩, qRow 3 g p cap ys (intVs ((x : Int) :: q))]) (fun _ i _ => (rowOf A x).length - (intOf i).toNat)
          case atStart => exact ⟨0, Nat.zero_le _, rfl, S2, q, g, off, cap, ys, rfl, HB0.out, fun i hi => by omega, Hgk.out, HgB.out.trans (by (repeat (first | exact gR _ | refine gO ?_ _ | refine gA ?_ _ | refine gD ?_ | refine gN ?_ _))), by simp; omega, hys, HOk.out.grew (by (repeat (first | exact gR _ | refine gO ?_ _ | refine gA ?_ _ | refine gD ?_ | refine gN ?_ _)))⟩
          case round =>
            obtain ⟨k2, hk2, rfl, S, q, g, p, cap, ys, rfl, hB, hhd, hgk, hgB, hsk, hys, hOk⟩ := hrel
            obtain ⟨hfl, _, _, hfm, _⟩ := owns_first hOk (k := 1) rfl hys
            simp only [intVs_length, List.length_cons] at hfl
            have hSl := hB.met.len
            have hql : q.length ≤ 101 := by omega
            have hxS : (x : Int) ∈ S := hB.qs _ (List.mem_cons_self ..)
            have HxS := Lib.hid hxS
            have Hwk : Hid (Grew w wr) := Lib.hid (HwB.out.trans hgB)
            have q1 := hgB.cellEq Hc1.out
            have HB0 := Lib.hid hB
            have HgB := Lib.hid hgB
            have HOk := Lib.hid hOk
            have Hgk := Lib.hid hgk
            have Hhd := Lib.hid hhd
            clear hB hgB hOk hgk hhd hxS
            by_cases hlk : k2 < (rowOf A x).length
            · obtain ⟨bR, oR, rfl, lR, cR⟩ := Ha2.out.cells (by omega)
              have e1 := cR wr Hwk.out k2 hlk
              have hok := dart_of HV.out hxl hlk
              obtain ⟨m, hm0⟩ : ∃ m : Nat, ge (rowOf A x) k2 = (m : Int) := ⟨(ge (rowOf A x) k2).toNat, by have := hok.1; omega⟩
              have hm : m < 2 * E.length := by have := hok.2.1; omega
              rw [hm0] at e1 hok
              obtain ⟨ho1, ho2⟩ := oth_in (d := (m : Int)) (M := E.length) (by omega) (by omega)
              obtain ⟨o, hoe⟩ : ∃ o : Nat, oth m = (o : Int) := ⟨(oth m).toNat, by omega⟩
              have hti := tail_in HV.out (d := (o : Int)) (by omega) (by omega)
              have hnb := nbr_dart (E := E) (d := (m : Int)) (by omega) (by omega)
              rw [hok.2.2, hoe] at hnb
              obtain ⟨y, hy⟩ : ∃ y : Nat, tailE E o = (y : Int) := ⟨(tailE E o).toNat, by omega⟩
              have hyl : y < A.length := by omega
              rw [hy] at hnb
              have Hnb := Lib.hid hnb
              have Hhy : Hid (tailE E (oth (ge (rowOf A x) k2)) = (y : Int)) := Lib.hid (by rw [hm0, hoe, hy])
              obtain ⟨bE, oE, rfl, lE, cE'⟩ := HR.out.hE.cells (by omega)
              obtain ⟨c1, c2⟩ := cE' wr Hwk.out (m / 2) (by omega)
              have hm2 : m / 2 < E.length := by omega
              have hm2i : (m : Int) / 2 < (E.length : Int) := by omega
              have hx1 : bits BinOp.xor IntKind.i64 ((m : Int) % 2) 1 = (o : Int) % 2 := by rw [← hoe]; exact xor_two m (by omega)
              have ho2' : o / 2 = m / 2 := by unfold oth at hoe; split at hoe <;> omega
              have Htx := Lib.hid (fun W1 : World => (by have h := tail_e E o W1; rw [ho2', hy] at h; exact h : Calls Tryd.prog 78 #[.agg #[.int .i64 (pr E (m / 2)).1, .int .i64 (pr E (m / 2)).2], .int .i64 ((o : Int) % 2)] W1 fun e w' => e = .returned (.int .i64 (y : Int)) ∧ Grew W1 w'))
              obtain ⟨gM, cM, eM, _, kM, _, _, nM, mM⟩ := HOk.out.some (k := 0) rfl (by omega)
              cases eM
              have x1 := mM y _ (bls_get _ hyl)
              have x2 := nM y
              clear cR hok hm0 ho1 ho2 hoe hti hnb hy cE' ho2' nM mM
              by_cases hin : (y : Int) ∈ S
              · rw [decide_eq_true hin] at x1
                have Hin := Lib.hid hin
                clear hin
                go_wp2_with (go_at_call 78; apply Calls.mono; (with_reducible exact Htx.out _); rintro e w' ⟨rfl, x9, rfl⟩)
                go_roundw
                case rel => exact ⟨k2 + 1, by omega, by go_num, S, q, g, p, cap, ys, rfl, HB0.out, fun i hi => (by
                  by_cases e : i = k2
                  · rw [e, Hhy.out]; exact Hin.out
                  · exact Hhd.out i (by omega)), Hgk.out, HgB.out.trans (by (repeat (first | exact gR _ | refine gO ?_ _ | refine gA ?_ _ | refine gD ?_ | refine gN ?_ _))), (by first | rfl | omega | (simp <;> omega)), hys, HOk.out.grew (by (repeat (first | exact gR _ | refine gO ?_ _ | refine gA ?_ _ | refine gD ?_ | refine gN ?_ _)))⟩
                case measure => simp [intOf]; omega
              · have HB2 := Lib.hid (HB0.out.add HxS.out Hnb.out hin (by omega) (by omega))
                have hS2l := HB2.out.met.len
                simp only [List.length_append, List.length_cons, List.length_nil] at hS2l
                rw [decide_eq_false hin] at x1
                go_wp2_with (first
                  | (go_at_call 78; apply Calls.mono; (with_reducible exact Htx.out _); rintro e w' ⟨rfl, x9, rfl⟩)
                  | (at_builtin; refine wp_append_que rfl _ _ 26 rfl 3 8 (.int .i64 0) Tryd.underlying26 Tryd.infoInt rfl (w.heap.size + 1) _ 1 g p p cap (q.length + 1) ys (intVs ((x : Int) :: q)) ((HOk.out.set (k := 0) rfl y (.bool true)).grew (by (repeat (first | exact gR _ | refine gO ?_ _ | refine gA ?_ _ | refine gD ?_ | refine gN ?_ _)))) rfl hys (fun _ => rfl) (by simp [intVs_length]) rfl _ 1 rfl (.int .i64 (y : Int)) (by (simp [go_sem, ↓IntWalk.iteOmega])) (by simp [Value.oneCell']) (by simp only [maxLen]; omega) (by omega) (by first | rfl | omega | (simp <;> omega)) ?_; intro g1 off1 p1 cap1 ys1 w1 hO1 hys1 hoff1 hcap1 hg1 hb1; have hop1 := hoff1 (by omega); subst hop1; have Hg1 := Lib.hid (Grew.grownBy (w0 := wB) ((HgB.out.setCell (show wB.heap.size ≤ (⟨w.heap.size + 1, y, none⟩ : Addr).block by dsimp only; omega) (.bool true)).trans (by (repeat (first | exact gR _ | refine gO ?_ _ | refine gA ?_ _ | refine gD ?_ | refine gN ?_ _)))) hg1 (fun k h => by have := Option.some.inj h; omega)); have HO1 := Lib.hid hO1; have hs1 := hg1.size; simp at hs1; clear hO1 hg1 hb1 hoff1))
                go_roundw
                case rel =>
                  refine ⟨k2 + 1, by omega, by go_num, S ++ [(y : Int)], q ++ [(y : Int)], g1, off1, cap1, ys1, by simp, HB2.out, fun i hi => ?_, ?_, Hg1.out, by omega, hys1, ?_⟩
                  · by_cases e : i = k2
                    · rw [e, Hhy.out]; simp
                    · exact List.mem_append_left _ (Hhd.out i (by omega))
                  · have := Hgk.out
                    simp only [List.length_append, List.length_cons, List.length_nil]
                    omega
                  · have h := HO1.out
                    rw [bls_set _ hyl] at h
                    have e : intVs ((x : Int) :: (q ++ [(y : Int)])) = intVs ((x : Int) :: q) ++ [.int .i64 (y : Int)] := by simp [intVs]
                    rw [e]
                    exact h
                case measure => simp [intOf]; omega
            · have hke : k2 = (rowOf A x).length := by omega
              have HBc := Lib.hid (HB0.out.cut (nbr_all HV.out (fun i hi => Hhd.out i (by omega))))
              have Hgr2 := Lib.hid HgB.out
              by_cases hc1 : cap = 1
              · have hq0 : q = [] := List.length_eq_zero_iff.1 (by omega)
                subst hc1 hq0
                go_wp2
                go_roundg (gk - 1)
                case rel => exact ⟨S, [], g, p, p + 1, 0, ys ++ [.int .i64 (x : Int)], rfl, HBc.out, (by have := Hgk.out; simp at this ⊢; omega), (by omega), Hgr2.out.trans (by (repeat (first | exact gR _ | refine gO ?_ _ | refine gA ?_ _ | refine gD ?_ | refine gN ?_ _))), (by first | rfl | omega | (simp <;> omega)), (by simp [hys]), (fun h => by cases h), (by have h : Owns wr (w.heap.size + 1) [_, qRow 3 g p (0 + 1) ys (.int .i64 (x : Int) :: intVs [])] := HOk.out; rw [qRow_cut] at h; exact h.grew (by (repeat (first | exact gR _ | refine gO ?_ _ | refine gA ?_ _ | refine gD ?_ | refine gN ?_ _))))⟩
                case measure => have := Hgk.out; omega
              · obtain ⟨cap, rfl⟩ : ∃ c', cap = c' + 1 := ⟨cap - 1, by omega⟩
                go_wp2
                go_roundg (gk - 1)
                case rel => exact ⟨S, q, g, p + 1, p + 1, cap, ys ++ [.int .i64 (x : Int)], rfl, HBc.out, (by have := Hgk.out; omega), (by omega), Hgr2.out.trans (by (repeat (first | exact gR _ | refine gO ?_ _ | refine gA ?_ _ | refine gD ?_ | refine gN ?_ _))), (by first | rfl | omega | (simp <;> omega)), (by simp [hys]), (fun _ => rfl), (by have h := HOk.out; rw [show intVs ((x : Int) :: q) = .int .i64 (x : Int) :: intVs q from rfl, qRow_cut] at h; exact h.grew (by (repeat (first | exact gR _ | refine gO ?_ _ | refine gA ?_ _ | refine gD ?_ | refine gN ?_ _))))⟩
                case measure => have := Hgk.out; omega
    · have hve : v = A.length := by omega
      subst hve
      go_wp2
      go_ret
      exact ⟨by rw [Hc.out]; rfl, Hwq.out⟩

end Go.Proofs.YtlealdicoceekaaDoor

/- Components of the reference. -/
namespace Go.Proofs.YtlealdicoceekaaDoor
open Go.RowKit
attribute [local go_sem ↓] Go.wp_at_zero Go.wp_at_succ

/-- The root of v's tree. -/
def rootN (up : List Int) : Nat → Nat → Nat
  | 0, v => v
  | f + 1, v => if ge up v = v then v else rootN up f (ge up v).toNat
def rootF (up : List Int) (v : Nat) : Nat := rootN up (v + 1) v
theorem rootN_spec {E : List (Int × Int)} {j N : Nat} {up : List Int} (h : UpOK E j N up) : ∀ (f v : Nat), v < N → v < f → rootN up f v < N ∧ ge up (rootN up f v) = (rootN up f v : Nat) ∧ Cn E j (rootN up f v : Nat) v
  | 0, _, _, h2 => by omega
  | f + 1, v, h1, h2 => by
    rw [rootN]
    by_cases e : ge up v = v
    · rw [if_pos e]; exact ⟨h1, e, Cn.refl _⟩
    · rw [if_neg e]
      have h3 := h.le v h1
      have h4 := rootN_spec h f (ge up v).toNat (by omega) (by omega)
      refine ⟨h4.1, h4.2.1, h4.2.2.trans ?_⟩
      rw [Int.toNat_of_nonneg h3.1]
      exact h.cn v h1

set_option maxHeartbeats 2000000 in
theorem root_r (p : Option Addr) (n cap : Nat) (E : List (Int × Int)) (j : Nat) (up : List Int) (v : Nat) (w : World) (hI : Ints w p up) (hU : UpOK E j n up) (hv : v < n) :
    Calls Tryd.prog 84 #[.slice p n cap, .int .i64 v] w fun e w' => e = .returned (.int .i64 (rootF up v)) ∧ w = w' := by
  have hl := hU.len
  subst hl
  obtain ⟨b, o, rfl, hbl, hc⟩ := hI.cells (by omega)
  have HC := Lib.hid (hc w (Grew.refl _))
  have HU := Lib.hid hU
  clear hc hU hI
  go_enter Tryd.func84, Tryd.ntmps84
  go_wp2
  go_loop [1] (fun x => ∃ (m f : Nat), x = .int .i64 m ∧ m < up.length ∧ m < f ∧ rootN up f m = rootF up v) (fun x => (intOf x).toNat)
  case atStart => exact ⟨v, v + 1, rfl, hv, by omega, rfl⟩
  case round =>
    obtain ⟨m, f, rfl, hm, hf, hr⟩ := hrel
    obtain ⟨f, rfl⟩ : ∃ f', f = f' + 1 := ⟨f - 1, by omega⟩
    have e1 := HC.out m hm
    have hle := HU.out.le m hm
    rw [rootN] at hr
    by_cases e : ge up m = m
    · rw [if_pos e] at hr
      rw [e] at e1
      have Hr := Lib.hid hr
      clear hle e hr
      go_wp2
      go_ret
      exact ⟨by rw [← Hr.out]; rfl, rfl⟩
    · rw [if_neg e] at hr
      obtain ⟨x, hx⟩ : ∃ x : Nat, ge up m = (x : Int) := ⟨(ge up m).toNat, by omega⟩
      rw [hx] at e1 e hle hr
      rw [Int.toNat_natCast] at hr
      have hxm : x < m := by omega
      have hne : ((x : Int) == (m : Int)) = false := beq_eq_false_iff_ne.2 e
      have hne2 : ¬ x = m := by omega
      have Hr := Lib.hid hr
      clear hle e hr hx
      go_wp2
      go_round
      case rel => exact ⟨x, f, rfl, by omega, by omega, Hr.out⟩
      case measure => simp [intOf]; omega

theorem idL_succ (v : Nat) : idL (v + 1) = idL v ++ [(v : Int)] := by unfold idL; rw [List.range_succ, List.map_append]; rfl

set_option maxRecDepth 8000 in
set_option maxHeartbeats 16000000 in
theorem comps_r (N : Int) (pE pA : Option Addr) (nE nA cE cA : Nat) (E : List (Int × Int)) (A : List (List Int)) (w : World) (hR : RotAt w pE pA E A) (hV : vRot N E A) (hnE : E.length = nE) (hnA : A.length = nA) :
    Calls Tryd.prog 70 #[.agg #[.int .i64 N, .slice pE nE cE, .slice pA nA cA]] w fun e w' => e = .returned (.int .i64 (cntL E A.length)) ∧ Grew w w' := by
  subst hnE hnA
  have he1 := hR.e1
  have ha1 := hR.a1
  have hN : N = A.length := hV.al.symm
  subst hN
  have HR := Lib.hid hR
  have HV := Lib.hid hV
  clear hR hV
  go_enter Tryd.func70, Tryd.ntmps70
  have HwB : Hid (Grew w (w.alloc (.cells #[.int .i64 A.length, .slice pE E.length cE, .slice pA A.length cA] 25))) := Lib.hid ((Grew.refl w).alloc _)
  have Hc0 : Hid ((w.alloc (.cells #[.int .i64 A.length, .slice pE E.length cE, .slice pA A.length cA] 25)).cell? ⟨w.heap.size, 0, none⟩ = some (.int .i64 A.length)) := Lib.hid (by simp [go_sem])
  have Hc1 : Hid ((w.alloc (.cells #[.int .i64 A.length, .slice pE E.length cE, .slice pA A.length cA] 25)).cell? ⟨w.heap.size, 1, none⟩ = some (.slice pE E.length cE)) := Lib.hid (by simp [go_sem])
  have hsB : (w.alloc (.cells #[.int .i64 A.length, .slice pE E.length cE, .slice pA A.length cA] 25)).heap.size = w.heap.size + 1 := by simp
  go_wp2
  obtain ⟨wB, hwB⟩ : ∃ wB, w.alloc (.cells #[.int .i64 A.length, .slice pE E.length cE, .slice pA A.length cA] 25) = wB := ⟨_, rfl⟩
  rw [hwB] at HwB Hc0 Hc1 hsB ⊢
  clear hwB
  go_loopw [3, 4] (fun o i wq => ∃ v : Nat, v ≤ A.length ∧ i = .int .i64 v ∧ Grew wB wq ∧ Owns wq (w.heap.size + 1) [⟨o, 3, 1, v, intVs (idL v)⟩]) (fun _ i _ => A.length - (intOf i).toNat)
  case atStart =>
    exact ⟨0, Nat.zero_le _, rfl, by (repeat (first | exact gR _ | refine gO ?_ _ | refine gA ?_ _ | refine gD ?_ | refine gN ?_ _)), (Owns.nil wB (w.heap.size + 1)).made (by omega) #[] 3 1 0 (w.heap.size + 1) rfl (by decide) hsB.symm⟩
  case round =>
    obtain ⟨v, hv, rfl, hgq, hOq⟩ := hrel
    have q0 := hgq.cellEq Hc0.out
    have q1 := hgq.cellEq Hc1.out
    have hsq := hgq.below.size
    obtain ⟨pO, cO, rfl, _, _, _, _, _⟩ := hOq.form (k := 0) rfl
    have Hgq := Lib.hid hgq
    have HOq := Lib.hid hOq
    clear hgq hOq
    by_cases hlv : v < A.length
    · clear q1
      go_wp2_with (at_builtin; refine wp_append_owns rfl _ _ 26 rfl 3 1 8 (.int .i64 0) Tryd.underlying26 Tryd.infoInt rfl (by decide) (w.heap.size + 1) _ 0 _ _ _ (HOq.out.grew (by (repeat (first | exact gR _ | refine gO ?_ _ | refine gA ?_ _ | refine gD ?_ | refine gN ?_ _)))) rfl rfl _ 1 1 rfl [.int .i64 (v : Int)] rfl (fun h => by cases h) (one_news _ (by (simp [go_sem, ↓IntWalk.iteOmega]))) (by simp [Value.oneCell']) (by simp only [maxLen]; omega) (by omega) (by first | rfl | omega | (simp <;> omega)) ?_; intro v1 w1 hO1 hg1 hb1 _; have Hg1 := Lib.hid (Grew.grownBy (w0 := wB) (Hgq.out.trans (by (repeat (first | exact gR _ | refine gO ?_ _ | refine gA ?_ _ | refine gD ?_ | refine gN ?_ _)))) hg1 (fun g h => by have := hb1 g h; omega)); have HO1 := Lib.hid hO1; have hs1 := hg1.size; simp at hs1; clear hO1 hg1 hb1)
      go_roundw
      case rel => exact ⟨v + 1, by omega, by go_num, Hg1.out, (by have h := HO1.out; rw [idL_succ, intVs_app']; exact h)⟩
      case measure => simp [intOf]; omega
    have hve : v = A.length := by omega
    subst hve
    go_wp2
    clear q0 q1
    go_loopw [5, 6] (fun vn i wq => ∃ j : Nat, j ≤ E.length ∧ i = .int .i64 j ∧ Grew wB wq ∧ ∃ (up : List Int) (c : Nat), UpOK E j A.length up ∧ cntR up A.length = c ∧ c ≤ 100 ∧ vn = .int .i64 c ∧ Owns wq (w.heap.size + 1) [⟨.slice pO A.length cO, 3, 1, A.length, intVs up⟩]) (fun _ i _ => E.length - (intOf i).toNat)
    case atStart =>
      have h := UpOK.start E A.length
      exact ⟨0, Nat.zero_le _, rfl, Hgq.out, idL A.length, A.length, h.1, h.2, ha1, rfl, HOq.out⟩
    case round =>
      obtain ⟨j, hj, rfl, hgq, up, c, hU, hcn, hc100, rfl, hOq⟩ := hrel
      have q1 := hgq.cellEq Hc1.out
      have hsq := hgq.below.size
      have Hgq := Lib.hid hgq
      have HOq := Lib.hid hOq
      have HU := Lib.hid hU
      have Hcn := Lib.hid hcn
      have Hwq : Hid (Grew w wr) := Lib.hid (HwB.out.trans hgq)
      clear hgq hOq hU hcn
      by_cases hlj : j < E.length
      · obtain ⟨bE, oE, rfl, lE, cE'⟩ := HR.out.hE.cells (by omega)
        obtain ⟨c1, c2⟩ := cE' wr Hwq.out j hlj
        have hed := HV.out.ed j hlj
        unfold okEdge at hed
        obtain ⟨a, ha⟩ : ∃ a : Nat, (pr E j).1 = (a : Int) := ⟨(pr E j).1.toNat, by omega⟩
        obtain ⟨b, hb⟩ : ∃ b : Nat, (pr E j).2 = (b : Int) := ⟨(pr E j).2.toNat, by omega⟩
        rw [ha] at c1
        rw [hb] at c2
        have hal : a < A.length := by omega
        have hbl : b < A.length := by omega
        obtain ⟨g0, hI⟩ : ∃ _ : True, Ints wr pO up := by
          obtain ⟨p', c', e, h2, _⟩ := HOq.out.ints (k := 0) rfl HU.out.len (fun x hx => by
            obtain ⟨i, hi, rfl⟩ := List.getElem_of_mem hx
            have := HU.out.le i (by rw [← HU.out.len]; exact hi)
            rw [ge_eq up hi] at this
            have := HU.out.len
            omega)
          cases e
          exact ⟨trivial, h2⟩
        have Hra := Lib.hid (fun (W1 : World) (hg : Grew wr W1) => root_r pO A.length cO E j up a W1 (hI.grew hg) HU.out hal)
        have Hrb := Lib.hid (fun (W1 : World) (hg : Grew wr W1) => root_r pO A.length cO E j up b W1 (hI.grew hg) HU.out hbl)
        have hsa := rootN_spec HU.out (a + 1) a hal (by omega)
        have hsb := rootN_spec HU.out (b + 1) b hbl (by omega)
        have era : rootN up (a + 1) a = rootF up a := rfl
        have erb : rootN up (b + 1) b = rootF up b := rfl
        rw [era] at hsa
        rw [erb] at hsb
        obtain ⟨ra, hra⟩ : ∃ ra, rootF up a = ra := ⟨_, rfl⟩
        obtain ⟨rb, hrb⟩ : ∃ rb, rootF up b = rb := ⟨_, rfl⟩
        rw [hra] at hsa Hra
        rw [hrb] at hsb Hrb
        rw [← ha] at hsa
        rw [← hb] at hsb
        obtain ⟨sa1, sa2, sa3⟩ := hsa
        obtain ⟨sb1, sb2, sb3⟩ := hsb
        have Ha2 := Lib.hid sa2
        have Ha3 := Lib.hid sa3
        have Hb2 := Lib.hid sb2
        have Hb3 := Lib.hid sb3
        clear cE' hed hI era erb hra hrb sa2 sa3 sb2 sb3 ha hb g0
        go_upto_region 10 with fail
        refine wp_region_over (by kernel_rfl) (by kernel_rfl) ?_; (repeat (go_big_quiet_step (first | (go_at_call 84; apply over_callE; with_reducible exact Hra.out _ (by (repeat (first | exact gR _ | refine gO ?_ _ | refine gA ?_ _ | refine gD ?_ | refine gN ?_ _)))) | (go_at_call 84; apply over_callE; with_reducible exact Hrb.out _ (by (repeat (first | exact gR _ | refine gO ?_ _ | refine gA ?_ _ | refine gD ?_ | refine gN ?_ _))))))); refine wpQuiet_nil ?_; rintro _ ⟨x, rfl⟩
        rcases Nat.lt_trichotomy ra rb with hlt | hlt | hlt
        · have hne : ((ra : Int) == (rb : Int)) = false := beq_eq_false_iff_ne.2 (by omega)
          obtain ⟨gU, cU, eU, _, kU, _, _, nU, mU⟩ := HOq.out.some (k := 0) rfl (by omega)
          cases eU
          have x1 := mU rb _ (intVs_get _ (by rw [HU.out.len]; omega))
          have x2 := nU rb
          have hJ := HU.out.join hlt (by omega) Ha2.out Hb2.out (Or.inl ⟨Ha3.out, Hb3.out⟩)
          have hpos : 0 < c := by have := hJ.2; rw [Hcn.out] at this; omega
          obtain ⟨c, rfl⟩ : ∃ c', c = c' + 1 := ⟨c - 1, by omega⟩
          have HJ := Lib.hid hJ
          clear nU mU hJ
          go_wp2
          go_roundw
          case rel =>
            refine ⟨j + 1, by omega, by go_num, (Hgq.out.setCell (show wB.heap.size ≤ (⟨gU, rb, none⟩ : Addr).block by dsimp only; omega) _).over _, up.set rb ra, c, HJ.out.1, (by have := HJ.out.2; rw [Hcn.out] at this; omega), by omega, by go_num, ?_⟩
            have h := HOq.out.set (k := 0) rfl rb (.int .i64 (ra : Int))
            rw [intVs_set] at h
            exact h.grew (by (repeat (first | exact gR _ | refine gO ?_ _ | refine gA ?_ _ | refine gD ?_ | refine gN ?_ _)))
          case measure => simp [intOf]; omega
        · subst hlt
          have HU2 := Lib.hid (HU.out.keep Ha3.out Hb3.out)
          go_wp2
          go_roundw
          case rel => exact ⟨j + 1, by omega, by go_num, Hgq.out.trans (by (repeat (first | exact gR _ | refine gO ?_ _ | refine gA ?_ _ | refine gD ?_ | refine gN ?_ _))), up, c, HU2.out, Hcn.out, by omega, rfl, HOq.out.grew (by (repeat (first | exact gR _ | refine gO ?_ _ | refine gA ?_ _ | refine gD ?_ | refine gN ?_ _)))⟩
          case measure => simp [intOf]; omega
        · have hne : ((ra : Int) == (rb : Int)) = false := beq_eq_false_iff_ne.2 (by omega)
          obtain ⟨gU, cU, eU, _, kU, _, _, nU, mU⟩ := HOq.out.some (k := 0) rfl (by omega)
          cases eU
          have x1 := mU ra _ (intVs_get _ (by rw [HU.out.len]; omega))
          have x2 := nU ra
          have hJ := HU.out.join hlt (by omega) Hb2.out Ha2.out (Or.inr ⟨Ha3.out, Hb3.out⟩)
          have hpos : 0 < c := by have := hJ.2; rw [Hcn.out] at this; omega
          obtain ⟨c, rfl⟩ : ∃ c', c = c' + 1 := ⟨c - 1, by omega⟩
          have HJ := Lib.hid hJ
          clear nU mU hJ
          go_wp2
          go_roundw
          case rel =>
            refine ⟨j + 1, by omega, by go_num, (Hgq.out.setCell (show wB.heap.size ≤ (⟨gU, ra, none⟩ : Addr).block by dsimp only; omega) _).over _, up.set ra rb, c, HJ.out.1, (by have := HJ.out.2; rw [Hcn.out] at this; omega), by omega, by go_num, ?_⟩
            have h := HOq.out.set (k := 0) rfl ra (.int .i64 (rb : Int))
            rw [intVs_set] at h
            exact h.grew (by (repeat (first | exact gR _ | refine gO ?_ _ | refine gA ?_ _ | refine gD ?_ | refine gN ?_ _)))
          case measure => simp [intOf]; omega
      · have hje : j = E.length := by omega
        subst hje
        have Hct : Hid (cntL E A.length = c) := Lib.hid (by rw [← HU.out.count, Hcn.out])
        go_wp2
        go_ret
        exact ⟨by rw [Hct.out]; rfl, Hwq.out⟩

end Go.Proofs.YtlealdicoceekaaDoor

/- Genus of both. -/
namespace Go.Proofs.YtlealdicoceekaaDoor
open Go.RowKit
attribute [local go_sem ↓] Go.wp_at_zero Go.wp_at_succ

noncomputable def genusF (N : Int) (E : List (Int × Int)) (A : List (List Int)) : Int :=
  if vRotB N E A = true then (cntL E A.length : Int) - (N - E.length + (((facesO N E A).length : Int) + cntP (fun u => (rowOf A u).length = 0) A.length)).tdiv 2 else -1

set_option maxRecDepth 8000 in
set_option maxHeartbeats 8000000 in
theorem genus_p (N : Int) (pE pA : Option Addr) (nE nA cE cA : Nat) (E : List (Int × Int)) (A : List (List Int)) (w : World) (hR : RotAt w pE pA E A) (hL : Lim w) (hnE : E.length = nE) (hnA : A.length = nA) :
    Calls Tryd.prog 86 #[.agg #[.int .i64 N, .slice pE nE cE, .slice pA nA cA]] w fun e w' => e = .returned (.int .i64 (genusF N E A)) ∧ Grew w w' := by
  subst hnE hnA
  have he1 := hR.e1
  have ha1 := hR.a1
  have HR := Lib.hid hR
  have HL := Lib.hid hL
  cases hv : vRotB N E A
  case false =>
    have Hf : Hid (genusF N E A = -1) := Lib.hid (by unfold genusF; simp [hv])
    have Hv := Lib.hid hv
    clear hv hR hL
    go_enter Tryd.func86, Tryd.ntmps86
    go_wp2_with (go_at_call 76; apply Calls.mono; (with_reducible exact valid_pe Hv.out (HR.out.grew (by (repeat (first | exact gR _ | refine gO ?_ _ | refine gA ?_ _ | refine gD ?_ | refine gN ?_ _)))) (HL.out.grew (by (repeat (first | exact gR _ | refine gO ?_ _ | refine gA ?_ _ | refine gD ?_ | refine gN ?_ _)))) rfl rfl); rintro e w' ⟨rfl, x, rfl⟩)
    go_ret
    exact ⟨by rw [Hf.out]; rfl, by (repeat (first | exact gR _ | refine gO ?_ _ | refine gA ?_ _ | refine gD ?_ | refine gN ?_ _))⟩
  case true =>
  have Hv := Lib.hid hv
  have hV := vRotB_iff.1 hv
  have HV := Lib.hid hV
  have hN : N = A.length := hV.al.symm
  subst hN
  obtain ⟨f, hf⟩ : ∃ f, (facesO A.length E A).length = f := ⟨_, rfl⟩
  have hf2 : f ≤ 200 := by
    rw [← hf]
    unfold facesO facesF
    rw [if_pos hv]
    have := facesN_len (M := 2 * E.length) (f := nxF A) (2 * E.length)
    omega
  have Hf : Hid (genusF A.length E A = (cntL E A.length : Int) - ((A.length : Int) - E.length + ((f : Int) + cntP (fun u => (rowOf A u).length = 0) A.length)).tdiv 2) := Lib.hid (by unfold genusF; rw [if_pos hv, hf])
  have hcl : cntL E A.length ≤ A.length := cntP_le _ _
  have HCl := Lib.hid hcl
  have Hlf := Lib.hid hf
  clear hv hV hR hf hcl hL
  go_enter Tryd.func86, Tryd.ntmps86
  go_wp2_with (first
    | (go_at_call 76; apply Calls.mono; (with_reducible exact valid_pe Hv.out (HR.out.grew (by (repeat (first | exact gR _ | refine gO ?_ _ | refine gA ?_ _ | refine gD ?_ | refine gN ?_ _)))) (HL.out.grew (by (repeat (first | exact gR _ | refine gO ?_ _ | refine gA ?_ _ | refine gD ?_ | refine gN ?_ _)))) rfl rfl); rintro e w' ⟨rfl, x, rfl⟩)
    | (go_at_call 54; apply Calls.mono; (with_reducible exact faces_p _ _ _ _ _ _ _ _ _ _ (HR.out.grew (by (repeat (first | exact gR _ | refine gO ?_ _ | refine gA ?_ _ | refine gD ?_ | refine gN ?_ _)))) (HL.out.grew (by (repeat (first | exact gR _ | refine gO ?_ _ | refine gA ?_ _ | refine gD ?_ | refine gN ?_ _)))) rfl rfl); rintro e w3 ⟨hg3, qF, cF, rfl, _⟩; obtain ⟨x3, rfl⟩ := hg3; rw [Hlf.out]))
  go_loop [3, 15] (fun vf i => ∃ v : Nat, v ≤ A.length ∧ i = .int .i64 v ∧ vf = .int .i64 ((f : Int) + cntP (fun u => (rowOf A u).length = 0) v)) (fun _ i => A.length - (intOf i).toNat)
  case atStart => exact ⟨0, Nat.zero_le _, rfl, by simp [cntP]⟩
  case round =>
    obtain ⟨v, hv, rfl, rfl⟩ := hrel
    have hce := cntP_le (fun u => (rowOf A u).length = 0) v
    have Hcs : Hid (cntP (fun u => (rowOf A u).length = 0) (v + 1) = cntP (fun u => (rowOf A u).length = 0) v + if (rowOf A v).length = 0 then 1 else 0) := Lib.hid (by simp only [cntP]; split <;> rename_i h <;> simp [h])
    by_cases hlv : v < A.length
    · obtain ⟨c, hc⟩ : ∃ c, cntP (fun u => (rowOf A u).length = 0) v = c := ⟨_, rfl⟩
      rw [hc] at hce Hcs ⊢
      clear hc
      obtain ⟨bA, oA, rp, rc, rfl, lA, cA'⟩ := HR.out.hA.rows (by omega)
      obtain ⟨a1, _⟩ := cA' w (Grew.refl _) v hlv
      obtain ⟨rv, hrv⟩ : ∃ rv, rp v = rv := ⟨_, rfl⟩
      rw [hrv] at a1
      have hrl := HR.out.r1 v hlv
      clear cA' hrv
      by_cases h0 : rowOf A v = []
      · have Hcs2 : Hid (cntP (fun u => (rowOf A u).length = 0) (v + 1) = c + 1) := Lib.hid (by rw [Hcs.out, if_pos (by rw [h0]; rfl)])
        rw [h0] at a1
        clear h0 hrl
        go_wp2
        go_round
        case rel => exact ⟨v + 1, by omega, by go_num, by rw [Hcs2.out]; go_num⟩
        case measure => simp [intOf]; omega
      · have h0l : 0 < (rowOf A v).length := List.length_pos_iff.2 h0
        have Hcs2 : Hid (cntP (fun u => (rowOf A u).length = 0) (v + 1) = c) := Lib.hid (by rw [Hcs.out, if_neg (by omega)]; rfl)
        go_wp2
        go_round
        case rel => exact ⟨v + 1, by omega, by go_num, by rw [Hcs2.out]⟩
        case measure => simp [intOf]; omega
    · have hve : v = A.length := by omega
      subst hve
      have hce2 := HCl.out
      obtain ⟨c, hc⟩ : ∃ c, cntP (fun u => (rowOf A u).length = 0) A.length = c := ⟨_, rfl⟩
      rw [hc] at hce Hf ⊢
      obtain ⟨cl, hcl⟩ : ∃ cl, cntL E A.length = cl := ⟨_, rfl⟩
      have HC := Lib.hid (fun (W1 : World) (hg : Grew w W1) => (hcl ▸ comps_p A.length pE pA E.length A.length cE cA E A W1 (HR.out.grew hg) HV.out rfl rfl))
      rw [hcl] at Hf hce2
      clear hc hcl Hcs
      go_upto_region 10 with fail
      refine wp_region_over (by kernel_rfl) (by kernel_rfl) ?_; (repeat (go_big_quiet_step ((go_at_call 90; apply over_call; with_reducible exact HC.out _ (by (repeat (first | exact gR _ | refine gO ?_ _ | refine gA ?_ _ | refine gD ?_ | refine gN ?_ _))))))); refine wpQuiet_nil ?_; rintro _ ⟨x, rfl⟩
      have htd : -1000 ≤ ((A.length : Int) - E.length + ((f : Int) + c)).tdiv 2 ∧ ((A.length : Int) - E.length + ((f : Int) + c)).tdiv 2 ≤ 1000 := by
        generalize hX : (A.length : Int) - E.length + ((f : Int) + c) = X
        have : X ≤ 1000 := by omega
        have : -1000 ≤ X := by omega
        have h2 : Int.sign 2 = 1 := rfl
        rw [Int.tdiv_eq_ediv]
        split <;> omega
      have hwr : wrap64 ((cl : Int) - ((A.length : Int) - E.length + ((f : Int) + c)).tdiv 2) = (cl : Int) - ((A.length : Int) - E.length + ((f : Int) + c)).tdiv 2 := IntWalk.wrap64_in _ ⟨by omega, by omega⟩
      have Hwr := Lib.hid (hwr.trans Hf.out.symm)
      clear htd hwr
      go_wp2
      go_ret
      exact ⟨ret_int Hwr.out, by (repeat (first | exact gR _ | refine gO ?_ _ | refine gA ?_ _ | refine gD ?_ | refine gN ?_ _))⟩

set_option maxRecDepth 8000 in
set_option maxHeartbeats 8000000 in
theorem genus_r (N : Int) (pE pA : Option Addr) (nE nA cE cA : Nat) (E : List (Int × Int)) (A : List (List Int)) (w : World) (hR : RotAt w pE pA E A) (hnE : E.length = nE) (hnA : A.length = nA) :
    Calls Tryd.prog 69 #[.agg #[.int .i64 N, .slice pE nE cE, .slice pA nA cA]] w fun e w' => e = .returned (.int .i64 (genusF N E A)) ∧ Grew w w' := by
  subst hnE hnA
  have he1 := hR.e1
  have ha1 := hR.a1
  have HR := Lib.hid hR
  skip
  cases hv : vRotB N E A
  case false =>
    have Hf : Hid (genusF N E A = -1) := Lib.hid (by unfold genusF; simp [hv])
    have Hv := Lib.hid hv
    clear hv hR
    go_enter Tryd.func69, Tryd.ntmps69
    go_wp2_with (go_at_call 26; apply Calls.mono; (with_reducible exact valid_re Hv.out (HR.out.grew (by (repeat (first | exact gR _ | refine gO ?_ _ | refine gA ?_ _ | refine gD ?_ | refine gN ?_ _)))) rfl rfl); rintro e w' ⟨rfl, x, rfl⟩)
    go_ret
    exact ⟨by rw [Hf.out]; rfl, by (repeat (first | exact gR _ | refine gO ?_ _ | refine gA ?_ _ | refine gD ?_ | refine gN ?_ _))⟩
  case true =>
  have Hv := Lib.hid hv
  have hV := vRotB_iff.1 hv
  have HV := Lib.hid hV
  have hN : N = A.length := hV.al.symm
  subst hN
  obtain ⟨f, hf⟩ : ∃ f, (facesO A.length E A).length = f := ⟨_, rfl⟩
  have hf2 : f ≤ 200 := by
    rw [← hf]
    unfold facesO facesF
    rw [if_pos hv]
    have := facesN_len (M := 2 * E.length) (f := nxF A) (2 * E.length)
    omega
  have Hf : Hid (genusF A.length E A = (cntL E A.length : Int) - ((A.length : Int) - E.length + ((f : Int) + cntP (fun u => (rowOf A u).length = 0) A.length)).tdiv 2) := Lib.hid (by unfold genusF; rw [if_pos hv, hf])
  have hcl : cntL E A.length ≤ A.length := cntP_le _ _
  have HCl := Lib.hid hcl
  have Hlf := Lib.hid hf
  clear hv hV hR hf hcl
  go_enter Tryd.func69, Tryd.ntmps69
  go_wp2_with (first
    | (go_at_call 26; apply Calls.mono; (with_reducible exact valid_re Hv.out (HR.out.grew (by (repeat (first | exact gR _ | refine gO ?_ _ | refine gA ?_ _ | refine gD ?_ | refine gN ?_ _)))) rfl rfl); rintro e w' ⟨rfl, x, rfl⟩)
    | (go_at_call 47; apply Calls.mono; (with_reducible exact faces_r _ _ _ _ _ _ _ _ _ _ (HR.out.grew (by (repeat (first | exact gR _ | refine gO ?_ _ | refine gA ?_ _ | refine gD ?_ | refine gN ?_ _)))) rfl rfl); rintro e w3 ⟨hg3, qF, cF, rfl, _⟩; obtain ⟨x3, rfl⟩ := hg3; rw [Hlf.out]))
  go_loop [3, 4] (fun vf i => ∃ v : Nat, v ≤ A.length ∧ i = .int .i64 v ∧ vf = .int .i64 ((f : Int) + cntP (fun u => (rowOf A u).length = 0) v)) (fun _ i => A.length - (intOf i).toNat)
  case atStart => exact ⟨0, Nat.zero_le _, rfl, by simp [cntP]⟩
  case round =>
    obtain ⟨v, hv, rfl, rfl⟩ := hrel
    have hce := cntP_le (fun u => (rowOf A u).length = 0) v
    have Hcs : Hid (cntP (fun u => (rowOf A u).length = 0) (v + 1) = cntP (fun u => (rowOf A u).length = 0) v + if (rowOf A v).length = 0 then 1 else 0) := Lib.hid (by simp only [cntP]; split <;> rename_i h <;> simp [h])
    by_cases hlv : v < A.length
    · obtain ⟨c, hc⟩ : ∃ c, cntP (fun u => (rowOf A u).length = 0) v = c := ⟨_, rfl⟩
      rw [hc] at hce Hcs ⊢
      clear hc
      obtain ⟨bA, oA, rp, rc, rfl, lA, cA'⟩ := HR.out.hA.rows (by omega)
      obtain ⟨a1, _⟩ := cA' w (Grew.refl _) v hlv
      obtain ⟨rv, hrv⟩ : ∃ rv, rp v = rv := ⟨_, rfl⟩
      rw [hrv] at a1
      have hrl := HR.out.r1 v hlv
      clear cA' hrv
      by_cases h0 : rowOf A v = []
      · have Hcs2 : Hid (cntP (fun u => (rowOf A u).length = 0) (v + 1) = c + 1) := Lib.hid (by rw [Hcs.out, if_pos (by rw [h0]; rfl)])
        rw [h0] at a1
        clear h0 hrl
        go_wp2
        go_round
        case rel => exact ⟨v + 1, by omega, by go_num, by rw [Hcs2.out]; go_num⟩
        case measure => simp [intOf]; omega
      · have h0l : 0 < (rowOf A v).length := List.length_pos_iff.2 h0
        have Hcs2 : Hid (cntP (fun u => (rowOf A u).length = 0) (v + 1) = c) := Lib.hid (by rw [Hcs.out, if_neg (by omega)]; rfl)
        go_wp2
        go_round
        case rel => exact ⟨v + 1, by omega, by go_num, by rw [Hcs2.out]⟩
        case measure => simp [intOf]; omega
    · have hve : v = A.length := by omega
      subst hve
      have hce2 := HCl.out
      obtain ⟨c, hc⟩ : ∃ c, cntP (fun u => (rowOf A u).length = 0) A.length = c := ⟨_, rfl⟩
      rw [hc] at hce Hf ⊢
      obtain ⟨cl, hcl⟩ : ∃ cl, cntL E A.length = cl := ⟨_, rfl⟩
      have HC := Lib.hid (fun (W1 : World) (hg : Grew w W1) => (hcl ▸ comps_r A.length pE pA E.length A.length cE cA E A W1 (HR.out.grew hg) HV.out rfl rfl))
      rw [hcl] at Hf hce2
      clear hc hcl Hcs
      go_upto_region 9 with fail
      refine wp_region_over (by kernel_rfl) (by kernel_rfl) ?_; (repeat (go_big_quiet_step ((go_at_call 70; apply over_call; with_reducible exact HC.out _ (by (repeat (first | exact gR _ | refine gO ?_ _ | refine gA ?_ _ | refine gD ?_ | refine gN ?_ _))))))); refine wpQuiet_nil ?_; rintro _ ⟨x, rfl⟩
      have htd : -1000 ≤ ((A.length : Int) - E.length + ((f : Int) + c)).tdiv 2 ∧ ((A.length : Int) - E.length + ((f : Int) + c)).tdiv 2 ≤ 1000 := by
        generalize hX : (A.length : Int) - E.length + ((f : Int) + c) = X
        have : X ≤ 1000 := by omega
        have : -1000 ≤ X := by omega
        have h2 : Int.sign 2 = 1 := rfl
        rw [Int.tdiv_eq_ediv]
        split <;> omega
      have hwr : wrap64 ((cl : Int) - ((A.length : Int) - E.length + ((f : Int) + c)).tdiv 2) = (cl : Int) - ((A.length : Int) - E.length + ((f : Int) + c)).tdiv 2 := IntWalk.wrap64_in _ ⟨by omega, by omega⟩
      have Hwr := Lib.hid (hwr.trans Hf.out.symm)
      clear htd hwr
      go_wp2
      go_ret
      exact ⟨ret_int Hwr.out, by (repeat (first | exact gR _ | refine gO ?_ _ | refine gA ?_ _ | refine gD ?_ | refine gN ?_ _))⟩

end Go.Proofs.YtlealdicoceekaaDoor

/- Cycles of a map, and how many there are. -/
namespace Go.Proofs.YtlealdicoceekaaDoor

/-- From x through t to z, each the image of the one before. -/
def Ch (f : Int → Int) : Int → List Int → Int → Prop
  | x, [], z => f x = z
  | x, y :: t, z => f x = y ∧ Ch f y t z
def Cyc (f : Int → Int) : List Int → Prop
  | [] => False
  | x :: t => Ch f x t x

theorem Ch.app {f : Int → Int} : ∀ {t : List Int} {x y : Int} {u : List Int} {z : Int}, Ch f x (t ++ y :: u) z ↔ Ch f x t y ∧ Ch f y u z
  | [], _, _, _, _ => Iff.rfl
  | v :: t, x, y, u, z => by
    show (f x = v ∧ Ch f v (t ++ y :: u) z) ↔ ((f x = v ∧ Ch f v t y) ∧ Ch f y u z)
    rw [Ch.app (t := t), and_assoc]
theorem Cyc.rot {f : Int → Int} : ∀ {u v : List Int}, Cyc f (u ++ v) → Cyc f (v ++ u)
  | [], v, h => by simpa using h
  | x :: t, [], h => by simpa using h
  | x :: t, y :: w, h => by
    have h' : Ch f x (t ++ y :: w) x := h
    obtain ⟨h1, h2⟩ := Ch.app.1 h'
    exact Ch.app.2 ⟨h2, h1⟩
theorem Cyc.ne {f : Int → Int} {l : List Int} (h : Cyc f l) : l ≠ [] := by
  rintro rfl
  exact h
theorem Ch.idx {f : Int → Int} : ∀ {t : List Int} {x z : Int}, Ch f x t z → ∀ k, k < t.length + 1 → f (ge (x :: t) k) = if k < t.length then ge t k else z
  | [], x, z, h, k, hk => by
    have : k = 0 := by simp at hk; omega
    subst this
    rw [if_neg (by simp), ge_cons_zero]
    exact h
  | y :: t, x, z, h, k, hk => by
    obtain ⟨h1, h2⟩ := h
    cases k with
    | zero => rw [ge_cons_zero, if_pos (by simp), ge_cons_zero]; exact h1
    | succ k =>
      rw [ge_cons_succ, Ch.idx h2 k (by simpa using hk)]
      by_cases e : k < t.length
      · rw [if_pos e, if_pos (by simpa using e), ge_cons_succ]
      · rw [if_neg e, if_neg (by simpa using e)]
theorem Ch.of_idx {f : Int → Int} : ∀ {t : List Int} {x z : Int}, (∀ k, k < t.length + 1 → f (ge (x :: t) k) = if k < t.length then ge t k else z) → Ch f x t z
  | [], x, z, h => by have := h 0 (by simp); rw [ge_cons_zero, if_neg (by simp)] at this; exact this
  | y :: t, x, z, h => by
    refine ⟨?_, Ch.of_idx fun k hk => ?_⟩
    · have := h 0 (by simp)
      rw [ge_cons_zero, if_pos (by simp), ge_cons_zero] at this
      exact this
    · have := h (k + 1) (by simpa using hk)
      rw [ge_cons_succ] at this
      rw [this]
      by_cases e : k < t.length
      · rw [if_pos e, if_pos (by simpa using e), ge_cons_succ]
      · rw [if_neg e, if_neg (by simpa using e)]
theorem Cyc.idx {f : Int → Int} {l : List Int} (h : Cyc f l) {k : Nat} (hk : k < l.length) : f (ge l k) = ge l ((k + 1) % l.length) := by
  cases l with
  | nil => exact h.elim
  | cons x t =>
    have := Ch.idx h k (by simpa using hk)
    rw [this, List.length_cons]
    by_cases e : k < t.length
    · rw [if_pos e, Nat.mod_eq_of_lt (by omega), ge_cons_succ]
    · have : k = t.length := by simp at hk; omega
      subst this
      rw [if_neg e, Nat.mod_self, ge_cons_zero]
theorem Cyc.of_idx {f : Int → Int} {l : List Int} (hn : l ≠ []) (h : ∀ k, k < l.length → f (ge l k) = ge l ((k + 1) % l.length)) : Cyc f l := by
  cases l with
  | nil => exact hn rfl
  | cons x t =>
    refine Ch.of_idx fun k hk => ?_
    have := h k (by simpa using hk)
    rw [this, List.length_cons]
    by_cases e : k < t.length
    · rw [if_pos e, Nat.mod_eq_of_lt (by omega), ge_cons_succ]
    · have : k = t.length := by omega
      subst this
      rw [if_neg e, Nat.mod_self, ge_cons_zero]
theorem Ch.img {f : Int → Int} : ∀ {t : List Int} {x z : Int}, Ch f x t z → ∀ y ∈ x :: t, f y ∈ t ∨ f y = z
  | [], x, z, h, y, hy => by rw [List.mem_singleton.1 hy]; exact Or.inr h
  | v :: t, x, z, h, y, hy => by
    obtain ⟨h1, h2⟩ := h
    rcases List.mem_cons.1 hy with rfl | hy
    · exact Or.inl (by rw [h1]; exact List.mem_cons_self)
    · exact (Ch.img h2 y hy).imp (List.mem_cons_of_mem _) id
theorem Cyc.img {f : Int → Int} {l : List Int} (h : Cyc f l) {y : Int} (hy : y ∈ l) : f y ∈ l := by
  cases l with
  | nil => cases hy
  | cons x t =>
    rcases Ch.img h y hy with h | h
    · exact List.mem_cons_of_mem _ h
    · rw [h]; exact List.mem_cons_self
/-- What holds one element and is closed holds the cycle. -/
theorem Ch.sub {f : Int → Int} {S : Int → Prop} (hS : ∀ y, S y → S (f y)) : ∀ {t : List Int} {x z : Int}, Ch f x t z → S x → ∀ y ∈ x :: t, S y
  | [], x, z, _, hx, y, hy => by rw [List.mem_singleton.1 hy]; exact hx
  | v :: t, x, z, h, hx, y, hy => by
    obtain ⟨h1, h2⟩ := h
    rcases List.mem_cons.1 hy with rfl | hy
    · exact hx
    · exact Ch.sub hS h2 (h1 ▸ hS x hx) y hy
theorem Cyc.start {f : Int → Int} {l : List Int} (h : Cyc f l) {x : Int} (hx : x ∈ l) : ∃ u v, l = u ++ x :: v ∧ Cyc f (x :: (v ++ u)) := by
  obtain ⟨u, v, rfl⟩ := List.append_of_mem hx
  exact ⟨u, v, rfl, Cyc.rot (u := u) (v := x :: v) h⟩
theorem Cyc.sub {f : Int → Int} {S : Int → Prop} {l : List Int} (h : Cyc f l) (hS : ∀ y, S y → S (f y)) {x : Int} (hx : x ∈ l) (hSx : S x) : ∀ y ∈ l, S y := by
  obtain ⟨u, v, rfl, h'⟩ := h.start hx
  intro y hy
  refine Ch.sub hS h' hSx y ?_
  simp only [List.mem_append, List.mem_cons] at hy ⊢
  rcases hy with h | h | h
  · exact Or.inr (Or.inr h)
  · exact Or.inl h
  · exact Or.inr (Or.inl h)
/-- Two cycles that have an element in common have the same elements. -/
theorem Cyc.same {f : Int → Int} {l m : List Int} (h : Cyc f l) (k : Cyc f m) {x : Int} (hx : x ∈ l) (hm : x ∈ m) (y : Int) : y ∈ l ↔ y ∈ m :=
  ⟨fun hy => h.sub (S := (· ∈ m)) (fun _ => k.img) hx hm y hy, fun hy => k.sub (S := (· ∈ l)) (fun _ => h.img) hm hx y hy⟩

theorem Ch.rel {f h r : Int → Int} : ∀ {t : List Int} {x z : Int}, Ch f x t z → Ch h (r x) (t.map r) (r z) → ∀ y ∈ x :: t, h (r y) = r (f y)
  | [], x, z, h1, h2, y, hy => by rw [List.mem_singleton.1 hy, show f x = z from h1]; exact h2
  | v :: t, x, z, ⟨h1, h2⟩, ⟨h3, h4⟩, y, hy => by
    rcases List.mem_cons.1 hy with rfl | hy
    · rw [h1, h3]
    · exact Ch.rel h2 h4 y hy
theorem Cyc.rel {f h r : Int → Int} {l : List Int} (h1 : Cyc f l) (h2 : Cyc h (l.map r)) : ∀ y ∈ l, h (r y) = r (f y) := by
  cases l with
  | nil => exact h1.elim
  | cons x t => exact Ch.rel h1 h2
theorem Ch.map {f h r : Int → Int} : ∀ {t : List Int} {x z : Int}, (∀ y ∈ x :: t, h (r y) = r (f y)) → Ch f x t z → Ch h (r x) (t.map r) (r z)
  | [], x, z, hr, h1 => by show h (r x) = r z; rw [hr x (by simp), show f x = z from h1]
  | v :: t, x, z, hr, ⟨h1, h2⟩ => ⟨by rw [hr x (by simp), h1], Ch.map (fun y hy => hr y (List.mem_cons_of_mem _ hy)) h2⟩
theorem Cyc.map {f h r : Int → Int} {l : List Int} (hr : ∀ y ∈ l, h (r y) = r (f y)) (h1 : Cyc f l) : Cyc h (l.map r) := by
  cases l with
  | nil => exact h1.elim
  | cons x t => exact Ch.map hr h1
theorem Ch.rev {f h r : Int → Int} : ∀ {t : List Int} {x z : Int}, (∀ y ∈ x :: t, h (r (f y)) = r y) → Ch f x t z → Ch h (r z) (t.map r).reverse (r x)
  | [], x, z, hr, h1 => by
    have : f x = z := h1
    show h (r z) = r x
    rw [← this]
    exact hr x (by simp)
  | v :: t, x, z, hr, ⟨h1, h2⟩ => by
    rw [List.map_cons, List.reverse_cons]
    refine Ch.app.2 ⟨Ch.rev (fun y hy => hr y (List.mem_cons_of_mem _ hy)) h2, ?_⟩
    show h (r v) = r x
    rw [← h1]
    exact hr x (by simp)
theorem Cyc.rev {f h r : Int → Int} {l : List Int} (hr : ∀ y ∈ l, h (r (f y)) = r y) (h1 : Cyc f l) : Cyc h (l.map r).reverse := by
  cases l with
  | nil => exact h1.elim
  | cons x t =>
    rw [List.map_cons, List.reverse_cons]
    exact Cyc.rot (u := [r x]) (Ch.rev hr h1)
/-- What is stepped over. -/
theorem Ch.sk {f g sk : Int → Int} : ∀ {t : List Int} {x z : Int}, (∀ y ∈ x :: t, g y = sk (f y)) → (∀ y ∈ t, sk y = y) → Ch f x t z → Ch g x t (sk z)
  | [], x, z, hg, _, h => by show g x = sk z; rw [hg x (by simp), show f x = z from h]
  | v :: t, x, z, hg, hs, ⟨h1, h2⟩ => ⟨by rw [hg x (by simp), h1, hs v (by simp)], Ch.sk (fun y hy => hg y (List.mem_cons_of_mem _ hy)) (fun y hy => hs y (List.mem_cons_of_mem _ hy)) h2⟩

/-- The elements of D, as cycles. -/
structure Dec (D : Int → Prop) (f : Int → Int) (L : List (List Int)) : Prop where
  cyc : ∀ l ∈ L, Cyc f l
  nd : L.flatten.Nodup
  mem : ∀ x, x ∈ L.flatten ↔ D x
theorem Dec.perm {D : Int → Prop} {f : Int → Int} {L M : List (List Int)} (h : Dec D f L) (hp : L.Perm M) : Dec D f M :=
  ⟨fun l hl => h.cyc l (hp.mem_iff.2 hl), (hp.flatten.nodup_iff).1 h.nd, fun x => (hp.flatten.mem_iff).symm.trans (h.mem x)⟩
theorem Dec.swap {D : Int → Prop} {f : Int → Int} {l m : List Int} {L : List (List Int)} (h : Dec D f (l :: L)) (hp : l.Perm m) (hc : Cyc f m) : Dec D f (m :: L) := by
  have hp' : (l :: L).flatten.Perm (m :: L).flatten := by
    simp only [List.flatten_cons]
    exact hp.append_right _
  refine ⟨fun x hx => ?_, (hp'.nodup_iff).1 h.nd, fun x => (hp'.mem_iff).symm.trans (h.mem x)⟩
  rcases List.mem_cons.1 hx with rfl | hx
  · exact hc
  · exact h.cyc x (List.mem_cons_of_mem _ hx)
theorem Dec.tail {D : Int → Prop} {f : Int → Int} {l : List Int} {L : List (List Int)} (h : Dec D f (l :: L)) : Dec (fun x => D x ∧ x ∉ l) f L := by
  have hn := h.nd
  rw [List.flatten_cons, List.nodup_append] at hn
  refine ⟨fun x hx => h.cyc x (List.mem_cons_of_mem _ hx), hn.2.1, fun x => ⟨fun hx => ⟨(h.mem x).1 (by rw [List.flatten_cons]; exact List.mem_append_right _ hx), fun hl => hn.2.2 x hl x hx rfl⟩, fun hx => ?_⟩⟩
  have := (h.mem x).2 hx.1
  rw [List.flatten_cons] at this
  exact (List.mem_append.1 this).resolve_left hx.2
theorem Dec.congr {D D' : Int → Prop} {f : Int → Int} {L : List (List Int)} (h : Dec D f L) (hD : ∀ x, D x ↔ D' x) : Dec D' f L := ⟨h.cyc, h.nd, fun x => (h.mem x).trans (hD x)⟩
theorem Dec.cons {D : Int → Prop} {f : Int → Int} {l : List Int} {L : List (List Int)} (h : Dec D f L) (hc : Cyc f l) (hn : l.Nodup) (hd : ∀ x ∈ l, ¬ D x) : Dec (fun x => D x ∨ x ∈ l) f (l :: L) := by
  refine ⟨fun x hx => ?_, ?_, fun x => ?_⟩
  · rcases List.mem_cons.1 hx with rfl | hx
    · exact hc
    · exact h.cyc x hx
  · rw [List.flatten_cons, List.nodup_append]
    exact ⟨hn, h.nd, fun a ha b hb e => hd a ha ((h.mem a).1 (e ▸ hb))⟩
  · rw [List.flatten_cons, List.mem_append, h.mem x]
    exact Or.comm
theorem Dec.len : ∀ {L M : List (List Int)} {D : Int → Prop} {f : Int → Int}, Dec D f L → Dec D f M → L.length = M.length
  | [], M, D, f, h, k => by
    cases M with
    | nil => rfl
    | cons m M =>
      have hc := k.cyc m (by simp)
      cases m with
      | nil => exact hc.elim
      | cons x t =>
        have := (h.mem x).2 ((k.mem x).1 (by simp))
        simp at this
  | l :: L, M, D, f, h, k => by
    have hc := h.cyc l (by simp)
    cases l with
    | nil => exact hc.elim
    | cons x t =>
      have hx := (k.mem x).2 ((h.mem x).1 (by simp))
      obtain ⟨m, hm, hxm⟩ := List.mem_flatten.1 hx
      obtain ⟨A, B, rfl⟩ := List.append_of_mem hm
      have k' := (k.perm List.perm_middle).tail
      have hs := hc.same (k.cyc m hm) (x := x) (by simp) hxm
      have := Dec.len h.tail (k'.congr (D' := fun y => D y ∧ y ∉ x :: t) (fun y => by rw [hs y]))
      simp [this]
      omega
/-- The cycle of x in front. -/
theorem Dec.at {D : Int → Prop} {f : Int → Int} {L : List (List Int)} (h : Dec D f L) {x : Int} (hx : D x) : ∃ t M, Dec D f ((x :: t) :: M) ∧ M.length + 1 = L.length := by
  obtain ⟨l, hl, hxl⟩ := List.mem_flatten.1 ((h.mem x).2 hx)
  obtain ⟨A, B, rfl⟩ := List.append_of_mem hl
  obtain ⟨u, v, rfl, hc⟩ := (h.cyc l hl).start hxl
  refine ⟨v ++ u, A ++ B, (h.perm List.perm_middle).swap ?_ hc, by simp; omega⟩
  exact (List.perm_middle).trans (List.Perm.cons _ List.perm_append_comm)
theorem Dec.map {D D' : Int → Prop} {f h r : Int → Int} {L : List (List Int)} (k : Dec D f L) (hr : ∀ y, D y → h (r y) = r (f y)) (hi : ∀ x y, D x → D y → r x = r y → x = y) (hD : ∀ x, D' x ↔ ∃ y, D y ∧ r y = x) : Dec D' h (L.map (List.map r)) := by
  have e : (L.map (List.map r)).flatten = L.flatten.map r := by rw [List.map_flatten]
  refine ⟨fun l hl => ?_, ?_, fun x => ?_⟩
  · obtain ⟨m, hm, rfl⟩ := List.mem_map.1 hl
    exact Cyc.map (fun y hy => hr y ((k.mem y).1 (List.mem_flatten.2 ⟨m, hm, hy⟩))) (k.cyc m hm)
  · rw [e]
    unfold List.Nodup
    rw [List.pairwise_map]
    refine List.Pairwise.imp_of_mem ?_ k.nd
    intro a b ha hb hne he
    exact hne (hi a b ((k.mem a).1 ha) ((k.mem b).1 hb) he)
  · rw [e, List.mem_map, hD x]
    exact ⟨fun ⟨y, hy, e⟩ => ⟨y, (k.mem y).1 hy, e⟩, fun ⟨y, hy, e⟩ => ⟨y, (k.mem y).2 hy, e⟩⟩
/-- The reverse of all cycles. -/
theorem Dec.rev {D D' : Int → Prop} {f h r : Int → Int} {L : List (List Int)} (k : Dec D f L) (hr : ∀ y, D y → h (r (f y)) = r y) (hi : ∀ x y, D x → D y → r x = r y → x = y) (hD : ∀ x, D' x ↔ ∃ y, D y ∧ r y = x) : Dec D' h (L.map fun l => (l.map r).reverse) := by
  have hp : (L.map fun l => (l.map r).reverse).flatten.Perm (L.flatten.map r) := by
    clear k hr hi
    induction L with
    | nil => exact List.Perm.refl _
    | cons l L ih =>
      simp only [List.map_cons, List.flatten_cons, List.map_append]
      exact (List.reverse_perm _).append ih
  refine ⟨fun l hl => ?_, ?_, fun x => ?_⟩
  · obtain ⟨m, hm, rfl⟩ := List.mem_map.1 hl
    exact Cyc.rev (fun y hy => hr y ((k.mem y).1 (List.mem_flatten.2 ⟨m, hm, hy⟩))) (k.cyc m hm)
  · rw [hp.nodup_iff]
    unfold List.Nodup
    rw [List.pairwise_map]
    refine List.Pairwise.imp_of_mem ?_ k.nd
    intro a b ha hb hne he
    exact hne (hi a b ((k.mem a).1 ha) ((k.mem b).1 hb) he)
  · rw [hp.mem_iff, List.mem_map, hD x]
    exact ⟨fun ⟨y, hy, e⟩ => ⟨y, (k.mem y).1 hy, e⟩, fun ⟨y, hy, e⟩ => ⟨y, (k.mem y).2 hy, e⟩⟩

/-! ### Two elements are taken out -/
section
variable {D : Int → Prop} {f g sk : Int → Int} {a b : Int} {M : List (List Int)}
theorem cyc_out (hsk : ∀ y, y ≠ a → y ≠ b → sk y = y) (hg : ∀ y, D y → y ≠ a → y ≠ b → g y = sk (f y)) {x z : Int} {t : List Int} (hD : ∀ y ∈ x :: t, D y ∧ y ≠ a ∧ y ≠ b) (h : Ch f x t z) : Ch g x t (sk z) :=
  Ch.sk (fun y hy => hg y (hD y hy).1 (hD y hy).2.1 (hD y hy).2.2) (fun y hy => hsk y (hD y (List.mem_cons_of_mem _ hy)).2.1 (hD y (List.mem_cons_of_mem _ hy)).2.2) h
/-- They lie in different cycles: the cycles become one. -/
theorem Dec.del_two {t u : List Int} (h : Dec D f ((a :: t) :: (b :: u) :: M)) (hsk : ∀ y, y ≠ a → y ≠ b → sk y = y) (ha : sk a = f b) (hb : sk b = f a) (hfa : f a ≠ a) (hfb : f b ≠ b)
    (hg : ∀ y, D y → y ≠ a → y ≠ b → g y = sk (f y)) : ∃ L', Dec (fun y => D y ∧ y ≠ a ∧ y ≠ b) g L' ∧ L'.length = M.length + 1 := by
  have hn := h.nd
  simp only [List.flatten_cons, List.cons_append, List.nodup_cons, List.nodup_append, List.mem_append, List.mem_cons, not_or] at hn
  obtain ⟨⟨na1, na2, na3, na4⟩, n1, ⟨⟨nb1, nb2⟩, n2, n3, n4⟩, n5⟩ := hn
  have hca : Ch f a t a := h.cyc (a :: t) (by simp)
  have hcb : Ch f b u b := h.cyc (b :: u) (by simp)
  have hmem := h.mem
  simp only [List.flatten_cons, List.cons_append, List.mem_cons, List.mem_append] at hmem
  cases t with
  | nil => exact absurd hca hfa
  | cons x xs =>
    cases u with
    | nil => exact absurd hcb hfb
    | cons y ys =>
      obtain ⟨e1, hca⟩ := hca
      obtain ⟨e2, hcb⟩ := hcb
      have hDx : ∀ z ∈ x :: xs, D z ∧ z ≠ a ∧ z ≠ b := fun z hz => ⟨(hmem z).1 (Or.inr (Or.inl hz)), fun e => na1 (e ▸ hz), fun e => n5 z hz b (Or.inl rfl) e⟩
      have hDy : ∀ z ∈ y :: ys, D z ∧ z ≠ a ∧ z ≠ b := fun z hz => ⟨(hmem z).1 (Or.inr (Or.inr (Or.inr (Or.inl hz)))), fun e => na3 (e ▸ hz), fun e => nb1 (e ▸ hz)⟩
      refine ⟨((x :: xs) ++ (y :: ys)) :: M, ⟨fun l hl => ?_, ?_, fun z => ?_⟩, rfl⟩
      · rcases List.mem_cons.1 hl with rfl | hl
        · refine Ch.app.2 ⟨?_, ?_⟩
          · have := cyc_out hsk hg hDx hca
            rw [ha, e2] at this
            exact this
          · have := cyc_out hsk hg hDy hcb
            rw [hb, e1] at this
            exact this
        · have hc := h.cyc l (by simp [hl])
          cases l with
          | nil => exact hc.elim
          | cons z zs =>
            have hz : ∀ v ∈ z :: zs, D v ∧ v ≠ a ∧ v ≠ b := fun v hv => by
              have hvM : v ∈ M.flatten := List.mem_flatten.2 ⟨_, hl, hv⟩
              exact ⟨(hmem v).1 (Or.inr (Or.inr (Or.inr (Or.inr hvM)))), fun e => na4 (e ▸ hvM), fun e => nb2 (e ▸ hvM)⟩
            have := cyc_out hsk hg hz hc
            rw [hsk z (hz z (by simp)).2.1 (hz z (by simp)).2.2] at this
            exact this
      · rw [List.flatten_cons, List.nodup_append, List.nodup_append]
        refine ⟨⟨n1, n2, fun p hp q hq => n5 p hp q (Or.inr (Or.inl hq))⟩, n3, fun p hp q hq => ?_⟩
        rcases List.mem_append.1 hp with hp | hp
        · exact n5 p hp q (Or.inr (Or.inr hq))
        · exact n4 p hp q hq
      · rw [List.flatten_cons, List.mem_append, List.mem_append]
        constructor
        · rintro ((hz | hz) | hz)
          · exact hDx z hz
          · exact hDy z hz
          · exact ⟨(hmem z).1 (Or.inr (Or.inr (Or.inr (Or.inr hz)))), fun e => na4 (e ▸ hz), fun e => nb2 (e ▸ hz)⟩
        · rintro ⟨h1, h2, h3⟩
          rcases (hmem z).2 h1 with h | h | h | h | h
          · exact absurd h h2
          · exact Or.inl (Or.inl h)
          · exact absurd h h3
          · exact Or.inl (Or.inr h)
          · exact Or.inr h
/-- They lie in one cycle, in two parts then; each part may be empty. -/
theorem Dec.del_one {t : List Int} (h : Dec D f ((a :: t) :: M)) (hab : b ∈ t) (hsk : ∀ y, y ≠ a → y ≠ b → sk y = y) (ha : sk a = f b) (hb : sk b = f a) 
    (hg : ∀ y, D y → y ≠ a → y ≠ b → g y = sk (f y)) : ∃ L', Dec (fun y => D y ∧ y ≠ a ∧ y ≠ b) g L' ∧ L'.length + ((if f a = b then 1 else 0) + (if f b = a then 1 else 0)) = M.length + 2 := by
  obtain ⟨xs, ys, rfl⟩ := List.append_of_mem hab
  have hn := h.nd
  simp only [List.flatten_cons, List.cons_append, List.append_assoc, List.nodup_cons, List.nodup_append, List.mem_append, List.mem_cons, not_or] at hn
  obtain ⟨⟨na1, na2, na3, na4⟩, n1, ⟨⟨nb1, nb2⟩, n2, n3, n4⟩, n5⟩ := hn
  have hca : Ch f a (xs ++ b :: ys) a := h.cyc (a :: (xs ++ b :: ys)) (by simp)
  obtain ⟨c1, c2⟩ := Ch.app.1 hca
  have hmem := h.mem
  simp only [List.flatten_cons, List.cons_append, List.append_assoc, List.mem_cons, List.mem_append] at hmem
  have hM : Dec (fun y => y ∈ M.flatten) g M := by
    refine ⟨fun l hl => ?_, n3, fun x => Iff.rfl⟩
    have hc := h.cyc l (List.mem_cons_of_mem _ hl)
    cases l with
    | nil => exact hc.elim
    | cons z zs =>
      have hz : ∀ v ∈ z :: zs, D v ∧ v ≠ a ∧ v ≠ b := fun v hv => by
        have hvM : v ∈ M.flatten := List.mem_flatten.2 ⟨_, hl, hv⟩
        exact ⟨(hmem v).1 (Or.inr (Or.inr (Or.inr (Or.inr hvM)))), fun e => na4 (e ▸ hvM), fun e => nb2 (e ▸ hvM)⟩
      have := cyc_out hsk hg hz hc
      rw [hsk z (hz z (by simp)).2.1 (hz z (by simp)).2.2] at this
      exact this
  have hDx : ∀ z ∈ xs, D z ∧ z ≠ a ∧ z ≠ b := fun z hz => ⟨(hmem z).1 (Or.inr (Or.inl hz)), fun e => na1 (e ▸ hz), fun e => n5 z hz b (Or.inl rfl) e⟩
  have hDy : ∀ z ∈ ys, D z ∧ z ≠ a ∧ z ≠ b := fun z hz => ⟨(hmem z).1 (Or.inr (Or.inr (Or.inr (Or.inl hz)))), fun e => na3 (e ▸ hz), fun e => nb1 (e ▸ hz)⟩
  have hall : ∀ z, (D z ∧ z ≠ a ∧ z ≠ b) ↔ ((z ∈ M.flatten ∨ z ∈ ys) ∨ z ∈ xs) := fun z => by
    constructor
    · rintro ⟨h1, h2, h3⟩
      rcases (hmem z).2 h1 with h | h | h | h | h
      · exact absurd h h2
      · exact Or.inr h
      · exact absurd h h3
      · exact Or.inl (Or.inr h)
      · exact Or.inl (Or.inl h)
    · rintro ((hz | hz) | hz)
      · exact ⟨(hmem z).1 (Or.inr (Or.inr (Or.inr (Or.inr hz)))), fun e => na4 (e ▸ hz), fun e => nb2 (e ▸ hz)⟩
      · exact hDy z hz
      · exact hDx z hz
  have hY : ∃ L1, Dec (fun y => y ∈ M.flatten ∨ y ∈ ys) g L1 ∧ L1.length + (if f b = a then 1 else 0) = M.length + 1 := by
    cases ys with
    | nil =>
      refine ⟨M, hM.congr fun x => by simp, ?_⟩
      have : f b = a := c2
      rw [if_pos this]
    | cons y ys =>
      obtain ⟨e2, c2⟩ := c2
      refine ⟨(y :: ys) :: M, hM.cons (l := y :: ys) ?_ n2 (fun x hx hxM => n4 x hx x hxM rfl), ?_⟩
      · have := cyc_out hsk hg hDy c2
        rw [ha, e2] at this
        exact this
      · rw [if_neg (fun e => (hDy y (by simp)).2.1 (e2.symm.trans e))]
        rfl
  obtain ⟨L1, hL1, hl1⟩ := hY
  cases xs with
  | nil =>
    refine ⟨L1, hL1.congr fun x => by rw [hall x]; simp, ?_⟩
    have : f a = b := c1
    rw [if_pos this]
    omega
  | cons x xs =>
    obtain ⟨e1, c1⟩ := c1
    refine ⟨(x :: xs) :: L1, (hL1.cons (l := x :: xs) ?_ n1 (fun z hz hzL => ?_)).congr fun z => (hall z).symm, ?_⟩
    · have := cyc_out hsk hg hDx c1
      rw [hb, e1] at this
      exact this
    · rcases hzL with h | h
      · exact n5 z hz z (Or.inr (Or.inr h)) rfl
      · exact n5 z hz z (Or.inr (Or.inl h)) rfl
    · rw [if_neg (fun e => (hDx x (by simp)).2.2 (e1.symm.trans e)), List.length_cons]
      omega
end
end Go.Proofs.YtlealdicoceekaaDoor

/- The faces as cycles. -/
namespace Go.Proofs.YtlealdicoceekaaDoor

theorem Ch.last {f : Int → Int} : ∀ {t : List Int} {x z : Int}, Ch f x t z → ∃ q ∈ x :: t, f q = z
  | [], x, z, h => ⟨x, by simp, h⟩
  | y :: t, x, z, ⟨_, h⟩ => by
    obtain ⟨q, hq, e⟩ := Ch.last h
    exact ⟨q, List.mem_cons_of_mem _ hq, e⟩
theorem Cyc.pre {f : Int → Int} {l : List Int} (h : Cyc f l) {z : Int} (hz : z ∈ l) : ∃ q ∈ l, f q = z := by
  obtain ⟨u, v, rfl, h'⟩ := h.start hz
  obtain ⟨q, hq, e⟩ := Ch.last h'
  refine ⟨q, ?_, e⟩
  simp only [List.mem_append, List.mem_cons] at hq ⊢
  rcases hq with h | h | h
  · exact Or.inr (Or.inl h)
  · exact Or.inr (Or.inr h)
  · exact Or.inl h

section
variable {M : Nat} {f : Int → Int}
theorem face_hit (hf : ∀ x : Int, 0 ≤ x → x < M → 0 ≤ f x ∧ f x < M) (hi : ∀ x y : Int, 0 ≤ x → x < M → 0 ≤ y → y < M → f x = f y → x = y) {S p : List Int} {x x0 : Int}
    (hm : Met M (S ++ (x0 :: p))) (hS : ∀ y : Int, 0 ≤ y → y < M → f y ∈ S → y ∈ S) (hc : Ch f x0 p x) (hx : x ∈ S ++ (x0 :: p)) : x = x0 := by
  have hn := hm.1
  rw [List.nodup_append] at hn
  have hr : ∀ y ∈ x0 :: p, 0 ≤ y ∧ y < M := fun y hy => hm.2 y (List.mem_append_right _ hy)
  rcases List.mem_append.1 hx with hx | hx
  · obtain ⟨q, hq, e⟩ := Ch.last hc
    exact absurd rfl (hn.2.2 q (hS q (hr q hq).1 (hr q hq).2 (e ▸ hx)) q hq)
  · rcases List.mem_cons.1 hx with hx | hx
    · exact hx
    · exfalso
      obtain ⟨u, v, rfl⟩ := List.append_of_mem hx
      obtain ⟨c1, c2⟩ := Ch.app.1 hc
      obtain ⟨q, hq, e⟩ := Ch.last c1
      obtain ⟨r, hr', e'⟩ := Ch.last c2
      have h1 : q ∈ x0 :: (u ++ x :: v) := by
        rcases List.mem_cons.1 hq with h | h
        · exact List.mem_cons.2 (Or.inl h)
        · exact List.mem_cons.2 (Or.inr (List.mem_append_left _ h))
      have h2 : r ∈ x0 :: (u ++ x :: v) := List.mem_cons.2 (Or.inr (List.mem_append_right _ hr'))
      have : q = r := hi q r (hr q h1).1 (hr q h1).2 (hr r h2).1 (hr r h2).2 (by rw [e, e'])
      subst this
      have hn2 := hn.2.1
      rw [← List.cons_append, List.nodup_append] at hn2
      exact hn2.2.2 q hq q hr' rfl
theorem faceN_cyc (hf : ∀ x : Int, 0 ≤ x → x < M → 0 ≤ f x ∧ f x < M) (hi : ∀ x y : Int, 0 ≤ x → x < M → 0 ≤ y → y < M → f x = f y → x = y) {S : List Int} {x0 : Int} (hS : ∀ y : Int, 0 ≤ y → y < M → f y ∈ S → y ∈ S) :
    ∀ (n : Nat) (p : List Int) (x : Int), Met M (S ++ (x0 :: p)) → Ch f x0 p x → 0 ≤ x → x < M → n + (p.length + 1) = M → Cyc f (x0 :: (p ++ faceN f n (S ++ (x0 :: p)) x))
  | 0, p, x, hm, hc, h0, h1, hn => by
    have hx : x ∈ S ++ (x0 :: p) := Classical.byContradiction fun hx => by
      have := (hm.snoc h0 h1 hx).len
      simp at this
      omega
    have := face_hit hf hi hm hS hc hx
    subst this
    simp only [faceN, List.append_nil]
    exact hc
  | n + 1, p, x, hm, hc, h0, h1, hn => by
    rw [faceN]
    by_cases hx : x ∈ S ++ (x0 :: p)
    · rw [if_pos hx, List.append_nil]
      have := face_hit hf hi hm hS hc hx
      subst this
      exact hc
    · rw [if_neg hx]
      have := faceN_cyc hf hi hS n (p ++ [x]) (f x) (by rw [← List.cons_append, ← List.append_assoc]; exact hm.snoc h0 h1 hx) (Ch.app.2 ⟨hc, rfl⟩) (hf x h0 h1).1 (hf x h0 h1).2 (by rw [List.length_append]; simp; omega)
      have e : S ++ (x0 :: p) ++ [x] = S ++ x0 :: (p ++ [x]) := by rw [List.append_assoc]; rfl
      rw [e]
      rw [List.append_assoc] at this
      exact this

/-- What the faces are, when the first d darts have been asked. -/
structure FacOK (M : Nat) (f : Int → Int) (d : Nat) (S : List Int) (fs : List (List Int)) : Prop where
  met : Met M S
  flat : S = fs.flatten
  cyc : ∀ l ∈ fs, Cyc f l
  old : ∀ x : Int, 0 ≤ x → x < d → x ∈ S
  shut : ∀ y : Int, 0 ≤ y → y < M → f y ∈ S → y ∈ S
  head : ∀ l ∈ fs, (∀ x ∈ l, ge l 0 ≤ x) ∧ ge l 0 < d
  incr : fs.Pairwise fun l m => ge l 0 < ge m 0
theorem facesN_ok (hf : ∀ x : Int, 0 ≤ x → x < M → 0 ≤ f x ∧ f x < M) (hi : ∀ x y : Int, 0 ≤ x → x < M → 0 ≤ y → y < M → f x = f y → x = y) : ∀ d : Nat, d ≤ M → FacOK M f d (facesN f M d).1 (facesN f M d).2
  | 0, _ => ⟨⟨List.nodup_nil, fun _ h => (by cases h)⟩, rfl, fun _ h => (by cases h), fun x h0 h1 => (by omega), fun y _ _ h => (by cases h), fun _ h => (by cases h), List.Pairwise.nil⟩
  | d + 1, hd => by
    have ih := facesN_ok hf hi d (by omega)
    obtain ⟨S, hS⟩ : ∃ S, (facesN f M d).1 = S := ⟨_, rfl⟩
    obtain ⟨fs, hfs⟩ : ∃ fs, (facesN f M d).2 = fs := ⟨_, rfl⟩
    rw [hS, hfs] at ih
    simp only [facesN]
    rw [hS, hfs]
    by_cases hx : (d : Int) ∈ S
    · have e : faceN f M S d = [] := by
        cases M with
        | zero => rfl
        | succ m => rw [faceN, if_pos hx]
      rw [e, if_pos rfl, List.append_nil]
      refine ⟨ih.met, ih.flat, ih.cyc, fun x h0 h1 => ?_, ih.shut, fun l hl => ⟨(ih.head l hl).1, by have := (ih.head l hl).2; push_cast; omega⟩, ih.incr⟩
      by_cases e : x = d
      · exact e ▸ hx
      · exact ih.old x h0 (by push_cast at h1; omega)
    · obtain ⟨m, rfl⟩ : ∃ m, M = m + 1 := ⟨M - 1, by omega⟩
      have hm1 := ih.met.snoc (x := (d : Int)) (by omega) (by omega) hx
      have hcy := faceN_cyc hf hi (S := S) (x0 := (d : Int)) ih.shut m [] (f d) hm1 rfl (hf d (by omega) (by omega)).1 (hf d (by omega) (by omega)).2 (by simp)
      rw [List.nil_append] at hcy
      have hfm := faceN_met hf (m + 1) S d ih.met (by omega) (by omega)
      have hfe : faceN f (m + 1) S d = (d : Int) :: faceN f m (S ++ [(d : Int)]) (f d) := by rw [faceN, if_neg hx]
      rw [← hfe] at hcy
      obtain ⟨l, hl⟩ : ∃ l, faceN f (m + 1) S d = l := ⟨_, rfl⟩
      have hl0 : ge l 0 = d := by rw [← hl, hfe, ge_cons_zero]
      have hdl : (d : Int) ∈ l := by rw [← hl, hfe]; simp
      rw [hl] at hcy hfm ⊢
      have hne : l ≠ [] := hcy.ne
      rw [if_neg hne]
      have hnew : ∀ x ∈ l, x ∉ S := fun x hx hxS => by
        have := hfm.1
        rw [List.nodup_append] at this
        exact this.2.2 x hxS x hx rfl
      have hrl : ∀ x ∈ l, 0 ≤ x ∧ x < ((m + 1 : Nat) : Int) := fun x hx => hfm.2 x (List.mem_append_right _ hx)
      refine ⟨hfm, ?_, fun l' hl' => ?_, fun x h0 h1 => ?_, fun y h0 h1 hy => ?_, fun l' hl' => ?_, ?_⟩
      · rw [List.flatten_append, ← ih.flat]; simp
      · rcases List.mem_append.1 hl' with h | h
        · exact ih.cyc l' h
        · rw [List.mem_singleton.1 h]; exact hcy
      · by_cases e : x = d
        · exact List.mem_append_right _ (e ▸ hdl)
        · exact List.mem_append_left _ (ih.old x h0 (by push_cast at h1; omega))
      · rcases List.mem_append.1 hy with h | h
        · exact List.mem_append_left _ (ih.shut y h0 h1 h)
        · obtain ⟨q, hq, e⟩ := hcy.pre h
          have := hi q y (hrl q hq).1 (hrl q hq).2 h0 h1 e
          subst this
          exact List.mem_append_right _ hq
      · rcases List.mem_append.1 hl' with h | h
        · have := ih.head l' h
          exact ⟨this.1, by push_cast; omega⟩
        · rw [List.mem_singleton.1 h]
          refine ⟨fun x hx => ?_, by rw [hl0]; push_cast; omega⟩
          rw [hl0]
          exact Int.not_lt.1 fun hlt => hnew x hx (ih.old x (hrl x hx).1 hlt)
      · rw [List.pairwise_append]
        refine ⟨ih.incr, List.pairwise_singleton _ _, fun a ha b hb => ?_⟩
        rw [List.mem_singleton.1 hb, hl0]
        exact (ih.head a ha).2
end

theorem fac_inj {N : Int} {E : List (Int × Int)} {A : List (List Int)} (hV : vRot N E A) : ∀ x y : Int, 0 ≤ x → x < (2 * E.length : Nat) → 0 ≤ y → y < (2 * E.length : Nat) → nxF A x = nxF A y → x = y := by
  intro x y x0 x1 y0 y1 h
  have hs : ∀ x y : Int, 0 ≤ x → x < 2 * E.length → 0 ≤ y → y < 2 * E.length → sucF A x = sucF A y → x = y := by
    intro x y x0 x1 y0 y1 h
    obtain ⟨v, k, hv, hk, e, _⟩ := dart_pos hV x0 x1
    obtain ⟨v', k', hv', hk', e', _⟩ := dart_pos hV y0 y1
    rw [← e, ← e', suc_of hV hv hk, suc_of hV hv' hk'] at h
    have l1 : (k + 1) % (rowOf A v).length < (rowOf A v).length := Nat.mod_lt _ (by omega)
    have l2 : (k' + 1) % (rowOf A v').length < (rowOf A v').length := Nat.mod_lt _ (by omega)
    have t1 : tailE E (ge (rowOf A v) ((k + 1) % (rowOf A v).length)) = v := (hV.dr (v, _) (mem_pre.2 ⟨_, hv, l1, rfl⟩)).2.2
    have t2 : tailE E (ge (rowOf A v') ((k' + 1) % (rowOf A v').length)) = v' := (hV.dr (v', _) (mem_pre.2 ⟨_, hv', l2, rfl⟩)).2.2
    have hvv : v = v' := by rw [h, t2] at t1; omega
    subst hvv
    have hkk : (k + 1) % (rowOf A v).length = (k' + 1) % (rowOf A v).length := by
      rcases Nat.lt_trichotomy ((k + 1) % (rowOf A v).length) ((k' + 1) % (rowOf A v).length) with c | c | c
      · exact absurd h (row_inj hV hv c l2)
      · exact c
      · exact absurd h.symm (row_inj hV hv c l1)
    have : k = k' := by
      rcases Nat.lt_or_ge (k + 1) (rowOf A v).length with c | c
      · rcases Nat.lt_or_ge (k' + 1) (rowOf A v).length with c' | c'
        · rw [Nat.mod_eq_of_lt c, Nat.mod_eq_of_lt c'] at hkk; omega
        · have : k' + 1 = (rowOf A v).length := by omega
          rw [Nat.mod_eq_of_lt c, this, Nat.mod_self] at hkk; omega
      · have e1 : k + 1 = (rowOf A v).length := by omega
        rcases Nat.lt_or_ge (k' + 1) (rowOf A v).length with c' | c'
        · rw [Nat.mod_eq_of_lt c', e1, Nat.mod_self] at hkk; omega
        · omega
    subst this
    rw [← e, ← e']
  have o1 := oth_in (d := x) (M := E.length) x0 (by push_cast at x1; omega)
  have o2 := oth_in (d := y) (M := E.length) y0 (by push_cast at y1; omega)
  have := hs (oth x) (oth y) o1.1 (by omega) o2.1 (by omega) h
  rw [← oth_oth x, this, oth_oth]
theorem fac_ok {N : Int} {E : List (Int × Int)} {A : List (List Int)} (hV : vRot N E A) : FacOK (2 * E.length) (nxF A) (2 * E.length) (facesN (nxF A) (2 * E.length) (2 * E.length)).1 (facesF A (2 * E.length)) :=
  facesN_ok (fun x h0 h1 => by have := nxF_in hV (e := x) h0 (by push_cast at h1; omega); push_cast; omega) (fac_inj hV) _ (Nat.le_refl _)
theorem fac_dec {N : Int} {E : List (Int × Int)} {A : List (List Int)} (hV : vRot N E A) : Dec (fun x => 0 ≤ x ∧ x < 2 * (E.length : Int)) (nxF A) (facesF A (2 * E.length)) := by
  have h := fac_ok hV
  refine ⟨h.cyc, by rw [← h.flat]; exact h.met.1, fun x => ?_⟩
  rw [← h.flat]
  exact ⟨fun hx => by have := h.met.2 x hx; push_cast at this; omega, fun hx => h.old x hx.1 (by push_cast; omega)⟩
end Go.Proofs.YtlealdicoceekaaDoor

/- A system without an edge: it is valid, and its genus is not greater. -/
namespace Go.Proofs.YtlealdicoceekaaDoor

/-- A row without the darts of edge e. -/
def delOne (e d : Int) : List Int := if e < d / 2 then [d - 2] else if d / 2 < e then [d] else []
def delRow (e : Int) (l : List Int) : List Int := l.flatMap (delOne e)
/-- The new number of a dart. -/
def sh (e d : Int) : Int := if d < 2 * e then d else d - 2
theorem delOne_in {e d : Int} (h : d / 2 ≠ e) : delOne e d = [sh e d] := by
  unfold delOne sh
  by_cases h1 : e < d / 2
  · rw [if_pos h1, if_neg (by omega)]
  · rw [if_neg h1, if_pos (by omega), if_pos (by omega)]
theorem delOne_out {e d : Int} (h : d / 2 = e) : delOne e d = [] := by
  unfold delOne
  rw [if_neg (by omega), if_neg (by omega)]
theorem delRow_app (e : Int) (a b : List Int) : delRow e (a ++ b) = delRow e a ++ delRow e b := List.flatMap_append
theorem delRow_cons (e x : Int) (l : List Int) : delRow e (x :: l) = delOne e x ++ delRow e l := rfl
theorem delRow_all {e : Int} : ∀ {l : List Int}, (∀ d ∈ l, d / 2 ≠ e) → delRow e l = l.map (sh e)
  | [], _ => rfl
  | x :: l, h => by
    rw [delRow_cons, delOne_in (h x (by simp)), delRow_all (fun d hd => h d (List.mem_cons_of_mem _ hd))]
    rfl
theorem mem_delRow {e y : Int} {l : List Int} : y ∈ delRow e l ↔ ∃ d ∈ l, d / 2 ≠ e ∧ sh e d = y := by
  unfold delRow
  rw [List.mem_flatMap]
  constructor
  · rintro ⟨d, hd, hy⟩
    by_cases h : d / 2 = e
    · rw [delOne_out h] at hy; cases hy
    · rw [delOne_in h, List.mem_singleton] at hy
      exact ⟨d, hd, h, hy.symm⟩
  · rintro ⟨d, hd, h, rfl⟩
    exact ⟨d, hd, by rw [delOne_in h]; simp⟩
theorem sh_inj {e x y : Int} (hx : x / 2 ≠ e) (hy : y / 2 ≠ e) (h : sh e x = sh e y) : x = y := by
  unfold sh at h
  split at h <;> split at h <;> omega
theorem delRow_nodup {e : Int} : ∀ {l : List Int}, l.Nodup → (delRow e l).Nodup
  | [], _ => List.nodup_nil
  | x :: l, h => by
    rw [List.nodup_cons] at h
    rw [delRow_cons]
    by_cases hx : x / 2 = e
    · rw [delOne_out hx]; exact delRow_nodup h.2
    · rw [delOne_in hx, List.singleton_append, List.nodup_cons]
      refine ⟨fun hm => ?_, delRow_nodup h.2⟩
      obtain ⟨d, hd, h1, h2⟩ := mem_delRow.1 hm
      exact h.1 (sh_inj h1 hx h2 ▸ hd)
theorem delRow_perm {e : Int} {l m : List Int} (h : l.Perm m) : (delRow e l).Perm (delRow e m) := h.flatMap_right _

/-- The darts of the first n lists. -/
def dts (A : List (List Int)) (n : Nat) : List Int := (pre A n).map (·.2)
theorem dts_succ (A : List (List Int)) (n : Nat) : dts A (n + 1) = dts A n ++ rowOf A n := by
  unfold dts
  rw [pre_succ, List.map_append, List.map_map]
  congr 1
  exact List.map_id _
theorem rowOf_map (g : List Int → List Int) (hg : g [] = []) (A : List (List Int)) (v : Nat) : rowOf (A.map g) v = g (rowOf A v) := by
  unfold rowOf
  by_cases h : v < A.length
  · simp [List.getD_eq_getElem?_getD, h]
  · simp [List.getD_eq_getElem?_getD, h, hg]
theorem dts_del (e : Int) (A : List (List Int)) : ∀ n, dts (A.map (delRow e)) n = delRow e (dts A n)
  | 0 => rfl
  | n + 1 => by rw [dts_succ, dts_succ, delRow_app, dts_del e A n, rowOf_map _ rfl]

theorem pr_erase {E : List (Int × Int)} {e i : Nat} (he : e < E.length) (hi : i + 1 < E.length) : pr (E.eraseIdx e) i = pr E (if i < e then i else i + 1) := by
  have hl : i < (E.eraseIdx e).length := by rw [List.length_eraseIdx, if_pos he]; omega
  rw [pr_eq _ hl, List.getElem_eraseIdx]
  by_cases h : i < e
  · rw [dif_pos h, if_pos h, pr_eq]
  · rw [dif_neg h, if_neg h, pr_eq]
theorem tailE_sh {E : List (Int × Int)} {e : Nat} (he : e < E.length) {d : Int} (h0 : 0 ≤ d) (h1 : d < 2 * E.length) (hd : d / 2 ≠ e) : tailE (E.eraseIdx e) (sh e d) = tailE E d := by
  unfold tailE sh
  by_cases h : d < 2 * e
  · rw [if_pos h, pr_erase he (by omega), if_pos (show (d / 2).toNat < e by omega)]
  · rw [if_neg h, pr_erase he (by omega), if_neg (show ¬ ((d - 2) / 2).toNat < e by omega)]
    have e1 : ((d - 2) / 2).toNat + 1 = (d / 2).toNat := by omega
    rw [e1]
    by_cases hp : d % 2 = 0
    · rw [if_pos hp, if_pos (show (d - 2) % 2 = 0 by omega)]
    · rw [if_neg hp, if_neg (show ¬ (d - 2) % 2 = 0 by omega)]
theorem sh_in {e : Nat} {n : Nat} (he : e < n) {d : Int} (h0 : 0 ≤ d) (h1 : d < 2 * n) (hd : d / 2 ≠ e) : 0 ≤ sh e d ∧ sh e d < 2 * ((n - 1 : Nat) : Int) := by
  unfold sh
  split <;> omega
theorem oth_sh {e d : Int} : oth (sh e d) = sh e (oth d) := by
  unfold oth sh
  by_cases h : d % 2 = 0
  · by_cases h2 : d < 2 * e
    · simp only [h2, h, if_true]; rw [if_pos (by omega)]
    · simp only [h2, h, if_true, if_false]; rw [if_pos (by omega), if_neg (by omega)]; omega
  · by_cases h2 : d < 2 * e
    · simp only [h2, h, if_true, if_false]; rw [if_pos (by omega)]
    · simp only [h2, h, if_false]; rw [if_neg (by omega), if_neg (by omega)]; omega
theorem oth_half (d : Int) : oth d / 2 = d / 2 := by unfold oth; split <;> omega

section
variable {N : Int} {E : List (Int × Int)} {A : List (List Int)}
theorem mem_dts {x : Int} : x ∈ dts A A.length ↔ ∃ v k, v < A.length ∧ k < (rowOf A v).length ∧ ge (rowOf A v) k = x := by
  unfold dts
  rw [List.mem_map]
  constructor
  · rintro ⟨q, hq, rfl⟩
    obtain ⟨k, h1, h2, h3⟩ := mem_pre.1 hq
    exact ⟨q.1, k, h1, h2, h3⟩
  · rintro ⟨v, k, h1, h2, h3⟩
    exact ⟨(v, x), mem_pre.2 ⟨k, h1, h2, h3⟩, rfl⟩
theorem dart_dts (hV : vRot N E A) {d : Int} (h0 : 0 ≤ d) (h1 : d < 2 * E.length) : d ∈ dts A A.length := by
  obtain ⟨v, k, hv, hk, e, _⟩ := dart_pos hV h0 h1
  exact mem_dts.2 ⟨v, k, hv, hk, e⟩
theorem del_valid (hV : vRot N E A) {e : Nat} (he : e < E.length) : vRot N (E.eraseIdx e) (A.map (delRow e)) := by
  have hlen : (E.eraseIdx e).length = E.length - 1 := by rw [List.length_eraseIdx, if_pos he]
  refine ⟨hV.n0, hV.n1, by have := hV.e1; omega, by rw [List.length_map]; exact hV.al, fun i hi => ?_, fun q hq => ?_, ?_, ?_⟩
  · rw [pr_erase he (by omega)]
    split
    · exact hV.ed _ (by omega)
    · exact hV.ed _ (by omega)
  · obtain ⟨k, h1, h2, h3⟩ := mem_pre.1 hq
    rw [List.length_map] at h1
    have hm : q.2 ∈ delRow e (rowOf A q.1) := by rw [← rowOf_map (delRow e) rfl, ← h3]; exact ge_mem h2
    obtain ⟨d, hd, hn, hs⟩ := mem_delRow.1 hm
    obtain ⟨i, hi, rfl⟩ := List.getElem_of_mem hd
    have hok := hV.dr (q.1, (rowOf A q.1)[i]) (mem_pre.2 ⟨i, h1, hi, ge_eq _ hi⟩)
    obtain ⟨o1, o2, o3⟩ := hok
    dsimp only at o1 o2 o3
    have := sh_in he o1 o2 hn
    rw [hs] at this
    refine ⟨this.1, by rw [hlen]; exact this.2, ?_⟩
    rw [← hs, tailE_sh he o1 o2 hn, o3]
  · show (dts _ _).Nodup
    rw [List.length_map, dts_del]
    exact delRow_nodup hV.nd
  · have hp1 : (2 * (e : Int)) ∈ dts A A.length := dart_dts hV (by omega) (by omega)
    have hp2 : (2 * (e : Int) + 1) ∈ dts A A.length := dart_dts hV (by omega) (by omega)
    have hnd : (dts A A.length).Nodup := hV.nd
    have hln : (dts A A.length).length = 2 * E.length := by unfold dts; rw [List.length_map]; exact hV.ln
    have hgoal : (dts (A.map (delRow e)) (A.map (delRow e)).length).length = 2 * (E.eraseIdx e).length := by
      rw [List.length_map, dts_del, hlen]
      have q1 := List.perm_cons_erase hp1
      have hp2' : (2 * (e : Int) + 1) ∈ (dts A A.length).erase (2 * (e : Int)) := (List.mem_erase_of_ne (by omega)).2 hp2
      have q2 := List.perm_cons_erase hp2'
      have q := q1.trans (q2.cons _)
      have hnd2 := (q.nodup_iff).1 hnd
      have hl2 := q.length_eq
      simp only [List.length_cons] at hl2
      rw [(delRow_perm q).length_eq, delRow_cons, delRow_cons, delOne_out (by omega), delOne_out (by omega), List.nil_append, List.nil_append, delRow_all, List.length_map]
      · omega
      · intro d hd hde
        rw [List.nodup_cons, List.nodup_cons] at hnd2
        have : d = 2 * (e : Int) ∨ d = 2 * (e : Int) + 1 := by omega
        rcases this with rfl | rfl
        · exact hnd2.1 (List.mem_cons_of_mem _ hd)
        · exact hnd2.2.1 hd
    unfold dts at hgoal
    rw [List.length_map] at hgoal
    exact hgoal

/-- A row is a cycle. -/
theorem row_cyc (hV : vRot N E A) {v : Nat} (hv : v < A.length) (h0 : rowOf A v ≠ []) : Cyc (sucF A) (rowOf A v) := Cyc.of_idx h0 fun _ hk => suc_of hV hv hk
theorem row_nodup (hV : vRot N E A) {v : Nat} (hv : v < A.length) : (rowOf A v).Nodup := by
  unfold List.Nodup
  rw [List.pairwise_iff_getElem]
  intro i j hi hj hij
  rw [← ge_eq _ hi, ← ge_eq _ hj]
  exact row_inj hV hv hij hj
theorem mem_row (hV : vRot N E A) {v : Nat} (hv : v < A.length) {d : Int} (hd : d ∈ rowOf A v) : 0 ≤ d ∧ d < 2 * E.length ∧ tailE E d = v := by
  obtain ⟨i, hi, rfl⟩ := List.getElem_of_mem hd
  exact hV.dr (v, (rowOf A v)[i]) (mem_pre.2 ⟨i, hv, hi, ge_eq _ hi⟩)
theorem row_of (hV : vRot N E A) {d : Int} (h0 : 0 ≤ d) (h1 : d < 2 * E.length) : ∃ v, v < A.length ∧ d ∈ rowOf A v ∧ tailE E d = v := by
  obtain ⟨v, k, hv, hk, e, t⟩ := dart_pos hV h0 h1
  exact ⟨v, hv, e ▸ ge_mem hk, t⟩
theorem suc_tail (hV : vRot N E A) {d : Int} (h0 : 0 ≤ d) (h1 : d < 2 * E.length) : tailE E (sucF A d) = tailE E d := by
  obtain ⟨v, hv, hd, ht⟩ := row_of hV h0 h1
  rw [ht]
  exact (mem_row hV hv ((row_cyc hV hv (List.ne_nil_of_mem hd)).img hd)).2.2
theorem ends_ne (hV : vRot N E A) {e : Nat} (he : e < E.length) : tailE E (2 * e) ≠ tailE E (2 * e + 1) := by
  have := hV.ed e he
  unfold okEdge at this
  unfold tailE
  rw [if_pos (by omega), if_neg (by omega), show (2 * (e : Int) / 2).toNat = e by omega, show ((2 * (e : Int) + 1) / 2).toNat = e by omega]
  exact this.2.2.2.2

/-- What is stepped over when the darts a and b go. -/
def skF (A : List (List Int)) (a b z : Int) : Int := if z = a then sucF A a else if z = b then sucF A b else z
theorem suc_del (hV : vRot N E A) {e : Nat} (he : e < E.length) {y : Int} (h0 : 0 ≤ y) (h1 : y < 2 * E.length) (hy : y / 2 ≠ e) :
    sucF (A.map (delRow e)) (sh e y) = sh e (skF A (2 * e) (2 * e + 1) (sucF A y)) := by
  have hV' := del_valid hV he
  obtain ⟨v, hv, hd, ht⟩ := row_of hV h0 h1
  have hcy := row_cyc hV hv (List.ne_nil_of_mem hd)
  have hnd := row_nodup hV hv
  have hrow : rowOf (A.map (delRow e)) v = delRow e (rowOf A v) := rowOf_map _ rfl A v
  have hcy' := row_cyc hV' (v := v) (by rw [List.length_map]; exact hv) (by rw [hrow]; exact List.ne_nil_of_mem (mem_delRow.2 ⟨y, hd, hy, rfl⟩))
  rw [hrow] at hcy'
  have key : ∀ c c' : Int, (c = 2 * e ∧ c' = 2 * e + 1 ∨ c = 2 * e + 1 ∧ c' = 2 * e) → c ∈ rowOf A v → sucF (A.map (delRow e)) (sh e y) = sh e (skF A (2 * e) (2 * e + 1) (sucF A y)) := by
    intro c c' hcc hc
    have hc' : c' ∉ rowOf A v := fun h => by
      have t1 := (mem_row hV hv hc).2.2
      have t2 := (mem_row hV hv h).2.2
      have := ends_ne hV he
      rcases hcc with ⟨rfl, rfl⟩ | ⟨rfl, rfl⟩
      · exact this (t1.trans t2.symm)
      · exact this (t2.trans t1.symm)
    have hskc : skF A (2 * e) (2 * e + 1) c = sucF A c := by
      unfold skF
      rcases hcc with ⟨rfl, rfl⟩ | ⟨rfl, rfl⟩
      · rw [if_pos rfl]
      · rw [if_neg (by omega), if_pos rfl]
    have hsk : ∀ z, z ≠ c → z ≠ c' → skF A (2 * e) (2 * e + 1) z = z := fun z h1 h2 => by
      unfold skF
      rcases hcc with ⟨rfl, rfl⟩ | ⟨rfl, rfl⟩
      · rw [if_neg h1, if_neg h2]
      · rw [if_neg h2, if_neg h1]
    have hce : c / 2 = e := by omega
    obtain ⟨u, w, hl, hcyc⟩ := hcy.start hc
    rw [hl] at hnd hd hc' hcy'
    rw [List.nodup_append, List.nodup_cons] at hnd
    have hin : ∀ z ∈ w ++ u, z ≠ c ∧ z ≠ c' ∧ z / 2 ≠ e := fun z hz => by
      have hzc : z ≠ c := by
        rintro rfl
        rcases List.mem_append.1 hz with h | h
        · exact hnd.2.1.1 h
        · exact hnd.2.2 _ h _ (by simp) rfl
      have hzc' : z ≠ c' := by
        rintro rfl
        refine hc' ?_
        rcases List.mem_append.1 hz with h | h
        · exact List.mem_append_right _ (List.mem_cons_of_mem _ h)
        · exact List.mem_append_left _ h
      exact ⟨hzc, hzc', by omega⟩
    have hyw : y ∈ w ++ u := by
      have hyc : y ≠ c := fun e => hy (by rw [e]; exact hce)
      simp only [List.mem_append, List.mem_cons] at hd ⊢
      rcases hd with h | h | h
      · exact Or.inr h
      · exact absurd h hyc
      · exact Or.inl h
    have hdel : delRow e (u ++ c :: w) = (u ++ w).map (sh e) := by
      rw [delRow_app, delRow_cons, delOne_out hce, List.nil_append, ← delRow_app]
      exact delRow_all (fun d hd => (hin d ((List.perm_append_comm.mem_iff).1 hd)).2.2)
    have hcs : Cyc (fun z => skF A (2 * e) (2 * e + 1) (sucF A z)) (w ++ u) := by
      cases hwu : w ++ u with
      | nil => rw [hwu] at hyw; cases hyw
      | cons z t =>
        rw [hwu] at hcyc hin
        obtain ⟨e1, e2⟩ : sucF A c = z ∧ Ch (sucF A) z t c := hcyc
        have := Ch.sk (f := sucF A) (g := fun z => skF A (2 * e) (2 * e + 1) (sucF A z)) (sk := skF A (2 * e) (2 * e + 1)) (t := t) (x := z) (z := c) (fun _ _ => rfl) (fun q hq => hsk q (hin q (List.mem_cons_of_mem _ hq)).1 (hin q (List.mem_cons_of_mem _ hq)).2.1) e2
        rw [hskc, e1] at this
        exact this
    rw [hdel] at hcy'
    exact (hcs.rot).rel hcy' y ((List.perm_append_comm.mem_iff).1 hyw)
  by_cases ha : (2 * (e : Int)) ∈ rowOf A v
  · exact key _ _ (Or.inl ⟨rfl, rfl⟩) ha
  · by_cases hb : (2 * (e : Int) + 1) ∈ rowOf A v
    · exact key _ _ (Or.inr ⟨rfl, rfl⟩) hb
    · have hall : ∀ d ∈ rowOf A v, d / 2 ≠ e := fun d hd h => by
        have : d = 2 * (e : Int) ∨ d = 2 * (e : Int) + 1 := by omega
        rcases this with rfl | rfl
        · exact ha hd
        · exact hb hd
      rw [delRow_all hall] at hcy'
      have hsd := hcy.img hd
      rw [hcy.rel hcy' y hd]
      unfold skF
      rw [if_neg (fun h : sucF A y = 2 * (e : Int) => ha (h ▸ hsd)), if_neg (fun h : sucF A y = 2 * (e : Int) + 1 => hb (h ▸ hsd))]
end
end Go.Proofs.YtlealdicoceekaaDoor

/- The genus when an edge is deleted. -/
namespace Go.Proofs.YtlealdicoceekaaDoor

theorem cntP_mono {p q : Nat → Prop} : ∀ {n : Nat}, (∀ v, v < n → p v → q v) → cntP p n ≤ cntP q n
  | 0, _ => Nat.le_refl _
  | n + 1, h => by
    have ih := cntP_mono (p := p) (q := q) (n := n) (fun v hv => h v (by omega))
    simp only [cntP]
    by_cases hp : p n
    · rw [if_pos hp, if_pos (h n (by omega) hp)]; omega
    · rw [if_neg hp]; split <;> omega
theorem cntP_one {p q : Nat → Prop} : ∀ {n : Nat}, (∀ v w, v < n → w < n → p v → ¬ q v → p w → ¬ q w → v = w) → cntP p n ≤ cntP q n + 1
  | 0, _ => by simp [cntP]
  | n + 1, h => by
    simp only [cntP]
    by_cases hx : p n ∧ ¬ q n
    · have := cntP_mono (p := p) (q := q) (n := n) (fun v hv hpv => Classical.byContradiction fun hq => by
        have := h v n (by omega) (by omega) hpv hq hx.1 hx.2
        omega)
      rw [if_pos hx.1, if_neg hx.2]
      omega
    · have ih := cntP_one (p := p) (q := q) (n := n) (fun v w hv hw => h v w (by omega) (by omega))
      by_cases hp : p n
      · have hq : q n := Classical.byContradiction fun hq => hx ⟨hp, hq⟩
        rw [if_pos hp, if_pos hq]; omega
      · rw [if_neg hp]; split <;> omega
/-- One more. -/
theorem cntP_add {p : Nat → Prop} {x : Nat} {P : Prop} [Decidable P] {n : Nat} (hp : ¬ p x) (hx : x < n) : cntP (fun u => p u ∨ (u = x ∧ P)) n = cntP p n + if P then 1 else 0 := by
  by_cases h : P
  · rw [if_pos h]
    exact cntP_drop (x := x) (Or.inr ⟨rfl, h⟩) hp hx (fun v _ hne => ⟨fun h => h.resolve_right (fun h => hne h.1), Or.inl⟩)
  · rw [if_neg h]
    exact cntP_congr fun v _ => ⟨fun h2 => h2.resolve_right (fun h3 => h h3.2), Or.inl⟩

section
variable {E : List (Int × Int)} {e : Nat}
theorem nbr_del (he : e < E.length) {u v : Int} (h : nbrJ E E.length u v) :
    nbrJ (E.eraseIdx e) (E.eraseIdx e).length u v ∨ ((pr E e).1 = u ∧ (pr E e).2 = v) ∨ ((pr E e).2 = u ∧ (pr E e).1 = v) := by
  obtain ⟨i, hi, hh⟩ := h
  by_cases hie : i = e
  · subst hie; exact Or.inr hh
  · left
    have hl : (E.eraseIdx e).length = E.length - 1 := by rw [List.length_eraseIdx, if_pos he]
    refine ⟨if i < e then i else i - 1, by rw [hl]; split <;> omega, ?_⟩
    have : pr (E.eraseIdx e) (if i < e then i else i - 1) = pr E i := by
      rw [pr_erase he (by split <;> omega)]
      congr 1
      by_cases hie2 : i < e
      · rw [if_pos hie2, if_pos hie2]
      · rw [if_neg hie2, if_neg (by omega)]; omega
    rw [this]
    exact hh
theorem Cn.del (he : e < E.length) {u v : Int} (h : Cn E E.length u v) :
    Cn (E.eraseIdx e) (E.eraseIdx e).length u v ∨ (Cn (E.eraseIdx e) (E.eraseIdx e).length u (pr E e).1 ∧ Cn (E.eraseIdx e) (E.eraseIdx e).length (pr E e).2 v) ∨
      (Cn (E.eraseIdx e) (E.eraseIdx e).length u (pr E e).2 ∧ Cn (E.eraseIdx e) (E.eraseIdx e).length (pr E e).1 v) := by
  induction h with
  | refl => exact Or.inl (Cn.refl _)
  | step _ hn ih =>
    rcases nbr_del he hn with hn' | ⟨rfl, rfl⟩ | ⟨rfl, rfl⟩
    · rcases ih with h | ⟨h, h2⟩ | ⟨h, h2⟩
      · exact Or.inl (h.step hn')
      · exact Or.inr (Or.inl ⟨h, h2.step hn'⟩)
      · exact Or.inr (Or.inr ⟨h, h2.step hn'⟩)
    · rcases ih with h | ⟨h, _⟩ | ⟨h, _⟩
      · exact Or.inr (Or.inl ⟨h, Cn.refl _⟩)
      · exact Or.inr (Or.inl ⟨h, Cn.refl _⟩)
      · exact Or.inl h
    · rcases ih with h | ⟨h, _⟩ | ⟨h, _⟩
      · exact Or.inr (Or.inr ⟨h, Cn.refl _⟩)
      · exact Or.inl h
      · exact Or.inr (Or.inr ⟨h, Cn.refl _⟩)
theorem lead_eq {E' : List (Int × Int)} {j : Nat} {v w : Nat} (hv : isL E' j v) (hw : isL E' j w) (h : Cn E' j v w) : v = w := by
  rcases Nat.lt_trichotomy v w with hl | hl | hl
  · exact absurd h (hw v (by omega) (by omega))
  · exact hl
  · exact absurd h.symm (hv w (by omega) (by omega))
theorem not_lead {E' : List (Int × Int)} {j : Nat} {v : Nat} (h : ¬ isL E' j v) : ∃ u : Int, 0 ≤ u ∧ u < v ∧ Cn E' j u v := by
  unfold isL at h
  apply Classical.byContradiction
  intro hn
  exact h fun u h0 h1 hc => hn ⟨u, h0, h1, hc⟩
/-- At most one component more. -/
theorem comp_del (he : e < E.length) (N : Nat) : cntL (E.eraseIdx e) N ≤ cntL E N + 1 := by
  unfold cntL
  refine cntP_one fun v w _ _ pv qv pw qw => ?_
  obtain ⟨u, u0, u1, hu⟩ := not_lead qv
  obtain ⟨u', u0', u1', hu'⟩ := not_lead qw
  rcases Cn.del he hu with h | ⟨h1, h2⟩ | ⟨h1, h2⟩
  · exact absurd h (pv u u0 u1)
  · rcases Cn.del he hu' with h | ⟨h3, h4⟩ | ⟨h3, h4⟩
    · exact absurd h (pw u' u0' u1')
    · exact lead_eq pv pw (h2.symm.trans h4)
    · exfalso
      have k1 : ¬ u < w := fun hl => pw u u0 hl (h1.trans h4)
      have k2 : ¬ u' < v := fun hl => pv u' u0' hl (h3.trans h2)
      omega
  · rcases Cn.del he hu' with h | ⟨h3, h4⟩ | ⟨h3, h4⟩
    · exact absurd h (pw u' u0' u1')
    · exfalso
      have k1 : ¬ u < w := fun hl => pw u u0 hl (h1.trans h4)
      have k2 : ¬ u' < v := fun hl => pv u' u0' hl (h3.trans h2)
      omega
    · exact lead_eq pv pw (h2.symm.trans h4)
/-- No component more, where the ends are still connected. -/
theorem comp_keep (he : e < E.length) (N : Nat) (h : Cn (E.eraseIdx e) (E.eraseIdx e).length (pr E e).2 (pr E e).1) : cntL (E.eraseIdx e) N ≤ cntL E N := by
  unfold cntL
  refine cntP_mono fun v _ pv u u0 u1 hu => ?_
  rcases Cn.del he hu with h0 | ⟨h1, h2⟩ | ⟨h1, h2⟩
  · exact pv u u0 u1 h0
  · exact pv u u0 u1 ((h1.trans h.symm).trans h2)
  · exact pv u u0 u1 ((h1.trans h).trans h2)
end

section
variable {N : Int} {E : List (Int × Int)} {A : List (List Int)} {e : Nat}
theorem oth_a (e : Int) : oth (2 * e) = 2 * e + 1 := by unfold oth; rw [if_pos (by omega)]
theorem oth_b (e : Int) : oth (2 * e + 1) = 2 * e := by unfold oth; rw [if_neg (by omega)]; omega
theorem tail_a (E : List (Int × Int)) (e : Nat) : tailE E (2 * e) = (pr E e).1 := by
  unfold tailE
  rw [if_pos (by omega), show (2 * (e : Int) / 2).toNat = e by omega]
theorem tail_b (E : List (Int × Int)) (e : Nat) : tailE E (2 * e + 1) = (pr E e).2 := by
  unfold tailE
  rw [if_neg (by omega), show ((2 * (e : Int) + 1) / 2).toNat = e by omega]
theorem nx_a (A : List (List Int)) (e : Int) : nxF A (2 * e) = sucF A (2 * e + 1) := by unfold nxF; rw [oth_a]
theorem nx_b (A : List (List Int)) (e : Int) : nxF A (2 * e + 1) = sucF A (2 * e) := by unfold nxF; rw [oth_b]

/-- Along a face that does not use the edge e, its vertices stay connected. -/
theorem face_cn (hV : vRot N E A) (he : e < E.length) : ∀ {t : List Int} {x z : Int}, (∀ y ∈ x :: t, 0 ≤ y ∧ y < 2 * E.length ∧ y / 2 ≠ e) → Ch (nxF A) x t z → Cn (E.eraseIdx e) (E.eraseIdx e).length (tailE E x) (tailE E z) := by
  have hlen : (E.eraseIdx e).length = E.length - 1 := by rw [List.length_eraseIdx, if_pos he]
  have one : ∀ y : Int, 0 ≤ y → y < 2 * E.length → y / 2 ≠ e → Cn (E.eraseIdx e) (E.eraseIdx e).length (tailE E y) (tailE E (nxF A y)) := fun y h0 h1 h2 => by
    have hs := sh_in he h0 h1 h2
    have hn := nbr_dart (E := E.eraseIdx e) hs.1 (by rw [hlen]; exact hs.2)
    have ho := oth_in (d := y) (M := E.length) h0 h1
    rw [oth_sh, tailE_sh he h0 h1 h2, tailE_sh he ho.1 ho.2 (by rw [oth_half]; exact h2)] at hn
    have : tailE E (nxF A y) = tailE E (oth y) := suc_tail hV ho.1 ho.2
    rw [this]
    exact (Cn.refl _).step hn
  intro t
  induction t with
  | nil =>
    intro x z hx hc
    have h := hx x (by simp)
    have hc' : nxF A x = z := hc
    rw [← hc']
    exact one x h.1 h.2.1 h.2.2
  | cons y t ih =>
    intro x z hx hc
    obtain ⟨h1, h2⟩ := hc
    have h := hx x (by simp)
    have := one x h.1 h.2.1 h.2.2
    rw [h1] at this
    exact this.trans (ih (fun y hy => hx y (List.mem_cons_of_mem _ hy)) h2)

noncomputable def isoN (A : List (List Int)) : Nat := cntP (fun u => (rowOf A u).length = 0) A.length
/-- The vertices without an edge. -/
theorem iso_del (hV : vRot N E A) (he : e < E.length) : isoN (A.map (delRow e)) = isoN A + ((if nxF A (2 * e) = 2 * e + 1 then 1 else 0) + (if nxF A (2 * e + 1) = 2 * e then 1 else 0)) := by
  obtain ⟨va, hva, ha, ta⟩ := row_of hV (d := 2 * (e : Int)) (by omega) (by omega)
  obtain ⟨vb, hvb, hb, tb⟩ := row_of hV (d := 2 * (e : Int) + 1) (by omega) (by omega)
  have hne : va ≠ vb := fun h => ends_ne hV he (by rw [ta, tb, h])
  unfold isoN
  rw [List.length_map]
  have key : ∀ u, u < A.length → ((rowOf (A.map (delRow e)) u).length = 0 ↔ (((rowOf A u).length = 0 ∨ (u = vb ∧ nxF A (2 * e) = 2 * e + 1)) ∨ (u = va ∧ nxF A (2 * e + 1) = 2 * e))) := by
    intro u hu
    rw [rowOf_map (delRow e) rfl, List.length_eq_zero_iff, List.length_eq_zero_iff]
    -- a row that holds the dart c alone
    have alone : ∀ c c' : Int, ∀ vc : Nat, c / 2 = e → c ∈ rowOf A vc → vc < A.length → c' ∉ rowOf A vc → (∀ d : Int, d / 2 = e → d = c ∨ d = c') → (delRow e (rowOf A vc) = [] ↔ sucF A c = c) := by
      intro c c' vc hce hc hvc hc' hcc
      have hcy := row_cyc hV hvc (List.ne_nil_of_mem hc)
      have hnd := row_nodup hV hvc
      constructor
      · intro h0
        have hs := hcy.img hc
        have : sucF A c / 2 = e := Classical.byContradiction fun hn => by
          have := mem_delRow.2 ⟨_, hs, hn, rfl⟩
          rw [h0] at this
          cases this
        rcases hcc _ this with h | h
        · exact h
        · rw [h] at hs; exact absurd hs hc'
      · intro hs
        obtain ⟨p, q, hl, hcyc⟩ := hcy.start hc
        have hpq : q ++ p = [] := by
          cases hqp : q ++ p with
          | nil => rfl
          | cons y t =>
            rw [hqp] at hcyc
            obtain ⟨e1, _⟩ : sucF A c = y ∧ Ch (sucF A) y t c := hcyc
            rw [hl, List.nodup_append, List.nodup_cons] at hnd
            have hy : y ∈ q ++ p := by rw [hqp]; simp
            rw [← e1, hs] at hy
            rcases List.mem_append.1 hy with h | h
            · exact absurd h hnd.2.1.1
            · exact absurd rfl (hnd.2.2 c h c (by simp))
        rw [List.append_eq_nil_iff] at hpq
        rw [hl, hpq.1, hpq.2, List.nil_append, delRow_cons, delOne_out hce]
        rfl
    have hab : ∀ d : Int, d / 2 = e → d = 2 * e ∨ d = 2 * e + 1 := fun d hd => by omega
    have hab' : ∀ d : Int, d / 2 = e → d = 2 * e + 1 ∨ d = 2 * e := fun d hd => by omega
    have hba : (2 * (e : Int) + 1) ∉ rowOf A va := fun h => by
      have := (mem_row hV hva h).2.2
      rw [tb] at this
      exact hne (by omega)
    have hab2 : (2 * (e : Int)) ∉ rowOf A vb := fun h => by
      have := (mem_row hV hvb h).2.2
      rw [ta] at this
      exact hne (by omega)
    have hA := alone (2 * e) (2 * e + 1) va (by omega) ha hva hba hab
    have hB := alone (2 * e + 1) (2 * e) vb (by omega) hb hvb hab2 hab'
    rw [nx_a, nx_b]
    by_cases hua : u = va
    · subst hua
      rw [hA]
      constructor
      · intro h; exact Or.inr ⟨rfl, h⟩
      · rintro ((h | ⟨h, _⟩) | ⟨_, h⟩)
        · rw [h] at ha; cases ha
        · exact absurd h hne
        · exact h
    · by_cases hub : u = vb
      · subst hub
        rw [hB]
        constructor
        · intro h; exact Or.inl (Or.inr ⟨rfl, h⟩)
        · rintro ((h | ⟨_, h⟩) | ⟨h, _⟩)
          · rw [h] at hb; cases hb
          · exact h
          · exact absurd h hua
      · constructor
        · intro h
          left; left
          cases hr : rowOf A u with
          | nil => rfl
          | cons x l =>
            exfalso
            have hx : x ∈ rowOf A u := by rw [hr]; simp
            have hxe : x / 2 = e := Classical.byContradiction fun hn => by
              have := mem_delRow.2 ⟨x, hx, hn, rfl⟩
              rw [h] at this
              cases this
            have ht := (mem_row hV hu hx).2.2
            rcases hab x hxe with rfl | rfl
            · rw [ta] at ht; exact hua (by omega)
            · rw [tb] at ht; exact hub (by omega)
        · rintro ((h | ⟨h, _⟩) | ⟨h, _⟩)
          · rw [h]; rfl
          · exact absurd h hub
          · exact absurd h hua
  have hpa : ¬ (rowOf A va).length = 0 := fun h => by rw [List.length_eq_zero_iff] at h; rw [h] at ha; cases ha
  have hpb : ¬ (rowOf A vb).length = 0 := fun h => by rw [List.length_eq_zero_iff] at h; rw [h] at hb; cases hb
  rw [cntP_congr (p := fun u => (rowOf (A.map (delRow e)) u).length = 0) key,
    cntP_add (p := fun u => (rowOf A u).length = 0 ∨ (u = vb ∧ nxF A (2 * e) = 2 * e + 1)) (x := va) (P := nxF A (2 * e + 1) = 2 * e) (fun h => h.elim hpa (fun h => hne h.1)) hva,
    cntP_add (p := fun u => (rowOf A u).length = 0) (x := vb) (P := nxF A (2 * e) = 2 * e + 1) hpb hvb, Nat.add_assoc]

/-- The new faces out of cycles that step over the darts of e. -/
theorem faces_new (hV : vRot N E A) (he : e < E.length) {L' : List (List Int)} (h : Dec (fun y => (0 ≤ y ∧ y < 2 * (E.length : Int)) ∧ y ≠ 2 * e ∧ y ≠ 2 * e + 1) (fun y => skF A (2 * e) (2 * e + 1) (nxF A y)) L') :
    (facesF (A.map (delRow e)) (2 * (E.eraseIdx e).length)).length = L'.length := by
  have hlen : (E.eraseIdx e).length = E.length - 1 := by rw [List.length_eraseIdx, if_pos he]
  have hV' := del_valid hV he
  have h1 := fac_dec hV'
  have h2 := h.map (D' := fun x => 0 ≤ x ∧ x < 2 * ((E.eraseIdx e).length : Int)) (h := nxF (A.map (delRow e))) (r := sh e) (fun y hy => by
      have ho := oth_in (d := y) (M := E.length) hy.1.1 hy.1.2
      show sucF _ (oth (sh e y)) = _
      rw [oth_sh]
      exact suc_del hV he ho.1 ho.2 (by rw [oth_half]; have := hy.2; omega))
    (fun x y hx hy hxy => sh_inj (by have := hx.2; omega) (by have := hy.2; omega) hxy)
    (fun x => by
      constructor
      · intro hx
        rw [hlen] at hx
        refine ⟨if x < 2 * e then x else x + 2, ?_, ?_⟩
        · split <;> omega
        · unfold sh
          by_cases hx2 : x < 2 * e
          · rw [if_pos hx2, if_pos hx2]
          · rw [if_neg hx2, if_neg (by omega)]; omega
      · rintro ⟨y, hy, rfl⟩
        have := sh_in he hy.1.1 hy.1.2 (by have := hy.2; omega)
        rw [hlen]
        exact this)
  rw [h1.len h2, List.length_map]

theorem del_step (hV : vRot N E A) (he : e < E.length) :
    ((facesF (A.map (delRow e)) (2 * (E.eraseIdx e).length)).length + 1 = (facesF A (2 * E.length)).length ∧ isoN (A.map (delRow e)) = isoN A ∧ cntL (E.eraseIdx e) A.length ≤ cntL E A.length) ∨
    ((facesF (A.map (delRow e)) (2 * (E.eraseIdx e).length)).length + isoN (A.map (delRow e)) = (facesF A (2 * E.length)).length + isoN A + 1 ∧ cntL (E.eraseIdx e) A.length ≤ cntL E A.length + 1) := by
  have hD := fac_dec hV
  have hsk : ∀ y : Int, y ≠ 2 * (e : Int) → y ≠ 2 * (e : Int) + 1 → skF A (2 * e) (2 * e + 1) y = y := fun y h1 h2 => by unfold skF; rw [if_neg h1, if_neg h2]
  have hka : skF A (2 * e) (2 * e + 1) (2 * e) = nxF A (2 * e + 1) := by unfold skF; rw [if_pos rfl, nx_b]
  have hkb : skF A (2 * e) (2 * e + 1) (2 * e + 1) = nxF A (2 * e) := by unfold skF; rw [if_neg (by omega), if_pos rfl, nx_a]
  have hiso := iso_del hV he
  obtain ⟨t, M, h1, hM⟩ := hD.at (x := 2 * (e : Int)) ⟨by omega, by omega⟩
  by_cases hb : (2 * (e : Int) + 1) ∈ t
  · right
    obtain ⟨L', h2, h3⟩ := h1.del_one (g := fun y => skF A (2 * e) (2 * e + 1) (nxF A y)) hb hsk hka hkb (fun _ _ _ _ => rfl)
    have h4 := faces_new hV he h2
    refine ⟨?_, comp_del he _⟩
    rw [h4, hiso]
    omega
  · left
    have hbt : (2 * (e : Int) + 1) ∉ (2 * (e : Int)) :: t := fun h => by
      rcases List.mem_cons.1 h with h | h
      · omega
      · exact hb h
    obtain ⟨u, M2, h2, hM2⟩ := h1.tail.at (x := 2 * (e : Int) + 1) ⟨⟨by omega, by omega⟩, hbt⟩
    have hn := h1.nd
    rw [List.flatten_cons, List.nodup_append] at hn
    have h3 : Dec (fun x => 0 ≤ x ∧ x < 2 * (E.length : Int)) (nxF A) (((2 * (e : Int)) :: t) :: ((2 * (e : Int) + 1) :: u) :: M2) := by
      refine (h2.cons (l := (2 * (e : Int)) :: t) (h1.cyc _ (by simp)) hn.1 (fun x hx h => h.2 hx)).congr fun x => ⟨fun h => ?_, fun h => ?_⟩
      · rcases h with h | h
        · exact h.1
        · exact (h1.mem x).1 (by rw [List.flatten_cons]; exact List.mem_append_left _ h)
      · by_cases hx : x ∈ (2 * (e : Int)) :: t
        · exact Or.inr hx
        · exact Or.inl ⟨h, hx⟩
    have hfa : nxF A (2 * e) ≠ 2 * e := fun h => by
      rw [nx_a] at h
      have := suc_tail hV (d := 2 * (e : Int) + 1) (by omega) (by omega)
      rw [h] at this
      exact ends_ne hV he this
    have hfb : nxF A (2 * e + 1) ≠ 2 * e + 1 := fun h => by
      rw [nx_b] at h
      have := suc_tail hV (d := 2 * (e : Int)) (by omega) (by omega)
      rw [h] at this
      exact ends_ne hV he this.symm
    obtain ⟨L', h4, h5⟩ := h3.del_two (g := fun y => skF A (2 * e) (2 * e + 1) (nxF A y)) hsk hka hkb hfa hfb (fun _ _ _ _ => rfl)
    have h6 := faces_new hV he h4
    have hcy : Cyc (nxF A) ((2 * (e : Int)) :: t) := h1.cyc _ (by simp)
    have hna : nxF A (2 * e) ≠ 2 * e + 1 := fun h => hbt (h ▸ hcy.img (by simp))
    have hnb : nxF A (2 * e + 1) ≠ 2 * e := fun h => by
      obtain ⟨q, hq, hqe⟩ := hcy.pre (z := 2 * (e : Int)) (by simp)
      have hqD := (h1.mem q).1 (by rw [List.flatten_cons]; exact List.mem_append_left _ hq)
      have := fac_inj hV q (2 * e + 1) hqD.1 (by push_cast; exact hqD.2) (by omega) (by push_cast; omega) (hqe.trans h.symm)
      exact hbt (this ▸ hq)
    refine ⟨by omega, by rw [hiso, if_neg hna, if_neg hnb]; omega, comp_keep he _ ?_⟩
    cases t with
    | nil => exact absurd hcy hfa
    | cons x t =>
      obtain ⟨c1, c2⟩ : nxF A (2 * e) = x ∧ Ch (nxF A) x t (2 * e) := hcy
      have hin : ∀ y ∈ x :: t, 0 ≤ y ∧ y < 2 * (E.length : Int) ∧ y / 2 ≠ e := fun y hy => by
        have hyD := (h1.mem y).1 (by rw [List.flatten_cons]; exact List.mem_append_left _ (List.mem_cons_of_mem _ hy))
        have hy1 : y ≠ 2 * e + 1 := fun h => hb (h ▸ hy)
        have hy2 : y ≠ 2 * e := fun h => by
          rw [List.nodup_cons] at hn
          exact hn.1.1 (h ▸ hy)
        omega
      have := face_cn hV he hin c2
      rw [tail_a] at this
      have ht : tailE E x = (pr E e).2 := by
        rw [← c1, nx_a, suc_tail hV (by omega) (by omega), tail_b]
      rw [ht] at this
      exact this
/-- What is halved in the genus. -/
noncomputable def genX (N : Int) (E : List (Int × Int)) (A : List (List Int)) : Int := N - E.length + (((facesF A (2 * E.length)).length : Int) + isoN A)
theorem genus_eq (hV : vRot N E A) : genusF N E A = (cntL E A.length : Int) - (genX N E A).tdiv 2 := by
  unfold genusF genX isoN facesO
  rw [if_pos (vRotB_iff.2 hV), if_pos (vRotB_iff.2 hV)]
theorem even_half {x : Int} (h : x % 2 = 0) : (x + 2).tdiv 2 = x.tdiv 2 + 1 := by
  obtain ⟨k, rfl⟩ : ∃ k, x = 2 * k := ⟨x / 2, by omega⟩
  rw [show 2 * k + 2 = 2 * (k + 1) by omega, Int.mul_tdiv_cancel_left _ (by decide), Int.mul_tdiv_cancel_left _ (by decide)]
theorem gen_step (hV : vRot N E A) (he : e < E.length) (hx : genX N (E.eraseIdx e) (A.map (delRow e)) % 2 = 0) :
    genX N E A % 2 = 0 ∧ genusF N (E.eraseIdx e) (A.map (delRow e)) ≤ genusF N E A := by
  have hlen : (E.eraseIdx e).length = E.length - 1 := by rw [List.length_eraseIdx, if_pos he]
  have hV' := del_valid hV he
  rw [genus_eq hV, genus_eq hV', List.length_map]
  have e1 : genX N E A = N - E.length + (((facesF A (2 * E.length)).length : Int) + isoN A) := rfl
  have e2 : genX N (E.eraseIdx e) (A.map (delRow e)) = N - (E.eraseIdx e).length + (((facesF (A.map (delRow e)) (2 * (E.eraseIdx e).length)).length : Int) + isoN (A.map (delRow e))) := rfl
  rcases del_step hV he with ⟨h1, h2, h3⟩ | ⟨h1, h2⟩
  · have : genX N (E.eraseIdx e) (A.map (delRow e)) = genX N E A := by rw [e1, e2]; omega
    rw [this] at hx ⊢
    exact ⟨hx, by omega⟩
  · have h : genX N (E.eraseIdx e) (A.map (delRow e)) = genX N E A + 2 := by rw [e1, e2]; omega
    have h4 : genX N E A % 2 = 0 := by rw [h] at hx; omega
    rw [h, even_half h4]
    exact ⟨h4, by omega⟩
theorem gen_main : ∀ (n : Nat) {N : Int} {E : List (Int × Int)} {A : List (List Int)}, E.length = n → vRot N E A → genX N E A % 2 = 0 ∧ 0 ≤ genusF N E A
  | 0, N, E, A, hl, hV => by
    have hE : E = [] := List.length_eq_zero_iff.1 hl
    subst hE
    have hrow : ∀ u, u < A.length → rowOf A u = [] := fun u hu => by
      cases hr : rowOf A u with
      | nil => rfl
      | cons x l =>
        have := mem_row hV hu (d := x) (by rw [hr]; simp)
        simp at this
        omega
    have hI : isoN A = A.length := cntP_all fun u hu => by rw [hrow u hu]; rfl
    have hC : cntL [] A.length = A.length := cntP_all fun v _ u h0 h1 hc => by
      have := Cn_zero hc
      omega
    have hF : facesF A (2 * ([] : List (Int × Int)).length) = [] := rfl
    have hN := hV.al
    have hX : genX N [] A = 2 * N := by unfold genX; rw [hF, hI]; simp; omega
    rw [genus_eq hV, hX, hC, Int.mul_tdiv_cancel_left _ (by decide)]
    omega
  | n + 1, N, E, A, hl, hV => by
    have he : 0 < E.length := by omega
    have ih := gen_main n (N := N) (E := E.eraseIdx 0) (A := A.map (delRow (0 : Nat))) (by rw [List.length_eraseIdx, if_pos he]; omega) (del_valid hV he)
    have h := gen_step hV he ih.1
    exact ⟨h.1, Int.le_trans ih.2 h.2⟩
end
end Go.Proofs.YtlealdicoceekaaDoor

/- Edges that join. -/
namespace Go.Proofs.YtlealdicoceekaaDoor
open Go.RowKit
attribute [local go_sem ↓] Go.wp_at_zero Go.wp_at_succ

/-- An edge joins u and v. -/
def jn (u v : Int) (a : Int × Int) : Bool := (a.1 == u && a.2 == v) || (a.1 == v && a.2 == u)
def joinB (E : List (Int × Int)) (u v : Int) : Bool := E.any (jn u v)
theorem join_hit {E : List (Int × Int)} {u v : Int} {i : Nat} (hi : i < E.length) (h : jn u v (pr E i) = true) : joinB E u v = true := by
  unfold joinB; rw [List.any_eq_true]; exact ⟨E[i], List.getElem_mem hi, by rw [← pr_eq E hi]; exact h⟩
theorem join_none {E : List (Int × Int)} {u v : Int} (h : ∀ i, i < E.length → jn u v (pr E i) = false) : joinB E u v = false := by
  unfold joinB; rw [List.any_eq_false]; intro a ha
  obtain ⟨i, hi, rfl⟩ := List.getElem_of_mem ha
  have := h i hi
  rw [pr_eq E hi] at this
  rw [this]; simp
set_option maxHeartbeats 2000000 in
theorem joined_r (N : Int) (pE pA : Option Addr) (nE nA cE cA : Nat) (E : List (Int × Int)) (u v : Int) (w : World) (hE : Prs w pE E) (he1 : E.length ≤ 100) (hnE : E.length = nE) :
    Calls Tryd.prog 74 #[.agg #[.int .i64 N, .slice pE nE cE, .slice pA nA cA], .int .i64 u, .int .i64 v] w fun e w' => e = .returned (.bool (joinB E u v)) ∧ Grew w w' := by
  subst hnE
  have HE := Lib.hid hE
  clear hE
  go_enter Tryd.func74, Tryd.ntmps74
  go_wp2
  go_loopw [7] (fun i wr => ∃ j : Nat, j ≤ E.length ∧ i = .int .i64 j ∧ (∀ t, t < j → jn u v (pr E t) = false) ∧ Grew (w.alloc (.cells #[.int .i64 N, .slice pE E.length cE, .slice pA nA cA] 25)) wr) (fun i _ => E.length - (intOf i).toNat)
  case atStart => exact ⟨0, Nat.zero_le _, rfl, fun t ht => absurd ht (Nat.not_lt_zero _), Grew.refl _⟩
  case round =>
    obtain ⟨j, hj, rfl, hok, hg⟩ := hrel
    have Hok := Lib.hid hok
    have Hg := Lib.hid hg
    have hszr := hg.below.size
    simp at hszr
    have Hgw : Hid (Grew w wr) := Lib.hid (((Grew.refl w).alloc _).trans hg)
    have b1 : wr.cell? ⟨w.heap.size, 1, none⟩ = some (.slice pE E.length cE) := hg.cellEq (by first | (go_simp; done) | (simp [go_sem, ↓IntWalk.iteOmega, *]; done))
    clear hok hg
    by_cases hlt : j < E.length
    · obtain ⟨bE, oE, rfl, lE, cE'⟩ := HE.out.cells (by omega)
      obtain ⟨c1, c2⟩ := cE' wr Hgw.out j hlt
      clear cE'
      obtain ⟨x, hx⟩ : ∃ x, (pr E j).1 = x := ⟨_, rfl⟩
      obtain ⟨y, hy⟩ : ∃ y, (pr E j).2 = y := ⟨_, rfl⟩
      rw [hx] at c1; rw [hy] at c2
      have Hjn : Hid (jn u v (pr E j) = ((x == u && y == v) || (x == v && y == u))) := Lib.hid (by unfold jn; rw [hx, hy])
      clear hx hy
      cases hc : ((x == u && y == v) || (x == v && y == u)) <;> rw [hc] at Hjn
      case false =>
        have Hnx : Hid (∀ t, t < j + 1 → jn u v (pr E t) = false) := Lib.hid (fun t ht => by
          by_cases e : t = j
          · subst e; exact Hjn.out
          · exact Hok.out t (by omega))
        cases h1 : x == u <;> cases h2 : y == v <;> cases h3 : x == v <;> cases h4 : y == u <;> rw [h1, h2, h3, h4] at hc <;> first | (exact absurd hc (by decide)) | skip
        all_goals
          clear hc
          go_wp2
          go_roundw
          case rel => exact ⟨j + 1, by omega, by go_num, Hnx.out, Hg.out.trans (by (repeat (first | exact gR _ | refine gO ?_ _ | refine gA ?_ _ | refine gD ?_ | refine gN ?_ _)))⟩
          case measure => simp [intOf]; omega
      case true =>
        have Hf : Hid (joinB E u v = true) := Lib.hid (join_hit hlt Hjn.out)
        cases h1 : x == u <;> cases h2 : y == v <;> cases h3 : x == v <;> cases h4 : y == u <;> rw [h1, h2, h3, h4] at hc <;> first | (exact absurd hc (by decide)) | skip
        all_goals
          clear hc
          go_wp2
          go_ret
          exact ⟨by rw [Hf.out]; rfl, Hgw.out.trans (by (repeat (first | exact gR _ | refine gO ?_ _ | refine gA ?_ _ | refine gD ?_ | refine gN ?_ _)))⟩
    · have Hf : Hid (joinB E u v = false) := Lib.hid (join_none fun i hi => Hok.out i (by omega))
      go_wp2
      go_ret
      exact ⟨by rw [Hf.out]; rfl, Hgw.out.trans (by (repeat (first | exact gR _ | refine gO ?_ _ | refine gA ?_ _ | refine gD ?_ | refine gN ?_ _)))⟩

set_option maxHeartbeats 2000000 in
theorem joined35_r (N : Int) (pE pA : Option Addr) (nE nA cE cA : Nat) (E : List (Int × Int)) (u v : Int) (w : World) (hE : Prs w pE E) (he1 : E.length ≤ 100) (hnE : E.length = nE) :
    Calls Tryd.prog 85 #[.agg #[.int .i64 N, .slice pE nE cE, .slice pA nA cA], .int .i64 u, .int .i64 v] w fun e w' => e = .returned (.bool (joinB E u v)) ∧ Grew w w' := by
  subst hnE
  have HE := Lib.hid hE
  clear hE
  go_enter Tryd.func85, Tryd.ntmps85
  go_wp2
  go_loopw [7] (fun i wr => ∃ j : Nat, j ≤ E.length ∧ i = .int .i64 j ∧ (∀ t, t < j → jn u v (pr E t) = false) ∧ Grew (w.alloc (.cells #[.int .i64 N, .slice pE E.length cE, .slice pA nA cA] 25)) wr) (fun i _ => E.length - (intOf i).toNat)
  case atStart => exact ⟨0, Nat.zero_le _, rfl, fun t ht => absurd ht (Nat.not_lt_zero _), Grew.refl _⟩
  case round =>
    obtain ⟨j, hj, rfl, hok, hg⟩ := hrel
    have Hok := Lib.hid hok
    have Hg := Lib.hid hg
    have hszr := hg.below.size
    simp at hszr
    have Hgw : Hid (Grew w wr) := Lib.hid (((Grew.refl w).alloc _).trans hg)
    have b1 : wr.cell? ⟨w.heap.size, 1, none⟩ = some (.slice pE E.length cE) := hg.cellEq (by first | (go_simp; done) | (simp [go_sem, ↓IntWalk.iteOmega, *]; done))
    clear hok hg
    by_cases hlt : j < E.length
    · obtain ⟨bE, oE, rfl, lE, cE'⟩ := HE.out.cells (by omega)
      obtain ⟨c1, c2⟩ := cE' wr Hgw.out j hlt
      clear cE'
      obtain ⟨x, hx⟩ : ∃ x, (pr E j).1 = x := ⟨_, rfl⟩
      obtain ⟨y, hy⟩ : ∃ y, (pr E j).2 = y := ⟨_, rfl⟩
      rw [hx] at c1; rw [hy] at c2
      have Hjn : Hid (jn u v (pr E j) = ((x == u && y == v) || (x == v && y == u))) := Lib.hid (by unfold jn; rw [hx, hy])
      clear hx hy
      cases hc : ((x == u && y == v) || (x == v && y == u)) <;> rw [hc] at Hjn
      case false =>
        have Hnx : Hid (∀ t, t < j + 1 → jn u v (pr E t) = false) := Lib.hid (fun t ht => by
          by_cases e : t = j
          · subst e; exact Hjn.out
          · exact Hok.out t (by omega))
        cases h1 : x == u <;> cases h2 : y == v <;> cases h3 : x == v <;> cases h4 : y == u <;> rw [h1, h2, h3, h4] at hc <;> first | (exact absurd hc (by decide)) | skip
        all_goals
          clear hc
          go_wp2
          go_roundw
          case rel => exact ⟨j + 1, by omega, by go_num, Hnx.out, Hg.out.trans (by (repeat (first | exact gR _ | refine gO ?_ _ | refine gA ?_ _ | refine gD ?_ | refine gN ?_ _)))⟩
          case measure => simp [intOf]; omega
      case true =>
        have Hf : Hid (joinB E u v = true) := Lib.hid (join_hit hlt Hjn.out)
        cases h1 : x == u <;> cases h2 : y == v <;> cases h3 : x == v <;> cases h4 : y == u <;> rw [h1, h2, h3, h4] at hc <;> first | (exact absurd hc (by decide)) | skip
        all_goals
          clear hc
          go_wp2
          go_ret
          exact ⟨by rw [Hf.out]; rfl, Hgw.out.trans (by (repeat (first | exact gR _ | refine gO ?_ _ | refine gA ?_ _ | refine gD ?_ | refine gN ?_ _)))⟩
    · have Hf : Hid (joinB E u v = false) := Lib.hid (join_none fun i hi => Hok.out i (by omega))
      go_wp2
      go_ret
      exact ⟨by rw [Hf.out]; rfl, Hgw.out.trans (by (repeat (first | exact gR _ | refine gO ?_ _ | refine gA ?_ _ | refine gD ?_ | refine gN ?_ _)))⟩

end Go.Proofs.YtlealdicoceekaaDoor

/- Simple of the reference. -/
namespace Go.Proofs.YtlealdicoceekaaDoor
open Go.RowKit
attribute [local go_sem ↓] Go.wp_at_zero Go.wp_at_succ

/-- No two edges join the same vertices. -/
def simB (E : List (Int × Int)) : Bool := (List.range E.length).all fun i => !joinB (E.take i) (pr E i).1 (pr E i).2
theorem sim_all {E : List (Int × Int)} (h : ∀ i, i < E.length → joinB (E.take i) (pr E i).1 (pr E i).2 = false) : simB E = true := by
  unfold simB; rw [List.all_eq_true]; intro i hi; rw [h i (List.mem_range.1 hi)]; rfl
theorem sim_bad {E : List (Int × Int)} {i : Nat} (hi : i < E.length) (h : joinB (E.take i) (pr E i).1 (pr E i).2 = true) : simB E = false := by
  unfold simB; rw [List.all_eq_false]; exact ⟨i, List.mem_range.2 hi, by rw [h]; simp⟩
theorem Prs.take {w : World} {p : Option Addr} {E : List (Int × Int)} (h : Prs w p E) (i : Nat) : Prs w p (E.take i) := by
  obtain ⟨h1, b, o, h3, h4⟩ := h
  refine ⟨by rw [List.length_take]; omega, b, o, fun hp => h3 (by rw [List.length_take] at hp; omega), fun k hk => ?_⟩
  rw [List.length_take] at hk
  have e : pr (E.take i) k = pr E k := by unfold pr; simp only [List.getD_eq_getElem?_getD, List.getElem?_take]; rw [if_pos (by omega)]
  rw [e]
  exact h4 k (by omega)

set_option maxHeartbeats 2000000 in
theorem simple_r (N : Int) (pE pA : Option Addr) (nE nA cE cA : Nat) (E : List (Int × Int)) (w : World) (hE : Prs w pE E) (he1 : E.length ≤ 100) (hcE : E.length ≤ cE) (hcM : cE ≤ maxLen) (hnE : E.length = nE) :
    Calls Tryd.prog 71 #[.agg #[.int .i64 N, .slice pE nE cE, .slice pA nA cA]] w fun e w' => e = .returned (.bool (simB E)) ∧ Grew w w' := by
  subst hnE
  have HE := Lib.hid hE
  clear hE
  go_enter Tryd.func71, Tryd.ntmps71
  go_wp2
  go_loopw [3] (fun i wr => ∃ j : Nat, j ≤ E.length ∧ i = .int .i64 j ∧ (∀ t, t < j → joinB (E.take t) (pr E t).1 (pr E t).2 = false) ∧ Grew (w.alloc (.cells #[.int .i64 N, .slice pE E.length cE, .slice pA nA cA] 25)) wr) (fun i _ => E.length - (intOf i).toNat)
  case atStart => exact ⟨0, Nat.zero_le _, rfl, fun t ht => absurd ht (Nat.not_lt_zero _), Grew.refl _⟩
  case round =>
    obtain ⟨j, hj, rfl, hok, hg⟩ := hrel
    have Hok := Lib.hid hok
    have Hg := Lib.hid hg
    have hszr := hg.below.size
    simp at hszr
    have Hgw : Hid (Grew w wr) := Lib.hid (((Grew.refl w).alloc _).trans hg)
    have b0 : wr.cell? ⟨w.heap.size, 0, none⟩ = some (.int .i64 N) := hg.cellEq (by first | (go_simp; done) | (simp [go_sem, ↓IntWalk.iteOmega, *]; done))
    have b1 : wr.cell? ⟨w.heap.size, 1, none⟩ = some (.slice pE E.length cE) := hg.cellEq (by first | (go_simp; done) | (simp [go_sem, ↓IntWalk.iteOmega, *]; done))
    have b2 : wr.cell? ⟨w.heap.size, 2, none⟩ = some (.slice pA nA cA) := hg.cellEq (by first | (go_simp; done) | (simp [go_sem, ↓IntWalk.iteOmega, *]; done))
    clear hok hg
    by_cases hlt : j < E.length
    · obtain ⟨bE, oE, rfl, lE, cE'⟩ := HE.out.cells (by omega)
      obtain ⟨c1, c2⟩ := cE' wr Hgw.out j hlt
      clear cE'
      have HJ := Lib.hid (fun W1 (hg1 : Grew w W1) => joined35_r N (some ⟨bE, oE, none⟩) pA j nA cE cA (E.take j) (pr E j).1 (pr E j).2 W1 ((HE.out.take j).grew hg1) (by rw [List.length_take]; omega) (by rw [List.length_take]; omega))
      obtain ⟨x, hx⟩ : ∃ x, (pr E j).1 = x := ⟨_, rfl⟩
      obtain ⟨y, hy⟩ : ∃ y, (pr E j).2 = y := ⟨_, rfl⟩
      obtain ⟨t, ht⟩ : ∃ t, joinB (E.take j) (pr E j).1 (pr E j).2 = t := ⟨_, rfl⟩
      have Ht := Lib.hid ht
      rw [ht, hx, hy] at HJ
      rw [hx] at c1; rw [hy] at c2
      clear hx hy ht
      cases t
      case false =>
        have Hnx : Hid (∀ t, t < j + 1 → joinB (E.take t) (pr E t).1 (pr E t).2 = false) := Lib.hid (fun t ht => by
          by_cases e : t = j
          · subst e; exact Ht.out
          · exact Hok.out t (by omega))
        go_upto_region 6 with fail
        refine wp_region_over (by kernel_rfl) (by kernel_rfl) ?_; (repeat (go_big_quiet_step ((go_at_call 85; apply over_call; with_reducible exact HJ.out _ (Hgw.out.trans (by (repeat (first | exact gR _ | refine gO ?_ _ | refine gA ?_ _ | refine gD ?_ | refine gN ?_ _)))))))); refine wpQuiet_nil ?_; rintro _ ⟨x, rfl⟩
        go_wp2
        go_roundw
        case rel => exact ⟨j + 1, by omega, by go_num, Hnx.out, Hg.out.trans (by (repeat (first | exact gR _ | refine gO ?_ _ | refine gA ?_ _ | refine gD ?_ | refine gN ?_ _)))⟩
        case measure => simp [intOf]; omega
      case true =>
        have Hf : Hid (simB E = false) := Lib.hid (sim_bad hlt Ht.out)
        go_upto_region 6 with fail
        refine wp_region_over (by kernel_rfl) (by kernel_rfl) ?_; (repeat (go_big_quiet_step ((go_at_call 85; apply over_call; with_reducible exact HJ.out _ (Hgw.out.trans (by (repeat (first | exact gR _ | refine gO ?_ _ | refine gA ?_ _ | refine gD ?_ | refine gN ?_ _)))))))); refine wpQuiet_nil ?_; rintro _ ⟨x, rfl⟩
        go_wp2
        go_ret
        exact ⟨by rw [Hf.out]; rfl, Hgw.out.trans (by (repeat (first | exact gR _ | refine gO ?_ _ | refine gA ?_ _ | refine gD ?_ | refine gN ?_ _)))⟩
    · have Hf : Hid (simB E = true) := Lib.hid (sim_all fun i hi => Hok.out i (by omega))
      go_wp2
      go_ret
      exact ⟨by rw [Hf.out]; rfl, Hgw.out.trans (by (repeat (first | exact gR _ | refine gO ?_ _ | refine gA ?_ _ | refine gD ?_ | refine gN ?_ _)))⟩

end Go.Proofs.YtlealdicoceekaaDoor

/- simple of the program. -/
namespace Go.Proofs.YtlealdicoceekaaDoor
open Go.RowKit
open Go.WideMaps (KeyLaw)
open Go.Maps (Keyed IsMap)
attribute [local go_sem ↓] Go.wp_at_zero Go.wp_at_succ

theorem arc_law : Keyed Tryd.prog 45 := Keyed.of_law (deep_law_laid (by kernel_rfl) (m := 2) (by omega) (of_decide_eq_true (by kernel_rfl)) (by kernel_rfl) (by rw [Tryd.underlying45]))
theorem zero_bool (w : World) : (zeroValue 4).run Tryd.prog w = .ok (.bool false) w := by kernel_rfl
def arcV (a : Int × Int) : Value := .agg #[.int .i64 a.1, .int .i64 a.2]
theorem arc_keyT : Tryd.prog.keyType 45 = true := by kernel_rfl
theorem arc_cells : Tryd.prog.cellsOf 45 = 2 := by kernel_rfl
theorem int_cells : Tryd.prog.cellsOf 3 = 1 := by kernel_rfl
theorem types_pos : ∃ m, Tryd.prog.types.size = m + 1 := ⟨Tryd.prog.types.size - 1, by have : 0 < Tryd.prog.types.size := of_decide_eq_true (by kernel_rfl); omega⟩
theorem arc_key (a : Int × Int) (h1 : (Lit.int .i64 a.1).wf = true) (h2 : (Lit.int .i64 a.2).wf = true) : ∃ kl, keyOf Tryd.prog 45 (arcV a) = some kl := by
  obtain ⟨m, hm⟩ := types_pos
  have hf : (arcV a).formed Tryd.prog 45 = true := by unfold arcV; simp [Value.formed, Tryd.underlying45, arc_cells]
  unfold keyOf
  rw [Tryd.underlying45]
  simp only [arc_keyT, hf, Bool.and_self, if_true, hm]
  unfold Program.keyLits
  rw [Tryd.underlying45]
  simp [arcV, Value.cells, arc_cells, int_cells, Program.keyLits, Tryd.underlying3, h1, h2]
noncomputable def klA (a : Int × Int) : Lit := (keyOf Tryd.prog 45 (arcV a)).getD (.bool false)
def ok64 (a : Int × Int) : Prop := (Lit.int .i64 a.1).wf = true ∧ (Lit.int .i64 a.2).wf = true
theorem klA_eq {a : Int × Int} (h : ok64 a) : keyOf Tryd.prog 45 (arcV a) = some (klA a) := by
  obtain ⟨kl, hk⟩ := arc_key a h.1 h.2
  unfold klA; rw [hk]; rfl
theorem klA_inj {a b : Int × Int} (ha : ok64 a) (hb : ok64 b) (h : klA a = klA b) : a = b := by
  have h1 := klA_eq ha
  rw [h] at h1
  have := arc_law.inj h1 (klA_eq hb)
  unfold arcV at this
  injection this with e
  simp at e
  exact Prod.ext e.1 e.2
theorem ok_small {a : Int × Int} (h : (0 ≤ a.1 ∧ a.1 ≤ 1000000) ∧ 0 ≤ a.2 ∧ a.2 ≤ 1000000) : ok64 a := by
  have hw : ∀ x : Int, 0 ≤ x → x ≤ 1000000 → (Lit.int .i64 x).wf = true := fun x h0 h1 => by
    have e1 : IntKind.i64.min = -9223372036854775808 := rfl
    have e2 : IntKind.i64.max = 9223372036854775807 := rfl
    simp only [Lit.wf, e1, e2]
    simp; omega
  exact ⟨hw _ h.1.1 h.1.2, hw _ h.2.1 h.2.2⟩

/-! ### Worlds with a map of the call's own -/
theorem cell?_alloc_map (w : World) (es : Array MapEntry) (c n i : Nat) : (w.alloc (.map es c)).cell? ⟨n, i, none⟩ = if n < w.heap.size then w.cell? ⟨n, i, none⟩ else none := by
  unfold World.cell?
  rw [show (Addr.mk n i none).block = n from rfl, heap_alloc_if]
  by_cases h1 : n < w.heap.size
  · simp only [if_pos h1]
  · simp only [if_neg h1]
    by_cases h2 : n = w.heap.size
    · simp [h2]
    · simp [h2]

theorem wpList_lookup_run {P : Program} {w : World} {ops : Array Oper} {rest : List Oper} {o : Oper} {a : Act} {Q : Exit → Act → World → Prop}
    (hg : o.guard = none) (m x : Operand) (t : TypeId) (hop : o.op = Op.lookup t m x false) (mv kv v : Value) (hm : a.eval m = mv) (hx : a.eval x = kv) (hrun : (Instr.lookup t mv kv false).run P w = .ok v w)
    (hK : wpList P ops Q rest (a.put o.dst v) w) : wpList P ops Q (o :: rest) a w := by
  refine wpList_plain hg fun K' hK' => ?_
  unfold Oper.wp
  simp [execOp, hop, hm, hx, hrun, Result.andThen]
  exact hK' _ _ hK
theorem ownsMap_grew {w w' : World} {b n : Nat} {k : TypeId} {R : Value → Option (DataW Unit × List MemPlace)} {D : DataW Unit} (h : w.ownsMap Tryd.prog k R b n D) (hg : Grew w w') : w'.ownsMap Tryd.prog k R b n D := by
  have hlt := h.lt
  obtain ⟨es, clock, hb, F, hs, hD⟩ := h
  exact ⟨es, clock, (hg.below.block b hlt).trans hb, F, hs, hD⟩
/-- An edge with its lesser end first. -/
def nrm (a : Int × Int) : Int × Int := if a.1 < a.2 then a else (a.2, a.1)
theorem jn_nrm {x y : Int} {a : Int × Int} (h : x ≠ y) : jn x y a = true ↔ nrm a = nrm (x, y) := by
  obtain ⟨p, q⟩ := a
  unfold jn nrm
  simp only [Bool.or_eq_true, Bool.and_eq_true, beq_iff_eq]
  split <;> split <;> simp only [Prod.mk.injEq] <;> omega
theorem join_nrm {L : List (Int × Int)} {x y : Int} (h : x ≠ y) : joinB L x y = true ↔ nrm (x, y) ∈ L.map nrm := by
  unfold joinB
  rw [List.any_eq_true, List.mem_map]
  exact ⟨fun ⟨a, ha, hj⟩ => ⟨a, ha, (jn_nrm h).1 hj⟩, fun ⟨a, ha, hj⟩ => ⟨a, ha, (jn_nrm h).2 hj⟩⟩

/-- The map holds just the arcs of L. -/
def MetA (D : DataW Unit) (L : List (Int × Int)) : Prop := IsMap D ∧ ∀ a, ok64 a → D.atKey (klA a) (.lit (.bool false)) = .lit (.bool (decide (a ∈ L)))
theorem MetA.nil : MetA (.map []) [] := ⟨⟨[], rfl⟩, fun a _ => by simp [DataW.atKey]⟩
theorem MetA.put {D : DataW Unit} {L : List (Int × Int)} (h : MetA D L) {b : Int × Int} (hb : ok64 b) : MetA (D.put (klA b) (.lit (.bool true))) (L ++ [b]) := by
  refine ⟨h.1.put _ _, fun a ha => ?_⟩
  by_cases e : a = b
  · subst e
    rw [Maps.atKey_put_same h.1 (arc_law.key (klA_eq ha))]
    simp
  · rw [Maps.atKey_put_other (fun k => e (klA_inj ha hb k)), h.2 a ha]
    simp [e]

/-- What the look-up of an arc gives. -/
theorem MetA.look {w : World} {b n : Nat} {D : DataW Unit} {L : List (Int × Int)} (h : MetA D L) (hO : w.ownsMap Tryd.prog 45 (plainElem Tryd.prog 4) b n D) {a : Int × Int} (ha : ok64 a) :
    (Instr.lookup 92 (.map (some b)) (.agg #[.int .i64 a.1, .int .i64 a.2]) false).run Tryd.prog w = .ok (.bool (decide (a ∈ L))) w := by
  obtain ⟨v, ps, hrun, hv⟩ := hO.lookup (t := 92) arc_law Tryd.underlying92 (zero_bool w) (plainElem_bool Tryd.underlying4 false) (klA_eq ha)
  rw [h.2 a ha] at hv
  have : v = .bool (decide (a ∈ L)) := by
    unfold plainElem at hv
    rw [Tryd.underlying4] at hv
    cases v <;> simp at hv
    rw [hv.1]
  rw [← this]
  exact hrun

set_option maxRecDepth 4000 in
set_option maxHeartbeats 4000000 in
theorem simple_p (N : Int) (pE pA : Option Addr) (nE nA cE cA : Nat) (E : List (Int × Int)) (w : World) (hE : Prs w pE E) (he1 : E.length ≤ 100) (hnE : E.length = nE) (hN : N ≤ 16384) (hed : ∀ i, i < E.length → okEdge N (pr E i)) :
    Calls Tryd.prog 88 #[.agg #[.int .i64 N, .slice pE nE cE, .slice pA nA cA]] w fun e w' => e = .returned (.bool (simB E)) ∧ Grew w w' := by
  subst hnE
  have HE := Lib.hid hE
  have Hed := Lib.hid hed
  clear hE hed
  have hmm := @run_makeMap Tryd.prog
  go_enter Tryd.func88, Tryd.ntmps88
  go_wp2
  have h1 : ((w.alloc (.cells #[.int .i64 N, .slice pE E.length cE, .slice pA nA cA] 25)).alloc (.map #[] 0)).cell? ⟨w.heap.size, 1, none⟩ = some (.slice pE E.length cE) := by rw [cell?_alloc_map, if_pos (by simp)]; simp [go_sem]
  go_wp2
  have Hg0 : Hid (Grew w (w.alloc (.cells #[.int .i64 N, .slice pE E.length cE, .slice pA nA cA] 25))) := Lib.hid ((Grew.refl w).alloc _)
  go_loopw [10] (fun i wr => ∃ j : Nat, j ≤ E.length ∧ i = .int .i64 j ∧ (∀ t, t < j → joinB (E.take t) (pr E t).1 (pr E t).2 = false) ∧ Grew (w.alloc (.cells #[.int .i64 N, .slice pE E.length cE, .slice pA nA cA] 25)) wr ∧ ∃ D : DataW Unit, MetA D ((E.take j).map nrm) ∧ wr.ownsMap Tryd.prog 45 (plainElem Tryd.prog 4) (w.heap.size + 1) j D) (fun i _ => E.length - (intOf i).toNat)
  case atStart => exact ⟨0, Nat.zero_le _, rfl, fun t ht => absurd ht (Nat.not_lt_zero _), (Grew.refl _).alloc _, .map [], MetA.nil, (by have h := World.ownsMap_made (H := Unit) (w.alloc (.cells #[.int .i64 N, .slice pE E.length cE, .slice pA nA cA] 25)) Tryd.prog 45 (plainElem Tryd.prog 4); rw [World.size_alloc] at h; exact h)⟩
  case round =>
    obtain ⟨j, hj, rfl, hok, hg, D, hD, hO⟩ := hrel
    clear h1
    have Hok := Lib.hid hok
    have Hg := Lib.hid hg
    have HD := Lib.hid hD
    have HO := Lib.hid hO
    have hszr := hg.below.size
    simp at hszr
    have hblt := hO.lt
    have Hgw : Hid (Grew w wr) := Lib.hid (Hg0.out.trans hg)
    have b1 : wr.cell? ⟨w.heap.size, 1, none⟩ = some (.slice pE E.length cE) := hg.cellEq (by first | (go_simp; done) | (simp [go_sem, ↓IntWalk.iteOmega, *]; done))
    clear hok hg hD hO
    by_cases hlt : j < E.length
    · obtain ⟨bE, oE, rfl, lE, cE'⟩ := HE.out.cells (by omega)
      obtain ⟨c1, c2⟩ := cE' wr Hgw.out j hlt
      clear cE'
      have hok := Hed.out j hlt
      unfold okEdge at hok
      obtain ⟨x, hx⟩ : ∃ x, (pr E j).1 = x := ⟨_, rfl⟩
      obtain ⟨y, hy⟩ : ∃ y, (pr E j).2 = y := ⟨_, rfl⟩
      obtain ⟨lo, hlo⟩ : ∃ lo, (nrm (x, y)).1 = lo := ⟨_, rfl⟩
      obtain ⟨hi, hhi⟩ : ∃ hi, (nrm (x, y)).2 = hi := ⟨_, rfl⟩
      obtain ⟨t, ht⟩ : ∃ t, joinB (E.take j) x y = t := ⟨_, rfl⟩
      have hnr : nrm (x, y) = (lo, hi) := Prod.ext hlo hhi
      rw [hx] at c1 hok; rw [hy] at c2 hok
      have hmin : (if y < x then y else x) = lo ∧ (if x < y then y else x) = hi := by
        rw [← hlo, ← hhi]; unfold nrm
        rcases Int.lt_trichotomy x y with h | h | h
        · rw [if_neg (by omega), if_pos h, if_pos h]; exact ⟨rfl, rfl⟩
        · omega
        · rw [if_pos h, if_neg (by omega), if_neg (by omega)]; exact ⟨rfl, rfl⟩
      have hb : (0 ≤ lo ∧ lo ≤ 1000000) ∧ 0 ≤ hi ∧ hi ≤ 1000000 := by
        obtain ⟨q1, q2⟩ := hmin
        split at q1 <;> split at q2 <;> omega
      have Hokb : Hid (ok64 (lo, hi)) := Lib.hid (ok_small hb)
      have hdec : decide ((lo, hi) ∈ (E.take j).map nrm) = t := by
        rw [← ht, ← hnr, Bool.eq_iff_iff, decide_eq_true_iff, join_nrm hok.2.2.2.2]
      have HLK : Hid (∀ W1, Grew wr W1 → (Instr.lookup 92 (.map (some (w.heap.size + 1))) (.agg #[.int .i64 lo, .int .i64 hi]) false).run Tryd.prog W1 = .ok (.bool t) W1) := Lib.hid (fun W1 hg1 => by
        have h := HD.out.look (ownsMap_grew HO.out hg1) Hokb.out
        rw [hdec] at h
        exact h)
      have Ht : Hid (joinB (E.take j) (pr E j).1 (pr E j).2 = t) := Lib.hid (by rw [hx, hy]; exact ht)
      have Hnx : Hid ((E.take (j + 1)).map nrm = (E.take j).map nrm ++ [(lo, hi)]) := Lib.hid (by
        rw [List.take_succ_eq_append_getElem hlt, ← pr_eq E hlt, List.map_append, List.map_cons, List.map_nil, ← hnr, ← hx, ← hy])
      obtain ⟨hm1, hm2⟩ := hmin
      clear hlo hhi hnr hx hy ht hdec hb hok
      cases t
      case false =>
        have Hnj : Hid (∀ t, t < j + 1 → joinB (E.take t) (pr E t).1 (pr E t).2 = false) := Lib.hid (fun t ht => by
          by_cases e : t = j
          · subst e; exact Ht.out
          · exact Hok.out t (by omega))
        go_wp2_with (first
          | (at_lookup; refine wpList_lookup_run rfl _ _ _ rfl _ _ (.bool false) rfl rfl (HLK.out _ (by (repeat (first | exact gR _ | refine gO ?_ _ | refine gA ?_ _ | refine gD ?_ | refine gN ?_ _)))) ?_)
          | (at_mapUpdate; refine wpList_mapUpdate_own _ rfl _ _ _ 92 rfl 45 4 arc_law Tryd.underlying92 (plainElem Tryd.prog 4) (w.heap.size + 1) j D rfl (ownsMap_grew HO.out (by (repeat (first | exact gR _ | refine gO ?_ _ | refine gA ?_ _ | refine gD ?_ | refine gN ?_ _)))) (by simp only [maxLen]; omega) _ _ (klA (lo, hi)) rfl rfl (klA_eq Hokb.out) (.lit (.bool true)) [] (plainElem_bool Tryd.underlying4 true) ?_; intro w1 hO1 hg1))
        go_roundw
        case rel => exact ⟨j + 1, by omega, by go_num, Hnj.out, (Grew.grownBy (w0 := w.alloc (.cells #[.int .i64 N, .slice (some ⟨bE, oE, none⟩) E.length cE, .slice pA nA cA] 25)) (Hg.out.trans (by (repeat (first | exact gR _ | refine gO ?_ _ | refine gA ?_ _ | refine gD ?_ | refine gN ?_ _)))) hg1 (fun k h => by have := Option.some.inj h; simp; omega)), D.put (klA (lo, hi)) (.lit (.bool true)), (by rw [Hnx.out]; exact HD.out.put Hokb.out), hO1⟩
        case measure => simp [intOf]; omega
      case true =>
        have Hf : Hid (simB E = false) := Lib.hid (sim_bad hlt Ht.out)
        go_wp2_with (first
          | (at_lookup; refine wpList_lookup_run rfl _ _ _ rfl _ _ (.bool true) rfl rfl (HLK.out _ (by (repeat (first | exact gR _ | refine gO ?_ _ | refine gA ?_ _ | refine gD ?_ | refine gN ?_ _)))) ?_))
        go_ret
        exact ⟨by rw [Hf.out]; rfl, Hgw.out.trans (by (repeat (first | exact gR _ | refine gO ?_ _ | refine gA ?_ _ | refine gD ?_ | refine gN ?_ _)))⟩
    · have Hf : Hid (simB E = true) := Lib.hid (sim_all fun i hi => Hok.out i (by omega))
      go_wp2
      go_ret
      exact ⟨by rw [Hf.out]; rfl, Hgw.out.trans (by (repeat (first | exact gR _ | refine gO ?_ _ | refine gA ?_ _ | refine gD ?_ | refine gN ?_ _)))⟩

end Go.Proofs.YtlealdicoceekaaDoor
