/- Components of the reference. -/
import Derived.Test.YtdacnkjmimhcaaaDoorRotQ
set_option linter.unusedSimpArgs false
set_option linter.unusedVariables false
namespace Go.Proofs.YtdacnkjmimhcaaaDoor
open Go.RowKit
attribute [local go_sem ↓] Go.wp_at_zero Go.wp_at_succ

/-- The root of v's tree. -/
def rootN (up : List Int) : Nat → Nat → Nat
  | 0, v => v
  | f + 1, v => if ge up v = v then v else rootN up f (ge up v).toNat
def rootF (up : List Int) (v : Nat) : Nat := rootN up (v + 1) v
theorem rootN_spec {E : List (Int × Int)} {j N : Nat} {up : List Int} (h : UpOK E j N up) : ∀ (f v : Nat), v < N → v < f → rootN up f v < N ∧ ge up (rootN up f v) = (rootN up f v : Nat) ∧ Cn E j (rootN up f v : Nat) v
  | 0, _, _, h2 => by omega
  | f + 1, v, h1, h2 => by
    rw [rootN]
    by_cases e : ge up v = v
    · rw [if_pos e]; exact ⟨h1, e, Cn.refl _⟩
    · rw [if_neg e]
      have h3 := h.le v h1
      have h4 := rootN_spec h f (ge up v).toNat (by omega) (by omega)
      refine ⟨h4.1, h4.2.1, h4.2.2.trans ?_⟩
      rw [Int.toNat_of_nonneg h3.1]
      exact h.cn v h1

set_option maxHeartbeats 2000000 in
theorem root_r (p : Option Addr) (n cap : Nat) (E : List (Int × Int)) (j : Nat) (up : List Int) (v : Nat) (w : World) (hI : Ints w p up) (hU : UpOK E j n up) (hv : v < n) :
    Calls Tryd.prog 55 #[.slice p n cap, .int .i64 v] w fun e w' => e = .returned (.int .i64 (rootF up v)) ∧ w = w' := by
  have hl := hU.len
  subst hl
  obtain ⟨b, o, rfl, hbl, hc⟩ := hI.cells (by omega)
  have HC := Lib.hid (hc w (Grew.refl _))
  have HU := Lib.hid hU
  clear hc hU hI
  go_enter Tryd.func55, Tryd.ntmps55
  go_wp2
  go_loop [1] (fun x => ∃ (m f : Nat), x = .int .i64 m ∧ m < up.length ∧ m < f ∧ rootN up f m = rootF up v) (fun x => (intOf x).toNat)
  case atStart => exact ⟨v, v + 1, rfl, hv, by omega, rfl⟩
  case round =>
    obtain ⟨m, f, rfl, hm, hf, hr⟩ := hrel
    obtain ⟨f, rfl⟩ : ∃ f', f = f' + 1 := ⟨f - 1, by omega⟩
    have e1 := HC.out m hm
    have hle := HU.out.le m hm
    rw [rootN] at hr
    by_cases e : ge up m = m
    · rw [if_pos e] at hr
      rw [e] at e1
      have Hr := Lib.hid hr
      clear hle e hr
      go_wp2
      go_ret
      exact ⟨by rw [← Hr.out]; rfl, rfl⟩
    · rw [if_neg e] at hr
      obtain ⟨x, hx⟩ : ∃ x : Nat, ge up m = (x : Int) := ⟨(ge up m).toNat, by omega⟩
      rw [hx] at e1 e hle hr
      rw [Int.toNat_natCast] at hr
      have hxm : x < m := by omega
      have hne : ((x : Int) == (m : Int)) = false := beq_eq_false_iff_ne.2 e
      have hne2 : ¬ x = m := by omega
      have Hr := Lib.hid hr
      clear hle e hr hx
      go_wp2
      go_round
      case rel => exact ⟨x, f, rfl, by omega, by omega, Hr.out⟩
      case measure => simp [intOf]; omega

theorem idL_succ (v : Nat) : idL (v + 1) = idL v ++ [(v : Int)] := by unfold idL; rw [List.range_succ, List.map_append]; rfl

set_option maxRecDepth 8000 in
set_option maxHeartbeats 16000000 in
theorem comps_r (N : Int) (pE pA : Option Addr) (nE nA cE cA : Nat) (E : List (Int × Int)) (A : List (List Int)) (w : World) (hR : RotAt w pE pA E A) (hV : vRot N E A) (hnE : E.length = nE) (hnA : A.length = nA) :
    Calls Tryd.prog 44 #[.agg #[.int .i64 N, .slice pE nE cE, .slice pA nA cA]] w fun e w' => e = .returned (.int .i64 (cntL E A.length)) ∧ Grew w w' := by
  subst hnE hnA
  have he1 := hR.e1
  have ha1 := hR.a1
  have hN : N = A.length := hV.al.symm
  subst hN
  have HR := Lib.hid hR
  have HV := Lib.hid hV
  clear hR hV
  go_enter Tryd.func44, Tryd.ntmps44
  have HwB : Hid (Grew w (w.alloc (.cells #[.int .i64 A.length, .slice pE E.length cE, .slice pA A.length cA] 25))) := Lib.hid ((Grew.refl w).alloc _)
  have Hc0 : Hid ((w.alloc (.cells #[.int .i64 A.length, .slice pE E.length cE, .slice pA A.length cA] 25)).cell? ⟨w.heap.size, 0, none⟩ = some (.int .i64 A.length)) := Lib.hid (by simp [go_sem])
  have Hc1 : Hid ((w.alloc (.cells #[.int .i64 A.length, .slice pE E.length cE, .slice pA A.length cA] 25)).cell? ⟨w.heap.size, 1, none⟩ = some (.slice pE E.length cE)) := Lib.hid (by simp [go_sem])
  have hsB : (w.alloc (.cells #[.int .i64 A.length, .slice pE E.length cE, .slice pA A.length cA] 25)).heap.size = w.heap.size + 1 := by simp
  go_wp2
  obtain ⟨wB, hwB⟩ : ∃ wB, w.alloc (.cells #[.int .i64 A.length, .slice pE E.length cE, .slice pA A.length cA] 25) = wB := ⟨_, rfl⟩
  rw [hwB] at HwB Hc0 Hc1 hsB ⊢
  clear hwB
  go_loopw [3, 4] (fun o i wq => ∃ v : Nat, v ≤ A.length ∧ i = .int .i64 v ∧ Grew wB wq ∧ Owns wq (w.heap.size + 1) [⟨o, 3, 1, v, intVs (idL v)⟩]) (fun _ i _ => A.length - (intOf i).toNat)
  case atStart =>
    exact ⟨0, Nat.zero_le _, rfl, by (repeat (first | exact Grew.refl _ | refine Grew.over ?_ _ | refine Grew.alloc ?_ _ | refine Grew.drew ?_ | refine Grew.drewN ?_ _)), (Owns.nil wB (w.heap.size + 1)).made (by omega) #[] 3 1 0 (w.heap.size + 1) rfl (by decide) hsB.symm⟩
  case round =>
    obtain ⟨v, hv, rfl, hgq, hOq⟩ := hrel
    have q0 := hgq.cellEq Hc0.out
    have q1 := hgq.cellEq Hc1.out
    have hsq := hgq.below.size
    obtain ⟨pO, cO, rfl, _, _, _, _, _⟩ := hOq.form (k := 0) rfl
    have Hgq := Lib.hid hgq
    have HOq := Lib.hid hOq
    clear hgq hOq
    by_cases hlv : v < A.length
    · clear q1
      go_wp2_with (at_builtin; refine wp_append_owns rfl _ _ 26 rfl 3 1 8 (.int .i64 0) Tryd.underlying26 Tryd.infoInt rfl (by decide) (w.heap.size + 1) _ 0 _ _ _ (HOq.out.grew (by (repeat (first | exact Grew.refl _ | refine Grew.over ?_ _ | refine Grew.alloc ?_ _ | refine Grew.drew ?_ | refine Grew.drewN ?_ _)))) rfl rfl _ 1 1 rfl [.int .i64 (v : Int)] rfl (fun h => by cases h) (one_news _ (by (simp [go_sem, ↓IntWalk.iteOmega]))) (by simp [Value.oneCell']) (by simp only [maxLen]; omega) (by omega) (by first | rfl | omega | (simp <;> omega)) ?_; intro v1 w1 hO1 hg1 hb1 _; have Hg1 := Lib.hid (Grew.grownBy (w0 := wB) (Hgq.out.trans (by (repeat (first | exact Grew.refl _ | refine Grew.over ?_ _ | refine Grew.alloc ?_ _ | refine Grew.drew ?_ | refine Grew.drewN ?_ _)))) hg1 (fun g h => by have := hb1 g h; omega)); have HO1 := Lib.hid hO1; have hs1 := hg1.size; simp at hs1; clear hO1 hg1 hb1)
      go_roundw
      case rel => exact ⟨v + 1, by omega, by go_num, Hg1.out, (by have h := HO1.out; rw [idL_succ, intVs_app']; exact h)⟩
      case measure => simp [intOf]; omega
    have hve : v = A.length := by omega
    subst hve
    go_wp2
    clear q0 q1
    go_loopw [5, 6] (fun vn i wq => ∃ j : Nat, j ≤ E.length ∧ i = .int .i64 j ∧ Grew wB wq ∧ ∃ (up : List Int) (c : Nat), UpOK E j A.length up ∧ cntR up A.length = c ∧ c ≤ 100 ∧ vn = .int .i64 c ∧ Owns wq (w.heap.size + 1) [⟨.slice pO A.length cO, 3, 1, A.length, intVs up⟩]) (fun _ i _ => E.length - (intOf i).toNat)
    case atStart =>
      have h := UpOK.start E A.length
      exact ⟨0, Nat.zero_le _, rfl, Hgq.out, idL A.length, A.length, h.1, h.2, ha1, rfl, HOq.out⟩
    case round =>
      obtain ⟨j, hj, rfl, hgq, up, c, hU, hcn, hc100, rfl, hOq⟩ := hrel
      have q1 := hgq.cellEq Hc1.out
      have hsq := hgq.below.size
      have Hgq := Lib.hid hgq
      have HOq := Lib.hid hOq
      have HU := Lib.hid hU
      have Hcn := Lib.hid hcn
      have Hwq : Hid (Grew w wr) := Lib.hid (HwB.out.trans hgq)
      clear hgq hOq hU hcn
      by_cases hlj : j < E.length
      · obtain ⟨bE, oE, rfl, lE, cE'⟩ := HR.out.hE.cells (by omega)
        obtain ⟨c1, c2⟩ := cE' wr Hwq.out j hlj
        have hed := HV.out.ed j hlj
        unfold okEdge at hed
        obtain ⟨a, ha⟩ : ∃ a : Nat, (pr E j).1 = (a : Int) := ⟨(pr E j).1.toNat, by omega⟩
        obtain ⟨b, hb⟩ : ∃ b : Nat, (pr E j).2 = (b : Int) := ⟨(pr E j).2.toNat, by omega⟩
        rw [ha] at c1
        rw [hb] at c2
        have hal : a < A.length := by omega
        have hbl : b < A.length := by omega
        obtain ⟨g0, hI⟩ : ∃ _ : True, Ints wr pO up := by
          obtain ⟨p', c', e, h2, _⟩ := HOq.out.ints (k := 0) rfl HU.out.len (fun x hx => by
            obtain ⟨i, hi, rfl⟩ := List.getElem_of_mem hx
            have := HU.out.le i (by rw [← HU.out.len]; exact hi)
            rw [ge_eq up hi] at this
            have := HU.out.len
            omega)
          cases e
          exact ⟨trivial, h2⟩
        have Hra := Lib.hid (fun (W1 : World) (hg : Grew wr W1) => root_r pO A.length cO E j up a W1 (hI.grew hg) HU.out hal)
        have Hrb := Lib.hid (fun (W1 : World) (hg : Grew wr W1) => root_r pO A.length cO E j up b W1 (hI.grew hg) HU.out hbl)
        have hsa := rootN_spec HU.out (a + 1) a hal (by omega)
        have hsb := rootN_spec HU.out (b + 1) b hbl (by omega)
        have era : rootN up (a + 1) a = rootF up a := rfl
        have erb : rootN up (b + 1) b = rootF up b := rfl
        rw [era] at hsa
        rw [erb] at hsb
        obtain ⟨ra, hra⟩ : ∃ ra, rootF up a = ra := ⟨_, rfl⟩
        obtain ⟨rb, hrb⟩ : ∃ rb, rootF up b = rb := ⟨_, rfl⟩
        rw [hra] at hsa Hra
        rw [hrb] at hsb Hrb
        rw [← ha] at hsa
        rw [← hb] at hsb
        obtain ⟨sa1, sa2, sa3⟩ := hsa
        obtain ⟨sb1, sb2, sb3⟩ := hsb
        have Ha2 := Lib.hid sa2
        have Ha3 := Lib.hid sa3
        have Hb2 := Lib.hid sb2
        have Hb3 := Lib.hid sb3
        clear cE' hed hI era erb hra hrb sa2 sa3 sb2 sb3 ha hb g0
        go_upto_region 10 with fail
        refine wp_region_over (by kernel_rfl) (by kernel_rfl) ?_; (repeat (go_big_quiet_step (first | (go_at_call 55; apply over_callE; with_reducible exact Hra.out _ (by (repeat (first | exact Grew.refl _ | refine Grew.over ?_ _ | refine Grew.alloc ?_ _ | refine Grew.drew ?_ | refine Grew.drewN ?_ _)))) | (go_at_call 55; apply over_callE; with_reducible exact Hrb.out _ (by (repeat (first | exact Grew.refl _ | refine Grew.over ?_ _ | refine Grew.alloc ?_ _ | refine Grew.drew ?_ | refine Grew.drewN ?_ _))))))); refine wpQuiet_nil ?_; rintro _ ⟨x, rfl⟩
        rcases Nat.lt_trichotomy ra rb with hlt | hlt | hlt
        · have hne : ((ra : Int) == (rb : Int)) = false := beq_eq_false_iff_ne.2 (by omega)
          obtain ⟨gU, cU, eU, _, kU, _, _, nU, mU⟩ := HOq.out.some (k := 0) rfl (by omega)
          cases eU
          have x1 := mU rb _ (intVs_get _ (by rw [HU.out.len]; omega))
          have x2 := nU rb
          have hJ := HU.out.join hlt (by omega) Ha2.out Hb2.out (Or.inl ⟨Ha3.out, Hb3.out⟩)
          have hpos : 0 < c := by have := hJ.2; rw [Hcn.out] at this; omega
          obtain ⟨c, rfl⟩ : ∃ c', c = c' + 1 := ⟨c - 1, by omega⟩
          have HJ := Lib.hid hJ
          clear nU mU hJ
          go_wp2
          go_roundw
          case rel =>
            refine ⟨j + 1, by omega, by go_num, (Hgq.out.setCell (show wB.heap.size ≤ (⟨gU, rb, none⟩ : Addr).block by dsimp only; omega) _).over _, up.set rb ra, c, HJ.out.1, (by have := HJ.out.2; rw [Hcn.out] at this; omega), by omega, by go_num, ?_⟩
            have h := HOq.out.set (k := 0) rfl rb (.int .i64 (ra : Int))
            rw [intVs_set] at h
            exact h.grew (by (repeat (first | exact Grew.refl _ | refine Grew.over ?_ _ | refine Grew.alloc ?_ _ | refine Grew.drew ?_ | refine Grew.drewN ?_ _)))
          case measure => simp [intOf]; omega
        · subst hlt
          have HU2 := Lib.hid (HU.out.keep Ha3.out Hb3.out)
          go_wp2
          go_roundw
          case rel => exact ⟨j + 1, by omega, by go_num, Hgq.out.trans (by (repeat (first | exact Grew.refl _ | refine Grew.over ?_ _ | refine Grew.alloc ?_ _ | refine Grew.drew ?_ | refine Grew.drewN ?_ _))), up, c, HU2.out, Hcn.out, by omega, rfl, HOq.out.grew (by (repeat (first | exact Grew.refl _ | refine Grew.over ?_ _ | refine Grew.alloc ?_ _ | refine Grew.drew ?_ | refine Grew.drewN ?_ _)))⟩
          case measure => simp [intOf]; omega
        · have hne : ((ra : Int) == (rb : Int)) = false := beq_eq_false_iff_ne.2 (by omega)
          obtain ⟨gU, cU, eU, _, kU, _, _, nU, mU⟩ := HOq.out.some (k := 0) rfl (by omega)
          cases eU
          have x1 := mU ra _ (intVs_get _ (by rw [HU.out.len]; omega))
          have x2 := nU ra
          have hJ := HU.out.join hlt (by omega) Hb2.out Ha2.out (Or.inr ⟨Ha3.out, Hb3.out⟩)
          have hpos : 0 < c := by have := hJ.2; rw [Hcn.out] at this; omega
          obtain ⟨c, rfl⟩ : ∃ c', c = c' + 1 := ⟨c - 1, by omega⟩
          have HJ := Lib.hid hJ
          clear nU mU hJ
          go_wp2
          go_roundw
          case rel =>
            refine ⟨j + 1, by omega, by go_num, (Hgq.out.setCell (show wB.heap.size ≤ (⟨gU, ra, none⟩ : Addr).block by dsimp only; omega) _).over _, up.set ra rb, c, HJ.out.1, (by have := HJ.out.2; rw [Hcn.out] at this; omega), by omega, by go_num, ?_⟩
            have h := HOq.out.set (k := 0) rfl ra (.int .i64 (rb : Int))
            rw [intVs_set] at h
            exact h.grew (by (repeat (first | exact Grew.refl _ | refine Grew.over ?_ _ | refine Grew.alloc ?_ _ | refine Grew.drew ?_ | refine Grew.drewN ?_ _)))
          case measure => simp [intOf]; omega
      · have hje : j = E.length := by omega
        subst hje
        have Hct : Hid (cntL E A.length = c) := Lib.hid (by rw [← HU.out.count, Hcn.out])
        go_wp2
        go_ret
        exact ⟨by rw [Hct.out]; rfl, Hwq.out⟩

end Go.Proofs.YtdacnkjmimhcaaaDoor
