/- The laws of the picture: apart, and TidySeparates. -/
import Derived.Test.YtgodoeefgmfpfaaTidyJ
set_option linter.unusedSimpArgs false
set_option linter.unusedVariables false
namespace Go.Proofs.Ytgodoeefgmfpfaa
open Go.RowKit

theorem Ints.cells {w : World} {p : Option Addr} {xs : List Int} (h : Ints w p xs) (h0 : 0 < xs.length) : ∃ b o, p = some ⟨b, o, none⟩ ∧ b < w.heap.size ∧ ∀ w' : World, Grew w w' → ∀ i, i < xs.length → w'.cell? ⟨b, o + i, none⟩ = some (.int .i64 (ge xs i)) := by
  obtain ⟨_, _, b, o, h3, h4⟩ := h
  obtain ⟨e, hb⟩ := h3 h0
  exact ⟨b, o, e, hb, fun w' hg i hi => hg.cellEq (h4 i hi)⟩

section
variable {P W X : List Int} {sep wd : Int}
theorem PlaceOK.sepa (hP : vFor P) (h : PlaceOK P W sep X wd) {u v : Nat} (hu : u < P.length) (hv : v < P.length) (hne : u ≠ v) (hd : dep P u = dep P v) :
    ge X u - ge W u / 2 + ge W u + sep ≤ ge X v - ge W v / 2 ∨ ge X v - ge W v / 2 + ge W v + sep ≤ ge X u - ge W u / 2 := by
  obtain ⟨_, m, e, _, _⟩ := h
  obtain ⟨x, hx⟩ := mem_verts.1 ((forD_all (W := W) (sep := sep) hP u).2 hu)
  obtain ⟨y, hy⟩ := mem_verts.1 ((forD_all (W := W) (sep := sep) hP v).2 hv)
  have a := (forD_ok (W := W) (sep := sep) hP).sepa _ hx _ hy hne hd
  have a1 := (e _ hx).2.2
  have a2 := (e _ hy).2.2
  unfold rtE lfE at a
  dsimp only at a a1 a2
  omega
theorem PlaceOK.mid (hP : vFor P) (h : PlaceOK P W sep X wd) {v c dl : Nat} (hv : v < P.length) (h0 : (kids P v)[0]? = some c) (h1 : (kids P v)[(kids P v).length - 1]? = some dl) :
    2 * ge X v = ge X c + ge X dl ∨ 2 * ge X v = ge X c + ge X dl - 1 := by
  obtain ⟨_, m, e, _, _⟩ := h
  obtain ⟨x, hx⟩ := mem_verts.1 ((forD_all (W := W) (sep := sep) hP v).2 hv)
  have hm := (forD_ok (W := W) (sep := sep) hP).mid v x hx
  unfold Mid at hm
  cases hk : kids P v with
  | nil => rw [hk] at h0; cases h0
  | cons c' cs =>
    obtain ⟨a, b, ha, hb, hab⟩ := hm c' cs hk
    rw [hk] at h0 h1
    have e0 : c' = c := by simpa using h0
    have e1 : (c' :: cs).getLast (by simp) = dl := by
      rw [List.getLast_eq_getElem]
      obtain ⟨_, e⟩ := List.getElem?_eq_some_iff.1 h1
      exact e
    subst e0
    rw [e1] at hb
    have a1 := (e _ hx).2.2
    have a2 := (e _ ha).2.2
    have a3 := (e _ hb).2.2
    dsimp only at a1 a2 a3
    omega
end

theorem apart_l (x u y z sep : Int) (w : World) (hx : -300000000 ≤ x ∧ x ≤ 300000000) (hu : 0 ≤ u ∧ u ≤ 1048576) (hy : -300000000 ≤ y ∧ y ≤ 300000000) (hz : 0 ≤ z ∧ z ≤ 1048576) (hs : 0 ≤ sep ∧ sep ≤ 1048576)
    (h : x - u / 2 + u + sep ≤ y - z / 2 ∨ y - z / 2 + z + sep ≤ x - u / 2) :
    Calls Try.prog 15 #[.int .i64 x, .int .i64 u, .int .i64 y, .int .i64 z, .int .i64 sep] w fun e w' => e = .returned (.bool true) ∧ w = w' := by
  obtain ⟨hx1, hx2⟩ := hx
  obtain ⟨hu1, hu2⟩ := hu
  obtain ⟨hy1, hy2⟩ := hy
  obtain ⟨hz1, hz2⟩ := hz
  obtain ⟨hs1, hs2⟩ := hs
  have L1 := Lib.hid (fun W1 : World => left_r x u W1 (by omega) ⟨hu1, hu2⟩)
  have L2 := Lib.hid (fun W1 : World => left_r y z W1 (by omega) ⟨hz1, hz2⟩)
  by_cases h1 : x - u / 2 + u + sep ≤ y - z / 2
  · clear h
    go_enter Try.func15, Try.ntmps15
    go_wp2_with (first | (go_at_call 17; apply Calls.mono; (with_reducible exact L1.out _); rintro e w' ⟨rfl, rfl⟩) | (go_at_call 17; apply Calls.mono; (with_reducible exact L2.out _); rintro e w' ⟨rfl, rfl⟩))
    go_ret
    exact ⟨rfl, rfl⟩
  · have h2 := h.resolve_left h1
    clear h
    have h1' : y - z / 2 < x - u / 2 + u + sep := by omega
    clear h1
    go_enter Try.func15, Try.ntmps15
    go_wp2_with (first | (go_at_call 17; apply Calls.mono; (with_reducible exact L1.out _); rintro e w' ⟨rfl, rfl⟩) | (go_at_call 17; apply Calls.mono; (with_reducible exact L2.out _); rintro e w' ⟨rfl, rfl⟩))
    go_ret
    exact ⟨rfl, rfl⟩

/-- TidySeparates. -/
theorem sep_bad {p q : Option Addr} {n k cp cq : Nat} {P W : List Int} {sep : Int} {w : World} (hI : Ints w p P) (hJ : Ints w q W) (hn : P.length = n) (hk : W.length = k) (hb : okA P W sep = false) :
    Calls Try.prog 4 #[.slice p n cp, .slice q k cq, .int .i64 sep] w fun e w' => e = .returned (.bool true) ∧ Grew w w' := by
  have H := Lib.hid (pPlace_bad (cp := cp) (cq := cq) hI hJ hn hk hb)
  clear hI hJ hn hk hb
  go_enter Try.func4, Try.ntmps4
  go_wp2_with (first
    | (go_at_call 9; apply Calls.mono; (with_reducible exact H.out); rintro e w' ⟨rfl, x, rfl⟩)
    | (go_at_call 8; apply Calls.mono; (with_reducible exact awake_l _); rintro e w' ⟨rfl, x4, rfl⟩))
  go_ret
  exact ⟨rfl, by (repeat (first | exact Grew.refl _ | refine Grew.over ?_ _ | refine Grew.alloc ?_ _ | refine Grew.drew ?_ | refine Grew.drewN ?_ _))⟩
theorem depS_ok {P W : List Int} {sep : Int} (h : okA P W sep = true) : depS P = depI P := by unfold depS; rw [vForB_iff.2 (okA_facts h).1]; rfl
theorem depI_length (P : List Int) : (depI P).length = P.length := tab_length _ _
theorem depths_ok {p : Option Addr} {n cap : Nat} {P W : List Int} {sep : Int} {w : World} (h : okA P W sep = true) (hI : Ints w p P) (hn : P.length = n) :
    Calls Try.prog 14 #[.slice p n cap] w fun e w' => Grew w w' ∧ ∃ q c, e = .returned (.slice q P.length c) ∧ Ints w' q (depI P) := by
  refine (depths_r p n cap P w hI hn).mono fun e w' ⟨hg, q, c, he, h1, _⟩ => ?_
  rw [depS_ok h] at he h1
  rw [depI_length] at he
  exact ⟨hg, q, c, he, h1⟩
theorem children_k {p : Option Addr} {n cap : Nat} {P : List Int} {v : Int} {w : World} (hI : Ints w p P) (hn : P.length = n) (h64 : P.length ≤ 64) :
    Calls Try.prog 16 #[.slice p n cap, .int .i64 v] w fun e w' => Grew w w' ∧ ∃ q c, e = .returned (.slice q (kids P v).length c) ∧ Ints w' q (intL (kids P v)) := by
  refine (children_r p n cap P v w hI hn h64).mono fun e w' ⟨hg, q, c, he, h1, _⟩ => ?_
  rw [intL_length] at he
  exact ⟨hg, q, c, he, h1⟩
theorem sep_nil {p q : Option Addr} {n k cp cq : Nat} {P W : List Int} {sep : Int} {w : World} (hI : Ints w p P) (hJ : Ints w q W) (hn : P.length = n) (hk : W.length = k) (hb : okA P W sep = true) (h0 : P.length = 0) :
    Calls Try.prog 4 #[.slice p n cp, .slice q k cq, .int .i64 sep] w fun e w' => e = .returned (.bool true) ∧ Grew w w' := by
  have hk0 : k = 0 := by have := (okA_facts hb).2.1; omega
  have hn0 : n = 0 := by omega
  subst hk0 hn0
  have H := Lib.hid (pPlace_nil (cp := cp) (cq := cq) hI hJ hn hk hb h0)
  have H2 := Lib.hid (fun (W1 : World) (hg : Grew w W1) => depths_ok (cap := cp) hb (hI.grew hg) h0)
  have Hd0 := Lib.hid (show (depI P).length = 0 by rw [depI_length]; exact h0)
  have H0 := Lib.hid h0
  clear hI hJ hn hk hb h0
  go_enter Try.func4, Try.ntmps4
  go_wp2_with (first
    | (go_at_call 9; apply Calls.mono; (with_reducible exact H.out); rintro e w' ⟨rfl, x, rfl⟩)
    | (go_at_call 14; apply Calls.mono; (with_reducible exact H2.out _ (by (repeat (first | exact Grew.refl _ | refine Grew.over ?_ _ | refine Grew.alloc ?_ _ | refine Grew.drew ?_ | refine Grew.drewN ?_ _)))); rintro e w' ⟨⟨x2, rfl⟩, q2, c2, rfl, _⟩; rw [H0.out])
    | (go_at_call 8; apply Calls.mono; (with_reducible exact awake_l _); rintro e w' ⟨rfl, x4, rfl⟩))
  go_loopw [10] (fun i wr => i = .int .i64 0 ∧ Grew w wr) (fun i _ => 0)
  case atStart => exact ⟨rfl, by (repeat (first | exact Grew.refl _ | refine Grew.over ?_ _ | refine Grew.alloc ?_ _ | refine Grew.drew ?_ | refine Grew.drewN ?_ _))⟩
  case round =>
    obtain ⟨rfl, hg⟩ := hrel
    have Hg := Lib.hid hg
    clear hg
    go_wp2_with (go_at_call 8; apply Calls.mono; (with_reducible exact awake_l _); rintro e w' ⟨rfl, x4, rfl⟩)
    go_ret
    exact ⟨rfl, Hg.out.trans (by (repeat (first | exact Grew.refl _ | refine Grew.over ?_ _ | refine Grew.alloc ?_ _ | refine Grew.drew ?_ | refine Grew.drewN ?_ _)))⟩

set_option maxRecDepth 8000 in
set_option maxHeartbeats 8000000 in
theorem sep_some {p q : Option Addr} {n k cp cq : Nat} {P W : List Int} {sep : Int} {w : World} (hI : Ints w p P) (hJ : Ints w q W) (hn : P.length = n) (hk : W.length = k) (hb : okA P W sep = true) (h0 : 0 < P.length) :
    Calls Try.prog 4 #[.slice p n cp, .slice q k cq, .int .i64 sep] w fun e w' => e = .returned (.bool true) ∧ Grew w w' := by
  obtain ⟨hP, hWl, hW, _⟩ := okA_facts hb
  rw [hWl] at hk
  subst hn hk
  have h64 := hP.1
  have H := Lib.hid (pPlace_some (cp := cp) (cq := cq) hI hJ rfl hWl hb h0)
  have H2 := Lib.hid (fun (W1 : World) (hg : Grew w W1) => depths_ok (cap := cp) hb (hI.grew hg) rfl)
  have H3 := Lib.hid (fun (W1 : World) (v : Int) (hg : Grew w W1) => children_k (cap := cp) (v := v) (hI.grew hg) rfl h64)
  obtain ⟨bW, oW, rfl, lW, cW⟩ := hJ.cells (by omega)
  have CW := Lib.hid cW
  have HP := Lib.hid hP
  have hs1 := hW.1
  have hs2 := hW.2.1
  have HW := Lib.hid hW.2.2
  have HWl := Lib.hid hWl
  clear hI hJ hb hP hW cW hWl
  go_enter Try.func4, Try.ntmps4
  go_upto_region 4 with (go_at_call 9; apply Calls.mono; (with_reducible exact H.out); rintro e w' ⟨q', cap, X, wd, rfl, hX, hok, _, hbd, hg⟩; have HX := Lib.hid hX; have Hok := Lib.hid hok; have Hbd := Lib.hid hbd; have Hg := Lib.hid hg; clear hX hok hbd hg)
  have HXl : Hid (X.length = P.length) := Lib.hid Hok.out.1
  obtain ⟨bX, oX, rfl, lX, cX⟩ := HX.out.cells (by rw [HXl.out]; exact h0)
  have CX := Lib.hid cX
  clear cX
  go_upto_region 7 with (go_at_call 14; apply Calls.mono; (with_reducible exact H2.out _ Hg.out); rintro e w2 ⟨hg2, qD, cD, rfl, hD⟩; have HD := Lib.hid hD; have Hg2 := Lib.hid hg2; clear hD hg2)
  obtain ⟨bD, oD, rfl, lD, cD'⟩ := HD.out.cells (by rw [depI_length]; exact h0)
  have CD := Lib.hid cD'
  have hsz2 := Hg2.out.below.size
  have hszw := Hg.out.below.size
  clear cD'
  go_wp2
  go_loopw [10] (fun i wr => ∃ v : Nat, v ≤ P.length ∧ i = .int .i64 v ∧ Grew w2 wr) (fun i _ => P.length - (intOf i).toNat)
  case atStart => exact ⟨0, Nat.zero_le _, rfl, by (repeat (first | exact Grew.refl _ | refine Grew.over ?_ _ | refine Grew.alloc ?_ _ | refine Grew.drew ?_ | refine Grew.drewN ?_ _))⟩
  case round =>
    obtain ⟨v, hv, rfl, hgr⟩ := hrel
    have Hgr := Lib.hid hgr
    have hszr := hgr.below.size
    clear hgr
    by_cases hlt : v < P.length
    · go_wp2
      go_loopw [11] (fun i wq => ∃ u : Nat, u ≤ v ∧ i = .int .i64 u ∧ Grew wr wq) (fun i _ => v - (intOf i).toNat)
      case atStart => exact ⟨0, Nat.zero_le _, rfl, by (repeat (first | exact Grew.refl _ | refine Grew.over ?_ _ | refine Grew.alloc ?_ _ | refine Grew.drew ?_ | refine Grew.drewN ?_ _))⟩
      case round =>
        obtain ⟨u, hu, rfl, hgq⟩ := hrel
        have Hgq := Lib.hid hgq
        have hszq := hgq.below.size
        have Hgt : Hid (Grew w2 wr) := Lib.hid (Hgr.out.trans hgq)
        clear hgq
        by_cases hlu : u < v
        · have hup : u < P.length := by omega
          have d1 := CD.out wr Hgt.out u (by rw [depI_length]; exact hup)
          have d2 := CD.out wr Hgt.out v (by rw [depI_length]; exact hlt)
          have x1 := CX.out wr (Hg2.out.trans Hgt.out) u (by rw [HXl.out]; exact hup)
          have x2 := CX.out wr (Hg2.out.trans Hgt.out) v (by rw [HXl.out]; exact hlt)
          have w1' := CW.out wr (Hg.out.trans (Hg2.out.trans Hgt.out)) u (by rw [HWl.out]; exact hup)
          have w2' := CW.out wr (Hg.out.trans (Hg2.out.trans Hgt.out)) v (by rw [HWl.out]; exact hlt)
          by_cases he : ge (depI P) u = ge (depI P) v
          · have he' : (ge (depI P) u == ge (depI P) v) = true := beq_iff_eq.2 he
            have Hap := Lib.hid (fun W1 : World => apart_l (ge X u) (ge W u) (ge X v) (ge W v) sep W1 (Hbd.out _ (ge_mem (by rw [HXl.out]; exact hup))) (HW.out u) (Hbd.out _ (ge_mem (by rw [HXl.out]; exact hlt))) (HW.out v) ⟨hs1, hs2⟩
              (Hok.out.sepa HP.out hup hlt (by omega) (by
                unfold depI at he
                rw [ge_tab _ hup, ge_tab _ hlt] at he
                omega)))
            clear he
            go_wp2
            refine wp_region_over (by kernel_rfl) (by kernel_rfl) ?_; (repeat (go_big_quiet_step ((go_at_call 15; apply over_callE; with_reducible exact Hap.out _)))); refine wpQuiet_nil ?_; rintro _ ⟨x, rfl⟩
            go_wp2
            go_roundw
            case rel => exact ⟨u + 1, by omega, by go_num, Hgq.out.trans (by (repeat (first | exact Grew.refl _ | refine Grew.over ?_ _ | refine Grew.alloc ?_ _ | refine Grew.drew ?_ | refine Grew.drewN ?_ _)))⟩
            case measure => simp [intOf]; omega
          · have he' : (ge (depI P) u == ge (depI P) v) = false := beq_eq_false_iff_ne.2 he
            clear he
            go_wp2
            refine wp_region_over (by kernel_rfl) (by kernel_rfl) ?_; (repeat (go_big_quiet_step (fail))); refine wpQuiet_nil ?_; rintro _ ⟨x, rfl⟩
            go_wp2
            go_roundw
            case rel => exact ⟨u + 1, by omega, by go_num, Hgq.out.trans (by (repeat (first | exact Grew.refl _ | refine Grew.over ?_ _ | refine Grew.alloc ?_ _ | refine Grew.drew ?_ | refine Grew.drewN ?_ _)))⟩
            case measure => simp [intOf]; omega
        · go_upto_region 18 with (go_at_call 16; apply Calls.mono; (with_reducible exact H3.out _ _ (Hg.out.trans (Hg2.out.trans Hgt.out))); rintro e w3 ⟨hg3, qK, cK, rfl, hK⟩; have HK := Lib.hid hK; have Hg3 := Lib.hid hg3; have hsz3 := hg3.below.size; clear hK hg3)
          have hkl := kids_len P v
          by_cases hk0 : (kids P v).length = 0
          · have hk1 : (((kids P v).length : Int) == 0) = true := by rw [hk0]; rfl
            clear hk0
            go_wp2
            go_roundw
            case rel => exact ⟨v + 1, by omega, by go_num, Hgt.out.trans Hg3.out⟩
            case measure => simp [intOf]; omega
          · have hk1 : (((kids P v).length : Int) == 0) = false := by rw [beq_eq_false_iff_ne]; omega
            obtain ⟨c, hc0⟩ : ∃ c, (kids P v)[0]? = some c := ⟨_, List.getElem?_eq_getElem (by omega)⟩
            obtain ⟨dl, hc1⟩ : ∃ dl, (kids P v)[(kids P v).length - 1]? = some dl := ⟨_, List.getElem?_eq_getElem (by omega)⟩
            have hcl := (mem_kids.1 (List.mem_of_getElem? hc0)).1
            have hdl := (mem_kids.1 (List.mem_of_getElem? hc1)).1
            obtain ⟨bK, oK, rfl, lK, cK'⟩ := HK.out.cells (by rw [intL_length]; omega)
            have k0 := cK' w3 (Grew.refl _) 0 (by rw [intL_length]; omega)
            have k1 := cK' w3 (Grew.refl _) ((kids P v).length - 1) (by rw [intL_length]; omega)
            rw [ge_intL' hc0, Nat.add_zero] at k0
            rw [ge_intL' hc1] at k1
            have Hgf : Hid (Grew w2 w3) := Lib.hid (Hgt.out.trans Hg3.out)
            have y1 := CX.out w3 (Hg2.out.trans Hgf.out) c (by rw [HXl.out]; exact hcl)
            have y2 := CX.out w3 (Hg2.out.trans Hgf.out) dl (by rw [HXl.out]; exact hdl)
            have y3 := CX.out w3 (Hg2.out.trans Hgf.out) v (by rw [HXl.out]; exact hlt)
            have hm := Hok.out.mid HP.out hlt hc0 hc1
            obtain ⟨b1, b2⟩ := Hbd.out _ (ge_mem (xs := X) (i := c) (by rw [HXl.out]; exact hcl))
            obtain ⟨b3, b4⟩ := Hbd.out _ (ge_mem (xs := X) (i := dl) (by rw [HXl.out]; exact hdl))
            obtain ⟨b5, b6⟩ := Hbd.out _ (ge_mem (xs := X) (i := v) (by rw [HXl.out]; exact hlt))
            have hwl : IntKind.i64.wrap (((kids P v).length : Int) - 1) = ((kids P v).length : Int) - 1 := IntWalk.i64_in _ ⟨by omega, by omega⟩
            have htn : (((kids P v).length : Int) - 1).toNat = (kids P v).length - 1 := by omega
            have l3 : bX < w3.heap.size := by omega
            have hkp : 0 < (kids P v).length := by omega
            clear cK' hk0 hc0 hc1
            by_cases hm1 : 2 * ge X v = ge X c + ge X dl
            · have hm2 : (2 * ge X v != ge X c + ge X dl) = false := by rw [hm1]; simp
              clear hm hm1
              go_wp2
              refine wp_region_over (by kernel_rfl) (by kernel_rfl) ?_; (repeat (go_big_quiet_step (fail))); refine wpQuiet_nil ?_; rintro _ ⟨x, rfl⟩
              go_wp2
              go_roundw
              case rel => exact ⟨v + 1, by omega, by go_num, Hgf.out.trans (by (repeat (first | exact Grew.refl _ | refine Grew.over ?_ _ | refine Grew.alloc ?_ _ | refine Grew.drew ?_ | refine Grew.drewN ?_ _)))⟩
              case measure => simp [intOf]; omega
            · have hm2 : (2 * ge X v != ge X c + ge X dl) = true := by rw [bne_iff_ne]; exact hm1
              have hm3 : (2 * ge X v != ge X c + ge X dl - 1) = false := by rw [hm.resolve_left hm1]; simp
              clear hm hm1
              go_wp2
              refine wp_region_over (by kernel_rfl) (by kernel_rfl) ?_; (repeat (go_big_quiet_step (fail))); refine wpQuiet_nil ?_; rintro _ ⟨x, rfl⟩
              go_wp2
              go_roundw
              case rel => exact ⟨v + 1, by omega, by go_num, Hgf.out.trans (by (repeat (first | exact Grew.refl _ | refine Grew.over ?_ _ | refine Grew.alloc ?_ _ | refine Grew.drew ?_ | refine Grew.drewN ?_ _)))⟩
              case measure => simp [intOf]; omega
    · go_wp2_with (go_at_call 8; apply Calls.mono; (with_reducible exact awake_l _); rintro e w' ⟨rfl, x4, rfl⟩)
      go_ret
      exact ⟨rfl, (Hg.out.trans (Hg2.out.trans Hgr.out)).trans (by (repeat (first | exact Grew.refl _ | refine Grew.over ?_ _ | refine Grew.alloc ?_ _ | refine Grew.drew ?_ | refine Grew.drewN ?_ _)))⟩

theorem separates_l {p q : Option Addr} {n k cp cq : Nat} {P W : List Int} {sep : Int} {w : World} (hI : Ints w p P) (hJ : Ints w q W) (hn : P.length = n) (hk : W.length = k) :
    Calls Try.prog 4 #[.slice p n cp, .slice q k cq, .int .i64 sep] w fun e w' => e = .returned (.bool true) ∧ Grew w w' := by
  cases hb : okA P W sep
  · exact sep_bad hI hJ hn hk hb
  · rcases Nat.eq_zero_or_pos P.length with h0 | h0
    · exact sep_nil hI hJ hn hk hb h0
    · exact sep_some hI hJ hn hk hb h0

end Go.Proofs.Ytgodoeefgmfpfaa
