/- TidyCompact. -/
import Derived.Test.YtgodoeefgmfpfaaTidyL
import Derived.Deep.DeepCutAuto
set_option linter.unusedSimpArgs false
set_option linter.unusedVariables false
namespace Go.Proofs.Ytgodoeefgmfpfaa
open Go.RowKit
attribute [local go_sem ↓] Go.wp_at_zero Go.wp_at_succ

section
variable {p q : Option Addr} {n k cp cq : Nat} {P W : List Int} {sep : Int} {w : World}
theorem compact_long (hm : P.length ≤ 9223372036854775807) (hn : P.length = n) (h24 : 24 < P.length) :
    Calls Try.prog 5 #[.slice p n cp, .slice q k cq, .int .i64 sep] w fun e w' => e = .returned (.bool true) ∧ Grew w w' := by
  subst hn
  go_enter Try.func5, Try.ntmps5
  go_wp2_with (go_at_call 8; apply Calls.mono; (with_reducible exact awake_l _); rintro e w' ⟨rfl, x4, rfl⟩)
  go_ret
  exact ⟨rfl, by (repeat (first | exact Grew.refl _ | refine Grew.over ?_ _ | refine Grew.alloc ?_ _ | refine Grew.drew ?_ | refine Grew.drewN ?_ _))⟩
theorem compact_bad (hI : Ints w p P) (hJ : Ints w q W) (hn : P.length = n) (hk : W.length = k) (h24 : P.length ≤ 24) (hb : okA P W sep = false) :
    Calls Try.prog 5 #[.slice p n cp, .slice q k cq, .int .i64 sep] w fun e w' => e = .returned (.bool true) ∧ Grew w w' := by
  have H := Lib.hid (pPlace_bad (cp := cp) (cq := cq) hI hJ hn hk hb)
  subst hn
  clear hI hJ hk hb
  go_enter Try.func5, Try.ntmps5
  go_wp2_with (first
    | (go_at_call 9; apply Calls.mono; (with_reducible exact H.out); rintro e w' ⟨rfl, x, rfl⟩)
    | (go_at_call 8; apply Calls.mono; (with_reducible exact awake_l _); rintro e w' ⟨rfl, x4, rfl⟩))
  go_ret
  exact ⟨rfl, by (repeat (first | exact Grew.refl _ | refine Grew.over ?_ _ | refine Grew.alloc ?_ _ | refine Grew.drew ?_ | refine Grew.drewN ?_ _))⟩
theorem compact_nil (hI : Ints w p P) (hJ : Ints w q W) (hn : P.length = n) (hk : W.length = k) (hb : okA P W sep = true) (h0 : P.length = 0) :
    Calls Try.prog 5 #[.slice p n cp, .slice q k cq, .int .i64 sep] w fun e w' => e = .returned (.bool true) ∧ Grew w w' := by
  have hk0 : k = 0 := by have := (okA_facts hb).2.1; omega
  have hn0 : n = 0 := by omega
  subst hk0 hn0
  have H := Lib.hid (pPlace_nil (cp := cp) (cq := cq) hI hJ hn hk hb h0)
  have H2 := Lib.hid (fun (W1 : World) (hg : Grew w W1) => depths_ok (cap := cp) hb (hI.grew hg) h0)
  have H0 := Lib.hid h0
  clear hI hJ hn hk hb h0
  go_enter Try.func5, Try.ntmps5
  go_wp2_with (first
    | (go_at_call 9; apply Calls.mono; (with_reducible exact H.out); rintro e w' ⟨rfl, x, rfl⟩)
    | (go_at_call 14; apply Calls.mono; (with_reducible exact H2.out _ (by (repeat (first | exact Grew.refl _ | refine Grew.over ?_ _ | refine Grew.alloc ?_ _ | refine Grew.drew ?_ | refine Grew.drewN ?_ _)))); rintro e w' ⟨⟨x2, rfl⟩, q2, c2, rfl, _⟩; rw [H0.out])
    | (go_at_call 8; apply Calls.mono; (with_reducible exact awake_l _); rintro e w' ⟨rfl, x4, rfl⟩))
  go_loopw [10, 11] (fun b i wr => b = .bool true ∧ i = .int .i64 0 ∧ Grew w wr) (fun _ i _ => 0)
  case atStart => exact ⟨rfl, rfl, by (repeat (first | exact Grew.refl _ | refine Grew.over ?_ _ | refine Grew.alloc ?_ _ | refine Grew.drew ?_ | refine Grew.drewN ?_ _))⟩
  case round =>
    obtain ⟨rfl, rfl, hg⟩ := hrel
    have Hg := Lib.hid hg
    clear hg
    go_wp2_with (go_at_call 8; apply Calls.mono; (with_reducible exact awake_l _); rintro e w' ⟨rfl, x4, rfl⟩)
    go_ret
    exact ⟨rfl, Hg.out.trans (by (repeat (first | exact Grew.refl _ | refine Grew.over ?_ _ | refine Grew.alloc ?_ _ | refine Grew.drew ?_ | refine Grew.drewN ?_ _)))⟩
end

set_option maxRecDepth 8000 in
set_option maxHeartbeats 8000000 in
theorem compact_some {p q : Option Addr} {n k cp cq : Nat} {P W : List Int} {sep : Int} {w : World} (hI : Ints w p P) (hJ : Ints w q W) (hn : P.length = n) (hk : W.length = k) (h24 : P.length ≤ 24) (hb : okA P W sep = true) (h0 : 0 < P.length) :
    Calls Try.prog 5 #[.slice p n cp, .slice q k cq, .int .i64 sep] w fun e w' => e = .returned (.bool true) ∧ Grew w w' := by
  obtain ⟨hP, hWl, hW, _⟩ := okA_facts hb
  rw [hWl] at hk
  subst hn hk
  have h64 := hP.1
  have H := Lib.hid (pPlace_some (cp := cp) (cq := cq) hI hJ rfl hWl hb h0)
  have H2 := Lib.hid (fun (W1 : World) (hg : Grew w W1) => depths_ok (cap := cp) hb (hI.grew hg) rfl)
  have H3 := Lib.hid (fun (W1 : World) (v : Int) (hg : Grew w W1) => children_k (cap := cp) (v := v) (hI.grew hg) rfl h64)
  have HI := Lib.hid hI
  have HJ := Lib.hid hJ
  obtain ⟨bP, oP, rfl, lP, cP⟩ := hI.cells h0
  obtain ⟨bW, oW, rfl, lW, cW⟩ := hJ.cells (by omega)
  have CP := Lib.hid cP
  have CW := Lib.hid cW
  have HP := Lib.hid hP
  have hs1 := hW.1
  have hs2 := hW.2.1
  have HW := Lib.hid hW
  have HWl := Lib.hid hWl
  clear hI hJ hb hP hW cW cP hWl
  go_enter Try.func5, Try.ntmps5
  go_upto_region 4 with (go_at_call 9; apply Calls.mono; (with_reducible exact H.out); rintro e w' ⟨q', cap, X, wd, rfl, hX, hok, _, hbd, hg⟩; have HX := Lib.hid hX; have Hok := Lib.hid hok; have Hbd := Lib.hid hbd; have Hg := Lib.hid hg; clear hX hok hbd hg)
  have HXl : Hid (X.length = P.length) := Lib.hid Hok.out.1
  obtain ⟨bX, oX, rfl, lX, cX⟩ := HX.out.cells (by rw [HXl.out]; exact h0)
  have CX := Lib.hid cX
  clear cX
  go_upto_region 7 with (go_at_call 14; apply Calls.mono; (with_reducible exact H2.out _ Hg.out); rintro e w2 ⟨hg2, qD, cD, rfl, hD⟩; have HD := Lib.hid hD; have Hg2 := Lib.hid hg2; clear hD hg2)
  have hsz2 := Hg2.out.below.size
  have hszw := Hg.out.below.size
  obtain ⟨hl1, u0, hu0, hl2⟩ := Hok.out.left HP.out
  have Hl1 := Lib.hid hl1
  have Hl2 := Lib.hid hl2
  have hne0 : ((P.length : Int) == 0) = false := by rw [beq_eq_false_iff_ne]; omega
  clear hl1 hl2
  go_wp2
  go_loopw [10, 11] (fun b i wr => ∃ (v : Nat) (c : Bool), v ≤ P.length ∧ b = .bool c ∧ i = .int .i64 v ∧ (u0 < v → c = true) ∧ Grew w2 wr) (fun _ i _ => P.length - (intOf i).toNat)
  case atStart => exact ⟨0, false, Nat.zero_le _, rfl, rfl, fun h => absurd h (Nat.not_lt_zero _), by (repeat (first | exact Grew.refl _ | refine Grew.over ?_ _ | refine Grew.alloc ?_ _ | refine Grew.drew ?_ | refine Grew.drewN ?_ _))⟩
  case round =>
    obtain ⟨v, c, hv, rfl, rfl, hc, hgr⟩ := hrel
    have Hgr := Lib.hid hgr
    have Hc := Lib.hid hc
    have hszr := hgr.below.size
    clear hgr hc
    by_cases hlt : v < P.length
    · have x1 := CX.out wr (Hg2.out.trans Hgr.out) v (by rw [HXl.out]; exact hlt)
      have w1' := CW.out wr (Hg.out.trans (Hg2.out.trans Hgr.out)) v (by rw [HWl.out]; exact hlt)
      have p1 := CP.out wr (Hg.out.trans (Hg2.out.trans Hgr.out)) v hlt
      obtain ⟨bx1, bx2⟩ := Hbd.out _ (ge_mem (xs := X) (i := v) (by rw [HXl.out]; exact hlt))
      obtain ⟨bw1, bw2⟩ := HW.out.2.2 v
      have L1 := Lib.hid (fun W1 : World => left_r (ge X v) (ge W v) W1 (by omega) ⟨bw1, bw2⟩)
      have hpos := Hl1.out v hlt
      go_upto_region 13 with fail
      go_cut [10] (fun b wx => ∃ c : Bool, b = .bool c ∧ (u0 < v + 1 → c = true) ∧ Grew wr wx)
      case first =>
        cases c
        case true =>
          refine wp_region_over (by kernel_rfl) (by kernel_rfl) ?_; (repeat (go_big_quiet_step ((go_at_call 17; apply over_callE; with_reducible exact L1.out _)))); refine wpQuiet_nil ?_; rintro _ ⟨x, rfl⟩
          go_wp2_with fail
          go_meet
          exact ⟨true, rfl, fun _ => rfl, by (repeat (first | exact Grew.refl _ | refine Grew.over ?_ _ | refine Grew.alloc ?_ _ | refine Grew.drew ?_ | refine Grew.drewN ?_ _))⟩
        case false =>
          have Hnx : Hid (u0 < v + 1 → (ge X v - ge W v / 2 == 0) = true) := Lib.hid (fun h => by
            by_cases e : u0 = v
            · rw [beq_iff_eq, ← e]; exact Hl2.out
            · exact absurd (Hc.out (by omega)) (by simp))
          refine wp_region_over (by kernel_rfl) (by kernel_rfl) ?_; (repeat (go_big_quiet_step ((go_at_call 17; apply over_callE; with_reducible exact L1.out _)))); refine wpQuiet_nil ?_; rintro _ ⟨x, rfl⟩
          go_wp2_with fail
          go_meet
          exact ⟨_, rfl, Hnx.out, by (repeat (first | exact Grew.refl _ | refine Grew.over ?_ _ | refine Grew.alloc ?_ _ | refine Grew.drew ?_ | refine Grew.drewN ?_ _))⟩
      case rest =>
        obtain ⟨c', rfl, hc', hgx⟩ := hcut
        have Hgx := Lib.hid hgx
        have Hc' := Lib.hid hc'
        have hszx := hgx.below.size
        have Hgt : Hid (Grew w2 wc) := Lib.hid (Hgr.out.trans hgx)
        have x2 := CX.out wc (Hg2.out.trans Hgt.out) v (by rw [HXl.out]; exact hlt)
        have w2' := CW.out wc (Hg.out.trans (Hg2.out.trans Hgt.out)) v (by rw [HWl.out]; exact hlt)
        have p2 := CP.out wc (Hg.out.trans (Hg2.out.trans Hgt.out)) v hlt
        clear hgx hc' x1 w1' p1
        go_wp2
        refine wp_region_over (by kernel_rfl) (by kernel_rfl) ?_; (repeat (go_big_quiet_step ((go_at_call 17; apply over_callE; with_reducible exact L1.out _)))); refine wpQuiet_nil ?_; rintro _ ⟨x, rfl⟩
        have hmem : v ∈ kids P (ge P v) := mem_kids.2 ⟨hlt, rfl⟩
        have hkp : 0 < (kids P (ge P v)).length := List.length_pos_of_mem hmem
        obtain ⟨c0, hc0⟩ : ∃ c0, (kids P (ge P v))[0]? = some c0 := ⟨_, List.getElem?_eq_getElem hkp⟩
        have Hc0 := Lib.hid hc0
        clear hmem hc0
        by_cases hcv : c0 = v
        · have hcv' : ((c0 : Int) != (v : Int)) = false := by rw [hcv]; simp
          clear hcv
          go_wp2_with (go_at_call 16; apply Calls.mono; (with_reducible exact H3.out _ _ (Hg.out.trans (Hg2.out.trans (Hgt.out.trans (by (repeat (first | exact Grew.refl _ | refine Grew.over ?_ _ | refine Grew.alloc ?_ _ | refine Grew.drew ?_ | refine Grew.drewN ?_ _))))))); rintro e w3 ⟨hg3, qK, cK, rfl, hK⟩; obtain ⟨bK, oK, rfl, lK, cK'⟩ := hK.cells (by rw [intL_length]; exact hkp); have k0 := cK' w3 (Grew.refl _) 0 (by rw [intL_length]; exact hkp); rw [ge_intL' Hc0.out, Nat.add_zero] at k0; have Hg3 : Hid (Grew wc w3) := Lib.hid ((Grew.over' _ _).trans hg3); have hsz3 := Hg3.out.below.size; clear hK hg3 cK')
          go_roundw
          case rel => exact ⟨v + 1, c', by omega, rfl, by go_num, Hc'.out, Hgt.out.trans Hg3.out⟩
          case measure => simp [intOf]; omega
        · have hcv' : ((c0 : Int) != (v : Int)) = true := by rw [bne_iff_ne]; omega
          obtain ⟨b1, u1, z1, hT⟩ := Hok.out.touch HP.out hlt Hc0.out hcv
          have HT := Lib.hid (fun (W1 : World) (hg : Grew w2 W1) => tight_l (cp := cp) (cq := cq) (cd := cD) (cx := cap) (HI.out.grew (Hg.out.trans (Hg2.out.trans hg))) (HJ.out.grew (Hg.out.trans (Hg2.out.trans hg))) (HD.out.grew hg) (HX.out.grew (Hg2.out.trans hg)) rfl HWl.out HXl.out HP.out HW.out Hbd.out hlt hT)
          clear hcv hT
          go_wp2_with (first
            | (go_at_call 16; apply Calls.mono; (with_reducible exact H3.out _ _ (Hg.out.trans (Hg2.out.trans (Hgt.out.trans (by (repeat (first | exact Grew.refl _ | refine Grew.over ?_ _ | refine Grew.alloc ?_ _ | refine Grew.drew ?_ | refine Grew.drewN ?_ _))))))); rintro e w3 ⟨hg3, qK, cK, rfl, hK⟩; obtain ⟨bK, oK, rfl, lK, cK'⟩ := hK.cells (by rw [intL_length]; exact hkp); have k0 := cK' w3 (Grew.refl _) 0 (by rw [intL_length]; exact hkp); rw [ge_intL' Hc0.out, Nat.add_zero] at k0; have Hg3 : Hid (Grew wc w3) := Lib.hid ((Grew.over' _ _).trans hg3); have hsz3 := Hg3.out.below.size; clear hK hg3 cK')
            | (go_at_call 18; apply Calls.mono; (with_reducible exact HT.out _ (Hgt.out.trans Hg3.out)); rintro e w4 ⟨rfl, hg4⟩; have Hg4 := Lib.hid hg4; clear hg4))
          go_roundw
          case rel => exact ⟨v + 1, c', by omega, rfl, by go_num, Hc'.out, Hgt.out.trans (Hg3.out.trans Hg4.out)⟩
          case measure => simp [intOf]; omega
    · have hct : c = true := Hc.out (by omega)
      subst hct
      go_wp2_with (go_at_call 8; apply Calls.mono; (with_reducible exact awake_l _); rintro e w' ⟨rfl, x4, rfl⟩)
      go_ret
      exact ⟨rfl, (Hg.out.trans (Hg2.out.trans Hgr.out)).trans (by (repeat (first | exact Grew.refl _ | refine Grew.over ?_ _ | refine Grew.alloc ?_ _ | refine Grew.drew ?_ | refine Grew.drewN ?_ _)))⟩

theorem compact_l {p q : Option Addr} {n k cp cq : Nat} {P W : List Int} {sep : Int} {w : World} (hI : Ints w p P) (hJ : Ints w q W) (hn : P.length = n) (hk : W.length = k) :
    Calls Try.prog 5 #[.slice p n cp, .slice q k cq, .int .i64 sep] w fun e w' => e = .returned (.bool true) ∧ Grew w w' := by
  rcases Nat.lt_or_ge 24 P.length with h24 | h24
  · exact compact_long hI.1 hn h24
  · cases hb : okA P W sep
    · exact compact_bad hI hJ hn hk h24 hb
    · rcases Nat.eq_zero_or_pos P.length with h0 | h0
      · exact compact_nil hI hJ hn hk hb h0
      · exact compact_some hI hJ hn hk h24 hb h0

end Go.Proofs.Ytgodoeefgmfpfaa
