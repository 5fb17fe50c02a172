/- The laws of the picture: below, tight, and TidyCompact. -/
import Derived.Test.YtgodoeefgmfpfaaTidyK
import Derived.Deep.DeepCutAuto
set_option linter.unusedSimpArgs false
set_option linter.unusedVariables false
namespace Go.Proofs.Ytgodoeefgmfpfaa
open Go.RowKit
attribute [local go_sem ↓] Go.wp_at_zero Go.wp_at_succ

open Classical in
noncomputable def belB (P : List Int) (r v : Nat) : Bool := decide (Bel P r v)
theorem belB_iff {P : List Int} {r v : Nat} : belB P r v = true ↔ Bel P r v := by unfold belB; simp

theorem bel_step {P : List Int} {r z : Nat} (hz : z < P.length) (hne : z ≠ r) : Bel P r z ↔ 0 ≤ ge P z ∧ Bel P r (ge P z).toNat := by
  constructor
  · intro h
    cases h with
    | self => exact absurd rfl hne
    | up u p hu hp hb => rw [hp]; exact ⟨by omega, by simpa using hb⟩
  · rintro ⟨h1, h2⟩
    exact Bel.up z _ hz (by omega) h2

set_option maxHeartbeats 1000000 in
theorem below_l (p : Option Addr) (n cap : Nat) (P : List Int) (v r : Nat) (w : World) (hI : Ints w p P) (hn : P.length = n) (hP : vFor P) (hv : v < P.length) :
    Calls Try.prog 26 #[.slice p n cap, .int .i64 v, .int .i64 r] w fun e w' => e = .returned (.bool (belB P r v)) ∧ w = w' := by
  subst hn
  have h64 := hP.1
  obtain ⟨b, o, rfl, hb, hc⟩ := hI.cells (by omega)
  have HC := Lib.hid (hc w (Grew.refl _))
  have HP := Lib.hid hP
  clear hI hP hc
  go_enter Try.func26, Try.ntmps26
  go_wp2
  go_loop [1] (fun x => ∃ y : Int, x = .int .i64 y ∧ -1 ≤ y ∧ y < P.length ∧ (Bel P r v ↔ 0 ≤ y ∧ Bel P r y.toNat)) (fun x => (intOf x + 1).toNat)
  case atStart => exact ⟨v, rfl, by omega, by omega, by simp⟩
  case round =>
    obtain ⟨y, rfl, hy1, hy2, hiff⟩ := hrel
    have Hiff := Lib.hid hiff
    clear hiff
    by_cases hlt : (r : Int) < y
    · obtain ⟨z, rfl⟩ := Int.eq_ofNat_of_zero_le (by omega : 0 ≤ y)
      have hz : z < P.length := by omega
      have hcz := HC.out z hz
      obtain ⟨hz1, hz2⟩ := HP.out.2 z hz
      have Hs := Lib.hid (bel_step (r := r) hz (by omega))
      go_wp2
      go_round
      case rel =>
        refine ⟨ge P z, rfl, hz1, by omega, Hiff.out.trans ?_⟩
        rw [← Hs.out]
        simp
      case measure => simp [intOf]; omega
    · have hfin : (y == (r : Int)) = belB P r v := by
        rw [Bool.eq_iff_iff, beq_iff_eq, belB_iff, Hiff.out]
        constructor
        · rintro rfl; exact ⟨by omega, by simpa using Bel.self⟩
        · rintro ⟨h1, h2⟩; have := bel_ge HP.out h2; omega
      go_wp2
      go_ret
      exact ⟨by first | rfl | (simp [hfin]) , rfl⟩
theorem below_e {p : Option Addr} {n cap : Nat} {P : List Int} {v r : Nat} {w : World} {b : Bool} (h : belB P r v = b) (hI : Ints w p P) (hn : P.length = n) (hP : vFor P) (hv : v < P.length) :
    Calls Try.prog 26 #[.slice p n cap, .int .i64 v, .int .i64 r] w fun e w' => e = .returned (.bool b) ∧ w = w' := h ▸ below_l p n cap P v r w hI hn hP hv

/-- b's subtree has u, c's has z; z begins exactly sep right of u. -/
structure Touch (P W X : List Int) (sep : Int) (c b u z : Nat) : Prop where
  hb : b < c
  par : ge P b = ge P c
  hu : u < P.length
  hz : z < P.length
  cz : c ≤ z
  bu : Bel P b u
  bz : Bel P c z
  dd : dep P u = dep P z
  at_ : ge X u - ge W u / 2 + ge W u + sep = ge X z - ge W z / 2

theorem PlaceOK.touch {P W X : List Int} {sep wd : Int} (hP : vFor P) (h : PlaceOK P W sep X wd) {v c0 : Nat} (hv : v < P.length) (h0 : (kids P (ge P v))[0]? = some c0) (hne : c0 ≠ v) :
    ∃ b u z, Touch P W X sep v b u z := by
  have hmem : v ∈ kids P (ge P v) := mem_kids.2 ⟨hv, rfl⟩
  have ht : v ∈ (kids P (ge P v)).tail := by
    cases hk : kids P (ge P v) with
    | nil => rw [hk] at hmem; cases hmem
    | cons c cs =>
      rw [hk] at hmem h0
      have : c = c0 := by simpa using h0
      rcases List.mem_cons.1 hmem with h | h
      · exact absurd (h.trans this).symm hne
      · exact h
  have hok := forD_ok (W := W) (sep := sep) hP
  have hT : Tight P W sep (forD P W sep) v := by
    have hb := hP.2 v hv
    by_cases h1 : ge P v < 0
    · have e : ge P v = -1 := by omega
      rw [e] at ht
      exact hok.first v ht
    · obtain ⟨p, hp⟩ := Int.eq_ofNat_of_zero_le (by omega : 0 ≤ ge P v)
      rw [hp] at ht
      exact hok.tight p ((forD_all hP p).2 (by omega)) v ht
  obtain ⟨b, h1, h2, h3, p, hp, q, hq, h4, h5, h6, h7⟩ := hT
  obtain ⟨_, m, e, _, _⟩ := h
  refine ⟨b, p.1, q.1, h1, h2, (forD_all hP _).1 (mem_verts.2 ⟨p.2, hp⟩), (forD_all hP _).1 (mem_verts.2 ⟨q.2, hq⟩), bel_ge hP h5, h4, h5, h6, ?_⟩
  have a1 := (e _ hp).2.2
  have a2 := (e _ hq).2.2
  unfold rtE lfE at h7
  omega
theorem PlaceOK.left {P W X : List Int} {sep wd : Int} (hP : vFor P) (h : PlaceOK P W sep X wd) : (∀ v, v < P.length → 0 ≤ ge X v - ge W v / 2) ∧ ∃ u, u < P.length ∧ ge X u - ge W u / 2 = 0 := by
  obtain ⟨_, m, e, ⟨q, hq, hqe⟩, _⟩ := h
  constructor
  · intro v hv
    obtain ⟨x, hx⟩ := mem_verts.1 ((forD_all (W := W) (sep := sep) hP v).2 hv)
    have a := e _ hx
    unfold lfE at a
    dsimp only at a
    omega
  · refine ⟨q.1, (forD_all hP _).1 (mem_verts.2 ⟨q.2, hq⟩), ?_⟩
    have a := e _ hq
    unfold lfE at a hqe
    omega

set_option maxRecDepth 8000 in
set_option maxHeartbeats 8000000 in
theorem tight_l {p q qd qx : Option Addr} {n cp cq cd cx : Nat} {P W X : List Int} {sep : Int} {w : World} {c b0 u0 z0 : Nat} (hI : Ints w p P) (hJ : Ints w q W) (hD : Ints w qd (depI P)) (hX : Ints w qx X) (hn : P.length = n) (hWl : W.length = P.length) (hXl : X.length = P.length)
    (hP : vFor P) (hW : wOK W sep) (hbd : ∀ x ∈ X, -300000000 ≤ x ∧ x ≤ 300000000) (hc : c < P.length) (hT : Touch P W X sep c b0 u0 z0) :
    Calls Try.prog 18 #[.slice p n cp, .slice q n cq, .slice qd n cd, .slice qx n cx, .int .i64 c, .int .i64 sep] w fun e w' => e = .returned (.bool true) ∧ Grew w w' := by
  subst hn
  have h64 := hP.1
  have HI := Lib.hid hI
  obtain ⟨bP, oP, rfl, lP, cP⟩ := hI.cells (by omega)
  obtain ⟨bW, oW, rfl, lW, cW⟩ := hJ.cells (by omega)
  obtain ⟨bD, oD, rfl, lD, cD'⟩ := hD.cells (by rw [depI_length]; omega)
  obtain ⟨bX, oX, rfl, lX, cX⟩ := hX.cells (by omega)
  have CP := Lib.hid cP
  have CW := Lib.hid cW
  have CD := Lib.hid cD'
  have CX := Lib.hid cX
  have HP := Lib.hid hP
  have hs1 := hW.1
  have hs2 := hW.2.1
  have HW := Lib.hid hW.2.2
  have HWl := Lib.hid hWl
  have HXl := Lib.hid hXl
  have Hbd := Lib.hid (fun i (hi : i < P.length) => hbd (ge X i) (ge_mem (by rw [hXl]; exact hi)))
  have HT := Lib.hid hT
  obtain ⟨ht1, ht2, ht3, ht4, ht5, ht6, ht7, ht8, ht9⟩ := hT
  clear hI hJ hD hX hP hW cP cW cD' cX hWl hXl hbd ht2 ht6 ht7 ht8 ht9
  go_enter Try.func18, Try.ntmps18
  go_wp2
  go_loopw [13] (fun i wr => ∃ z : Nat, z ≤ z0 ∧ i = .int .i64 z ∧ Grew w wr) (fun i _ => z0 + 1 - (intOf i).toNat)
  case atStart => exact ⟨c, by omega, rfl, by (repeat (first | exact Grew.refl _ | refine Grew.over ?_ _ | refine Grew.alloc ?_ _ | refine Grew.drew ?_ | refine Grew.drewN ?_ _))⟩
  case round =>
    obtain ⟨z, hz, rfl, hgr⟩ := hrel
    have Hgr := Lib.hid hgr
    have hszr := hgr.below.size
    clear hgr
    have hzl : z < P.length := by omega
    go_wp2
    go_loopw [14] (fun i wq => ∃ u : Nat, u ≤ P.length ∧ (z = z0 → u ≤ u0) ∧ i = .int .i64 u ∧ Grew wr wq) (fun i _ => P.length - (intOf i).toNat)
    case atStart => exact ⟨0, Nat.zero_le _, fun _ => Nat.zero_le _, rfl, by (repeat (first | exact Grew.refl _ | refine Grew.over ?_ _ | refine Grew.alloc ?_ _ | refine Grew.drew ?_ | refine Grew.drewN ?_ _))⟩
    case round =>
      obtain ⟨u, hu, huz, rfl, hgq⟩ := hrel
      have Hgq := Lib.hid hgq
      have Hgt : Hid (Grew w wr) := Lib.hid (Hgr.out.trans hgq)
      have hszq := hgq.below.size
      have Huz := Lib.hid huz
      clear hgq huz
      by_cases hlu : u < P.length
      · have d1 := CD.out wr Hgt.out u (by rw [depI_length]; exact hlu)
        have d2 := CD.out wr Hgt.out z (by rw [depI_length]; exact hzl)
        have x1 := CX.out wr Hgt.out u (by rw [HXl.out]; exact hlu)
        have x2 := CX.out wr Hgt.out z (by rw [HXl.out]; exact hzl)
        have y1 := CW.out wr Hgt.out u (by rw [HWl.out]; exact hlu)
        have y2 := CW.out wr Hgt.out z (by rw [HWl.out]; exact hzl)
        obtain ⟨bx1, bx2⟩ := Hbd.out u hlu
        obtain ⟨bx3, bx4⟩ := Hbd.out z hzl
        obtain ⟨bw1, bw2⟩ := HW.out u
        obtain ⟨bw3, bw4⟩ := HW.out z
        have L1 := Lib.hid (fun W1 : World => left_r (ge X u) (ge W u) W1 (by omega) ⟨bw1, bw2⟩)
        have L2 := Lib.hid (fun W1 : World => left_r (ge X z) (ge W z) W1 (by omega) ⟨bw3, bw4⟩)
        cases hbz : belB P c z
        case false =>
          have HB := Lib.hid (fun (W1 : World) (hg : Grew w W1) => below_e (cap := cp) hbz (HI.out.grew hg) rfl HP.out hzl)
          have Hnot : Hid (¬ (z = z0 ∧ u = u0)) := Lib.hid (fun ⟨e1, e2⟩ => by rw [e1, belB_iff.2 HT.out.bz] at hbz; cases hbz)
          clear hbz
          go_wp2
          refine wp_region_over (by kernel_rfl) (by kernel_rfl) ?_; (repeat (go_big_quiet_step (first | (go_at_call 26; apply over_callE; with_reducible exact HB.out _ (Hgt.out.trans (by (repeat (first | exact Grew.refl _ | refine Grew.over ?_ _ | refine Grew.alloc ?_ _ | refine Grew.drew ?_ | refine Grew.drewN ?_ _))))) | (go_at_call 17; apply over_callE; with_reducible exact L1.out _) | (go_at_call 17; apply over_callE; with_reducible exact L2.out _)))); refine wpQuiet_nil ?_; rintro _ ⟨x, rfl⟩
          go_wp2
          go_roundw
          case rel => exact ⟨u + 1, by omega, fun e => by have := Huz.out e; have := Hnot.out; omega, by go_num, Hgq.out.trans (by (repeat (first | exact Grew.refl _ | refine Grew.over ?_ _ | refine Grew.alloc ?_ _ | refine Grew.drew ?_ | refine Grew.drewN ?_ _)))⟩
          case measure => simp [intOf]; omega
        case true =>
          have HB := Lib.hid (fun (W1 : World) (hg : Grew w W1) => below_e (cap := cp) hbz (HI.out.grew hg) rfl HP.out hzl)
          have Hbz := Lib.hid hbz
          clear hbz
          by_cases he : ge (depI P) u = ge (depI P) z
          case neg =>
            have he' : (ge (depI P) u != ge (depI P) z) = true := by rw [bne_iff_ne]; exact he
            have Hnot : Hid (¬ (z = z0 ∧ u = u0)) := Lib.hid (fun ⟨e1, e2⟩ => he (by
              have := HT.out.dd
              unfold depI
              rw [ge_tab _ hlu, ge_tab _ hzl, e1, e2, this]))
            clear he
            go_wp2
            refine wp_region_over (by kernel_rfl) (by kernel_rfl) ?_; (repeat (go_big_quiet_step (first | (go_at_call 26; apply over_callE; with_reducible exact HB.out _ (Hgt.out.trans (by (repeat (first | exact Grew.refl _ | refine Grew.over ?_ _ | refine Grew.alloc ?_ _ | refine Grew.drew ?_ | refine Grew.drewN ?_ _))))) | (go_at_call 17; apply over_callE; with_reducible exact L1.out _) | (go_at_call 17; apply over_callE; with_reducible exact L2.out _)))); refine wpQuiet_nil ?_; rintro _ ⟨x, rfl⟩
            go_wp2
            go_roundw
            case rel => exact ⟨u + 1, by omega, fun e => by have := Huz.out e; have := Hnot.out; omega, by go_num, Hgq.out.trans (by (repeat (first | exact Grew.refl _ | refine Grew.over ?_ _ | refine Grew.alloc ?_ _ | refine Grew.drew ?_ | refine Grew.drewN ?_ _)))⟩
            case measure => simp [intOf]; omega
          case pos =>
            have he' : (ge (depI P) u != ge (depI P) z) = false := by rw [he]; simp
            clear he
            by_cases hl : ge X u - ge W u / 2 + ge W u + sep = ge X z - ge W z / 2
            case neg =>
              have hl' : (ge X u - ge W u / 2 + ge W u + sep != ge X z - ge W z / 2) = true := by rw [bne_iff_ne]; exact hl
              have Hnot : Hid (¬ (z = z0 ∧ u = u0)) := Lib.hid (fun ⟨e1, e2⟩ => hl (by rw [e1, e2]; exact HT.out.at_))
              clear hl
              go_wp2
              refine wp_region_over (by kernel_rfl) (by kernel_rfl) ?_; (repeat (go_big_quiet_step (first | (go_at_call 26; apply over_callE; with_reducible exact HB.out _ (Hgt.out.trans (by (repeat (first | exact Grew.refl _ | refine Grew.over ?_ _ | refine Grew.alloc ?_ _ | refine Grew.drew ?_ | refine Grew.drewN ?_ _))))) | (go_at_call 17; apply over_callE; with_reducible exact L1.out _) | (go_at_call 17; apply over_callE; with_reducible exact L2.out _)))); refine wpQuiet_nil ?_; rintro _ ⟨x, rfl⟩
              go_wp2
              go_roundw
              case rel => exact ⟨u + 1, by omega, fun e => by have := Huz.out e; have := Hnot.out; omega, by go_num, Hgq.out.trans (by (repeat (first | exact Grew.refl _ | refine Grew.over ?_ _ | refine Grew.alloc ?_ _ | refine Grew.drew ?_ | refine Grew.drewN ?_ _)))⟩
              case measure => simp [intOf]; omega
            case pos =>
              have hl' : (ge X u - ge W u / 2 + ge W u + sep != ge X z - ge W z / 2) = false := by rw [hl]; simp
              clear hl
              go_wp2
              refine wp_region_over (by kernel_rfl) (by kernel_rfl) ?_; (repeat (go_big_quiet_step (first | (go_at_call 26; apply over_callE; with_reducible exact HB.out _ (Hgt.out.trans (by (repeat (first | exact Grew.refl _ | refine Grew.over ?_ _ | refine Grew.alloc ?_ _ | refine Grew.drew ?_ | refine Grew.drewN ?_ _))))) | (go_at_call 17; apply over_callE; with_reducible exact L1.out _) | (go_at_call 17; apply over_callE; with_reducible exact L2.out _)))); refine wpQuiet_nil ?_; rintro _ ⟨x, rfl⟩
              clear d1 d2 x1 x2 y1 y2 hl' he'
              go_wp2
              go_loopw [15] (fun i wb => ∃ b : Nat, b ≤ c ∧ (z = z0 → u = u0 → b ≤ b0) ∧ i = .int .i64 b ∧ Grew wr wb) (fun i _ => c - (intOf i).toNat)
              case atStart => exact ⟨0, Nat.zero_le _, fun _ _ => Nat.zero_le _, rfl, by (repeat (first | exact Grew.refl _ | refine Grew.over ?_ _ | refine Grew.alloc ?_ _ | refine Grew.drew ?_ | refine Grew.drewN ?_ _))⟩
              case round =>
                obtain ⟨b, hb, hbz, rfl, hgb⟩ := hrel
                have Hgb := Lib.hid hgb
                have Hgv : Hid (Grew w wr) := Lib.hid (Hgt.out.trans hgb)
                have hszb := hgb.below.size
                have Hb := Lib.hid hbz
                clear hgb hbz
                by_cases hlb : b < c
                · have hbl : b < P.length := by omega
                  have p1 := CP.out wr Hgv.out b hbl
                  have p2 := CP.out wr Hgv.out c hc
                  by_cases hp : ge P b = ge P c
                  case neg =>
                    have hp' : (ge P b == ge P c) = false := beq_eq_false_iff_ne.2 hp
                    have Hnot : Hid (b ≠ b0) := Lib.hid (fun e1 => hp (by rw [e1]; exact HT.out.par))
                    clear hp
                    go_wp2
                    refine wp_region_over (by kernel_rfl) (by kernel_rfl) ?_; (repeat (go_big_quiet_step (fail))); refine wpQuiet_nil ?_; rintro _ ⟨x, rfl⟩
                    go_wp2
                    go_roundw
                    case rel => exact ⟨b + 1, by omega, fun e1 e2 => by have := Hb.out e1 e2; have := Hnot.out; omega, by go_num, Hgb.out.trans (by (repeat (first | exact Grew.refl _ | refine Grew.over ?_ _ | refine Grew.alloc ?_ _ | refine Grew.drew ?_ | refine Grew.drewN ?_ _)))⟩
                    case measure => simp [intOf]; omega
                  case pos =>
                    have hp' : (ge P b == ge P c) = true := beq_iff_eq.2 hp
                    clear hp
                    cases hbu : belB P b u
                    case false =>
                      have HB2 := Lib.hid (fun (W1 : World) (hg : Grew w W1) => below_e (cap := cp) hbu (HI.out.grew hg) rfl HP.out hlu)
                      have Hnot : Hid (¬ (u = u0 ∧ b = b0)) := Lib.hid (fun ⟨e1, e2⟩ => by rw [e1, e2, belB_iff.2 HT.out.bu] at hbu; cases hbu)
                      clear hbu
                      go_wp2
                      refine wp_region_over (by kernel_rfl) (by kernel_rfl) ?_; (repeat (go_big_quiet_step ((go_at_call 26; apply over_callE; with_reducible exact HB2.out _ (Hgv.out.trans (by (repeat (first | exact Grew.refl _ | refine Grew.over ?_ _ | refine Grew.alloc ?_ _ | refine Grew.drew ?_ | refine Grew.drewN ?_ _)))))))); refine wpQuiet_nil ?_; rintro _ ⟨x, rfl⟩
                      go_wp2
                      go_roundw
                      case rel => exact ⟨b + 1, by omega, fun e1 e2 => by have := Hb.out e1 e2; have := Hnot.out; omega, by go_num, Hgb.out.trans (by (repeat (first | exact Grew.refl _ | refine Grew.over ?_ _ | refine Grew.alloc ?_ _ | refine Grew.drew ?_ | refine Grew.drewN ?_ _)))⟩
                      case measure => simp [intOf]; omega
                    case true =>
                      have HB2 := Lib.hid (fun (W1 : World) (hg : Grew w W1) => below_e (cap := cp) hbu (HI.out.grew hg) rfl HP.out hlu)
                      clear hbu
                      go_wp2
                      refine wp_region_over (by kernel_rfl) (by kernel_rfl) ?_; (repeat (go_big_quiet_step ((go_at_call 26; apply over_callE; with_reducible exact HB2.out _ (Hgv.out.trans (by (repeat (first | exact Grew.refl _ | refine Grew.over ?_ _ | refine Grew.alloc ?_ _ | refine Grew.drew ?_ | refine Grew.drewN ?_ _)))))))); refine wpQuiet_nil ?_; rintro _ ⟨x, rfl⟩
                      go_wp2
                      go_ret
                      exact ⟨rfl, Hgv.out.trans (by (repeat (first | exact Grew.refl _ | refine Grew.over ?_ _ | refine Grew.alloc ?_ _ | refine Grew.drew ?_ | refine Grew.drewN ?_ _)))⟩
                · have Hnx : Hid (z = z0 → u + 1 ≤ u0) := Lib.hid (fun e => by
                    have h1 := Huz.out e
                    have h2 := Hb.out e
                    omega)
                  go_wp2
                  go_roundw
                  case rel => exact ⟨u + 1, by omega, Hnx.out, by go_num, Hgq.out.trans Hgb.out⟩
                  case measure => simp [intOf]; omega
      · have hz1 : z + 1 ≤ z0 := by
          rcases Nat.lt_or_ge z z0 with h | h
          · exact h
          · have := Huz.out (by omega); omega
        go_wp2
        go_roundw
        case rel => exact ⟨z + 1, hz1, by go_num, Hgt.out⟩
        case measure => simp [intOf]; omega

end Go.Proofs.Ytgodoeefgmfpfaa
