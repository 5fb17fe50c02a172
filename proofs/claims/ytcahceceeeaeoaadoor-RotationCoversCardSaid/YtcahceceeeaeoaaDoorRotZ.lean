/- Equal up to the beginnings of the lists: the reference. -/
import Derived.Test.YtcahceceeeaeoaaDoorRotY
set_option linter.unusedSimpArgs false
set_option linter.unusedVariables false
namespace Go.Proofs.YtcahceceeeaeoaaDoor
open Go.RowKit
attribute [local go_sem ↓] Go.wp_at_zero Go.wp_at_succ

/-- b is a, moved by s. -/
def eqAt (a b : List Int) (s : Nat) : Prop := ∀ k, k < a.length → ge a ((s + k) % a.length) = ge b k
def cycP (a b : List Int) : Prop := a.length = b.length ∧ (a.length = 0 ∨ ∃ s, s < a.length ∧ eqAt a b s)
open Classical in
noncomputable def cycB (a b : List Int) : Bool := decide (cycP a b)
theorem cycB_yes {a b : List Int} (h : cycP a b) : cycB a b = true := by unfold cycB; simp [h]
theorem cycB_no {a b : List Int} (h : ¬ cycP a b) : cycB a b = false := by unfold cycB; simp [h]
theorem cycB_iff {a b : List Int} : cycB a b = true ↔ cycP a b := by unfold cycB; simp

set_option maxRecDepth 8000 in
set_option maxHeartbeats 4000000 in
theorem cyclic_r (p q : Option Addr) (n k cp cq : Nat) (a b : List Int) (w : World) (hI : Ints w p a) (hJ : Ints w q b) (ha : a.length ≤ 100) (hb : b.length ≤ 100) (hn : a.length = n) (hk : b.length = k) :
    Calls Tryd.prog 43 #[.slice p n cp, .slice q k cq] w fun e w' => e = .returned (.bool (cycB a b)) ∧ Grew w w' := by
  subst hn hk
  by_cases hl : a.length = b.length
  case neg =>
    have Hf : Hid (cycB a b = false) := Lib.hid (cycB_no fun h => hl h.1)
    have hl' : ((a.length : Int) != (b.length : Int)) = true := by rw [bne_iff_ne]; omega
    clear hl hI hJ
    go_enter Tryd.func43, Tryd.ntmps43
    go_wp2
    go_ret
    exact ⟨by rw [Hf.out]; rfl, by (repeat (first | exact Grew.refl _ | refine Grew.over ?_ _ | refine Grew.alloc ?_ _ | refine Grew.drew ?_ | refine Grew.drewN ?_ _))⟩
  case pos =>
  have hl' : ((a.length : Int) != (b.length : Int)) = false := by simp [hl]
  have HI := Lib.hid hI
  have HJ := Lib.hid hJ
  have Hl := Lib.hid hl
  obtain ⟨L, hL⟩ : ∃ L, a.length = L := ⟨_, rfl⟩
  have hLb : b.length = L := by omega
  have HL := Lib.hid hL
  rw [hL, hLb] at hl'
  rw [hL, hLb]
  have hL1 : L ≤ 100 := by omega
  have HLb := Lib.hid hLb
  clear hI hJ ha hb hl hL hLb
  go_enter Tryd.func43, Tryd.ntmps43
  go_wp2
  go_loopw [5] (fun i wr => ∃ s : Nat, s ≤ L ∧ i = .int .i64 s ∧ (∀ t, t < s → ¬ eqAt a b t) ∧ Grew w wr) (fun i _ => L - (intOf i).toNat)
  case atStart => exact ⟨0, Nat.zero_le _, rfl, fun t ht => absurd ht (Nat.not_lt_zero _), Grew.refl _⟩
  case round =>
    obtain ⟨s, hs, rfl, hno, hg⟩ := hrel
    have Hno := Lib.hid hno
    have Hg := Lib.hid hg
    clear hno hg
    by_cases hlt : s < L
    · go_wp2
      go_loopw [6, 7] (fun v6 i wk => ∃ (j : Nat) (c : Bool), j ≤ L ∧ i = .int .i64 j ∧ v6 = .bool c ∧ (c = true → ∀ t, t < j → ge a ((s + t) % a.length) = ge b t) ∧ (c = false → ¬ eqAt a b s) ∧ Grew w wk) (fun _ i _ => L - (intOf i).toNat)
      case atStart => exact ⟨0, true, Nat.zero_le _, rfl, rfl, fun _ t ht => absurd ht (Nat.not_lt_zero _), (fun h => by cases h), Hg.out⟩
      case round =>
        obtain ⟨j, c, hj, rfl, rfl, hyes, hnot, hgk⟩ := hrel
        have Hyes := Lib.hid hyes
        have Hnot := Lib.hid hnot
        have Hgk := Lib.hid hgk
        clear hyes hnot hgk
        cases c
        case false =>
          have Hn2 := Lib.hid (Hnot.out rfl)
          by_cases hjl : j < L
          · go_wp2
            go_roundw
            case rel => exact ⟨s + 1, by omega, by go_num, (fun t ht => by
              by_cases e : t = s
              · rw [e]; exact Hn2.out
              · exact Hno.out t (by omega)), Hgk.out.trans (by (repeat (first | exact Grew.refl _ | refine Grew.over ?_ _ | refine Grew.alloc ?_ _ | refine Grew.drew ?_ | refine Grew.drewN ?_ _)))⟩
            case measure => simp [intOf]; omega
          · go_wp2
            go_roundw
            case rel => exact ⟨s + 1, by omega, by go_num, (fun t ht => by
              by_cases e : t = s
              · rw [e]; exact Hn2.out
              · exact Hno.out t (by omega)), Hgk.out.trans (by (repeat (first | exact Grew.refl _ | refine Grew.over ?_ _ | refine Grew.alloc ?_ _ | refine Grew.drew ?_ | refine Grew.drewN ?_ _)))⟩
            case measure => simp [intOf]; omega
        case true =>
          by_cases hjl : j < L
          · obtain ⟨bI, oI, rfl, lI, cI⟩ := HI.out.cells (by rw [HL.out]; omega)
            obtain ⟨bJ, oJ, rfl, lJ, cJ⟩ := HJ.out.cells (by rw [HLb.out]; omega)
            obtain ⟨r, hr⟩ : ∃ r, (s + j) % L = r := ⟨_, rfl⟩
            have hrl : r < L := by rw [← hr]; exact Nat.mod_lt _ (by omega)
            have c1 := cI wr Hgk.out r (by rw [HL.out]; exact hrl)
            have c2 := cJ wr Hgk.out j (by rw [HLb.out]; exact hjl)
            have hem : ((s : Int) + (j : Int)) % (L : Int) = (r : Int) := by rw [← hr]; push_cast; rfl
            have het : ((s : Int) + (j : Int)).tmod (L : Int) = (r : Int) := by rw [Int.tmod_eq_emod_of_nonneg (by omega)]; exact hem
            have hwk1 : IntKind.i64.wrap ((s : Int) + (j : Int)) = (s : Int) + (j : Int) := IntWalk.i64_in _ ⟨by omega, by omega⟩
            have hL0 : ¬ L = 0 := by omega
            have hszk := Hgk.out.below.size
            have Hr := Lib.hid hr
            clear cI cJ hr
            go_upto_region 10 with fail
            refine wp_region_over (by kernel_rfl) (by kernel_rfl) ?_; (repeat (go_big_quiet_step (fail))); refine wpQuiet_nil ?_; rintro _ ⟨x, rfl⟩
            by_cases he : ge a r = ge b j
            · have he' : (ge a r == ge b j) = true := beq_iff_eq.2 he
              have He := Lib.hid he
              clear he
              go_wp2
              go_roundw
              case rel => exact ⟨j + 1, true, by omega, by go_num, (by rw [he']), (fun _ t ht => by
                by_cases e : t = j
                · rw [e, HL.out, Hr.out]; exact He.out
                · exact Hyes.out rfl t (by omega)), (fun h => by cases h), Hgk.out.trans (by (repeat (first | exact Grew.refl _ | refine Grew.over ?_ _ | refine Grew.alloc ?_ _ | refine Grew.drew ?_ | refine Grew.drewN ?_ _)))⟩
              case measure => simp [intOf]; omega
            · have he' : (ge a r == ge b j) = false := beq_eq_false_iff_ne.2 he
              have He := Lib.hid he
              clear he
              go_wp2
              go_roundw
              case rel => exact ⟨j + 1, false, by omega, by go_num, (by rw [he']), (fun h => by cases h), (fun _ h => He.out (by have := h j (by rw [HL.out]; exact hjl); rw [HL.out, Hr.out] at this; exact this)), Hgk.out.trans (by (repeat (first | exact Grew.refl _ | refine Grew.over ?_ _ | refine Grew.alloc ?_ _ | refine Grew.drew ?_ | refine Grew.drewN ?_ _)))⟩
              case measure => simp [intOf]; omega
          · have Hf : Hid (cycB a b = true) := Lib.hid (cycB_yes ⟨Hl.out, Or.inr ⟨s, by rw [HL.out]; exact hlt, fun t ht => Hyes.out rfl t (by rw [HL.out] at ht; omega)⟩⟩)
            go_wp2
            go_ret
            exact ⟨by rw [Hf.out]; rfl, Hgk.out.trans (by (repeat (first | exact Grew.refl _ | refine Grew.over ?_ _ | refine Grew.alloc ?_ _ | refine Grew.drew ?_ | refine Grew.drewN ?_ _)))⟩
    · by_cases h0 : L = 0
      · have Hf : Hid (cycB a b = true) := Lib.hid (cycB_yes ⟨Hl.out, Or.inl (by rw [HL.out]; exact h0)⟩)
        have h0' : ((L : Int) == 0) = true := by rw [beq_iff_eq]; omega
        clear h0
        go_wp2
        go_ret
        exact ⟨by rw [Hf.out]; rfl, Hg.out.trans (by (repeat (first | exact Grew.refl _ | refine Grew.over ?_ _ | refine Grew.alloc ?_ _ | refine Grew.drew ?_ | refine Grew.drewN ?_ _)))⟩
      · have Hf : Hid (cycB a b = false) := Lib.hid (cycB_no fun h => by
          rcases h.2 with h | ⟨t, ht, h⟩
          · rw [HL.out] at h; exact h0 h
          · exact Hno.out t (by rw [HL.out] at ht; omega) h)
        have h0' : ((L : Int) == 0) = false := by rw [beq_eq_false_iff_ne]; omega
        clear h0
        go_wp2
        go_ret
        exact ⟨by rw [Hf.out]; rfl, Hg.out.trans (by (repeat (first | exact Grew.refl _ | refine Grew.over ?_ _ | refine Grew.alloc ?_ _ | refine Grew.drew ?_ | refine Grew.drewN ?_ _)))⟩
end Go.Proofs.YtcahceceeeaeoaaDoor
