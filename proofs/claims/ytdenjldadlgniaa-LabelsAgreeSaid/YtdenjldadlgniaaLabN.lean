/- Slots of the program. -/
import Derived.Test.YtdenjldadlgniaaLabM
set_option linter.unusedSimpArgs false
set_option linter.unusedVariables false
namespace Go.Proofs.Ytdenjldadlgniaa
open Go.RowKit
attribute [local go_sem ↓] Go.wp_at_zero Go.wp_at_succ

theorem any_row {c : List (List Int)} {pr : List Int → Bool} : c.any pr = true ↔ ∃ u, u < c.length ∧ pr (rowOf c u) = true := by
  rw [List.any_eq_true]
  constructor
  · rintro ⟨b, hb, h⟩
    obtain ⟨k, hk, rfl⟩ := List.getElem_of_mem hb
    exact ⟨k, hk, by unfold rowOf; rw [List.getD_eq_getElem?_getD, List.getElem?_eq_getElem hk]; exact h⟩
  · rintro ⟨k, hk, h⟩
    unfold rowOf at h
    rw [List.getD_eq_getElem?_getD, List.getElem?_eq_getElem hk] at h
    exact ⟨_, List.getElem_mem hk, h⟩
theorem any_row_none {c : List (List Int)} {pr : List Int → Bool} (h : ∀ u, u < c.length → pr (rowOf c u) = false) : c.any pr = false := by
  rw [← Bool.not_eq_true, any_row]
  rintro ⟨k, hk, h2⟩
  rw [h k hk] at h2
  cases h2
def idxR (c : List (List Int)) (pr : List Int → Bool) (r : Int) : Prop := (r = -1 ∧ c.any pr = false) ∨ ∃ k : Nat, r = (k : Int) ∧ c.any pr = true
set_option maxHeartbeats 1000000 in
theorem slot2_p (p q : Option Addr) (n k cp cq t : Nat) (w : World) (hn : n ≤ 9223372036854775807) (hk : k ≤ 9223372036854775807) (h0 : w.cell? ⟨t, 0, none⟩ = some (.slice q k cq)) :
    Calls Try.prog 38 #[.slice p n cp, .pointer (some ⟨t, 0, none⟩)] w fun e w' => e = .returned (.bool (decide (n ≠ k))) ∧ Grew w w' := by
  have hb : t < w.heap.size := World.block_lt_of_cell? w _ h0
  by_cases h : n = k
  · subst h
    go_enter Try.func38, Try.ntmps38
    go_wp2
    go_ret
    exact ⟨ret_bool (by simp), by (repeat (first | exact Grew.refl _ | refine Grew.over ?_ _ | refine Grew.alloc ?_ _ | refine Grew.drew ?_ | refine Grew.drewN ?_ _))⟩
  · have h2 : ((n : Int) != (k : Int)) = true := by rw [bne_iff_ne]; omega
    have h3 : (n != k) = true := by rw [bne_iff_ne]; exact h
    have Hf : Hid (decide (n ≠ k) = true) := Lib.hid (decide_eq_true h)
    clear h
    go_enter Try.func38, Try.ntmps38
    go_wp2
    go_ret
    exact ⟨ret_bool Hf.out.symm, by (repeat (first | exact Grew.refl _ | refine Grew.over ?_ _ | refine Grew.alloc ?_ _ | refine Grew.drew ?_ | refine Grew.drewN ?_ _))⟩
set_option maxHeartbeats 2000000 in
theorem index_rows (p : Option Addr) (n cap : Nat) (c : List (List Int)) (q : Value) (pr : List Int → Bool) (w : World) (hI : Mat w p c) (hn : c.length = n)
    (hcl : ∀ (rp : Option Addr) (u rc : Nat) (W : World), u < c.length → Grew w W → Calls Try.prog 38 #[.slice rp (rowOf c u).length rc, q] W fun e w' => e = .returned (.bool (pr (rowOf c u))) ∧ Grew W w') :
    Calls Try.prog 53 #[.slice p n cap, .func (.func 38) #[] #[q]] w fun e w' => (∃ r : Int, e = .returned (.int .i64 r) ∧ idxR c pr r) ∧ Grew w w' := by
  subst hn
  have hm := hI.1
  have HI := Lib.hid hI
  have Hcl := Lib.hid hcl
  clear hcl hI
  go_enter Try.func53, Try.ntmps53
  go_wp2
  go_loopw [5, 8] (fun _ i wr => ∃ k : Nat, k ≤ c.length ∧ i = .int .i64 k ∧ (∀ j, j < k → pr (rowOf c j) = false) ∧ Grew w wr) (fun _ i _ => c.length - (intOf i).toNat)
  case atStart => exact ⟨0, Nat.zero_le _, rfl, fun j hj => by omega, Grew.refl _⟩
  case round =>
    obtain ⟨k, hk, rfl, hall, hg⟩ := hrel
    have Hall := Lib.hid hall
    have Hg := Lib.hid hg
    clear hall hg
    by_cases hlt : k < c.length
    · obtain ⟨b, o, rp, rc, rfl, hb, c0, hR⟩ := HI.out.row2 hlt
      replace c0 := Hg.out.cellEq c0
      replace hb := Nat.lt_of_lt_of_le hb Hg.out.below.size
      clear hR
      have Hk := Lib.hid hlt
      obtain ⟨L, hL⟩ : ∃ L, (rowOf c k).length = L := ⟨_, rfl⟩
      rw [hL] at c0
      have HL := Lib.hid hL
      clear hL
      obtain ⟨r, hr⟩ : ∃ r, pr (rowOf c k) = r := ⟨_, rfl⟩
      have Hr := Lib.hid hr
      clear hr
      have Hc2 : Hid (∀ W, Grew w W → Calls Try.prog 38 #[.slice rp L rc, q] W fun e w' => e = .returned (.bool r) ∧ Grew W w') := Lib.hid (fun W hW => by have := Hcl.out rp k rc W Hk.out hW; rw [HL.out, Hr.out] at this; exact this)
      cases r
      · go_wp2_with (go_at_call 38; apply Calls.mono; (with_reducible exact Hc2.out _ (Hg.out.trans (by (repeat (first | exact Grew.refl _ | refine Grew.over ?_ _ | refine Grew.alloc ?_ _ | refine Grew.drew ?_ | refine Grew.drewN ?_ _))))); rintro e w2 ⟨rfl, hg2⟩; have Hg2 := Lib.hid (Hg.out.trans (Grew.trans (by (repeat (first | exact Grew.refl _ | refine Grew.over ?_ _ | refine Grew.alloc ?_ _ | refine Grew.drew ?_ | refine Grew.drewN ?_ _))) hg2)); clear hg2)
        go_roundw
        case rel => exact ⟨k + 1, by omega, by go_num, fun j hj => (by
          by_cases h : j = k
          · rw [h]; exact Hr.out
          · exact Hall.out j (by omega)), Hg2.out⟩
        case measure => simp [intOf]; omega
      · have He : Hid (c.any pr = true) := Lib.hid (any_row.2 ⟨k, hlt, Hr.out⟩)
        go_wp2_with (go_at_call 38; apply Calls.mono; (with_reducible exact Hc2.out _ (Hg.out.trans (by (repeat (first | exact Grew.refl _ | refine Grew.over ?_ _ | refine Grew.alloc ?_ _ | refine Grew.drew ?_ | refine Grew.drewN ?_ _))))); rintro e w2 ⟨rfl, hg2⟩; have Hg2 := Lib.hid (Hg.out.trans (Grew.trans (by (repeat (first | exact Grew.refl _ | refine Grew.over ?_ _ | refine Grew.alloc ?_ _ | refine Grew.drew ?_ | refine Grew.drewN ?_ _))) hg2)); clear hg2)
        go_ret
        exact ⟨⟨k, rfl, Or.inr ⟨k, rfl, He.out⟩⟩, Hg2.out⟩
    · have Hf := Lib.hid (any_row_none (pr := pr) (c := c) (fun i hi => Hall.out i (by omega)))
      go_wp2
      go_ret
      exact ⟨⟨-1, rfl, Or.inl ⟨rfl, Hf.out⟩⟩, Hg.out⟩
set_option maxHeartbeats 2000000 in
theorem contains_rows (p : Option Addr) (n cap : Nat) (c : List (List Int)) (q : Value) (pr : List Int → Bool) (w : World) (hI : Mat w p c) (hn : c.length = n)
    (hcl : ∀ (rp : Option Addr) (u rc : Nat) (W : World), u < c.length → Grew w W → Calls Try.prog 38 #[.slice rp (rowOf c u).length rc, q] W fun e w' => e = .returned (.bool (pr (rowOf c u))) ∧ Grew W w') :
    Calls Try.prog 37 #[.slice p n cap, .func (.func 38) #[] #[q]] w fun e w' => e = .returned (.bool (c.any pr)) ∧ Grew w w' := by
  have Hcl := Lib.hid hcl
  have HI := Lib.hid hI
  clear hcl hI
  go_enter Try.func37, Try.ntmps37
  go_wp2_with (go_at_call 53; apply Calls.mono; (with_reducible exact index_rows _ _ _ _ _ pr _ HI.out hn Hcl.out); rintro e w' ⟨⟨r, rfl, hr⟩, hg⟩; have Hr := Lib.hid hr; have Hg := Lib.hid hg; clear hr hg)
  rcases Hr.out with ⟨rfl, h⟩ | ⟨k, rfl, h⟩
  · have H := Lib.hid h
    clear h
    go_wp2
    go_ret
    exact ⟨ret_bool H.out.symm, Hg.out⟩
  · have hk : (0 : Int) ≤ k := Int.natCast_nonneg k
    have H := Lib.hid h
    clear h
    go_wp2
    go_ret
    exact ⟨ret_bool H.out.symm, Hg.out⟩

/-! ### The slots -/
def slB (s : List Bx) : Bool := decide (s.length ≤ 64) && !(s.any fun b => !bvB b)
def rwB (n : Nat) (c : List (List Int)) : Bool := !(c.any fun l => decide (l.length ≠ n))
def okS (s : List Bx) (c : List (List Int)) : Bool := slB s && vB c && rwB s.length c
def NoOv (s : List Bx) : Prop := ∀ i, i < s.length → frB (s.take i) (bK s i) = true
def SlotsPost (s : List Bx) (c : List (List Int)) (w : World) (e : Ending) (w' : World) : Prop :=
  Grew w w' ∧ ((okS s c = false ∧ e = .returned (.tuple #[.slice none 0 0, .int .i64 0, .int .i64 1])) ∨
    (okS s c = true ∧ ¬ NoOv s ∧ e = .returned (.tuple #[.slice none 0 0, .int .i64 0, .int .i64 14])) ∨
    (okS s c = true ∧ NoOv s ∧ (∀ a, ¬ Asg c a) ∧ e = .returned (.tuple #[.slice none 0 0, .int .i64 0, .int .i64 15])) ∨
    (okS s c = true ∧ NoOv s ∧ ∃ a q cp, BestA c a ∧ e = .returned (.tuple #[.slice q a.length cp, .int .i64 (costN c a), .int .i64 0]) ∧ Ints w' q (intL a) ∧ a.length ≤ cp))
theorem Bxs.take {w : World} {p : Option Addr} {l : List Bx} (h : Bxs w p l) (k : Nat) : Bxs w p (l.take k) := by
  obtain ⟨h1, b, o, h3, h4⟩ := h
  refine ⟨by simp; omega, b, o, fun hp => h3 (by simp at hp; omega), fun i hi => ?_⟩
  simp at hi
  have e : bK (l.take k) i = bK l i := by
    unfold bK
    simp [List.getD, List.getElem?_take]
    rw [if_pos (by omega)]
  rw [e]
  exact h4 i (by omega)
set_option maxHeartbeats 16000000 in
set_option maxRecDepth 100000 in
theorem slots_p (p q : Option Addr) (n k cp cq : Nat) (s : List Bx) (c : List (List Int)) (w : World) (hI : Bxs w p s) (hC : Mat w q c) (hn : s.length = n) (hk : c.length = k) (hcp : n ≤ cp) (hcp2 : cp ≤ 9223372036854775807) :
    Calls Try.prog 20 #[.slice p n cp, .slice q k cq] w (SlotsPost s c w) := by
  have HI := Lib.hid hI
  have HC := Lib.hid hC
  have hmm := hI.1
  have hmc := hC.1
  have HN := Lib.hid hn
  have HK := Lib.hid hk
  rw [hn] at hmm
  rw [hk] at hmc
  clear hI hC
  have Hbad : Hid (okS s c = false → ∀ w', Grew w w' → SlotsPost s c w (.returned (.tuple #[.slice none 0 0, .int .i64 0, .int .i64 1])) w') := Lib.hid (fun h w' hg => ⟨hg, Or.inl ⟨h, rfl⟩⟩)
  by_cases h64 : n ≤ 64
  case neg =>
    have Hp := Lib.hid (Hbad.out (by unfold okS slB; rw [decide_eq_false (by rw [hn]; exact h64)]; rfl))
    clear hn hk
    go_enter Try.func20, Try.ntmps20
    go_wp2
    go_ret3
    exact Hp.out _ (by (repeat (first | exact Grew.refl _ | refine Grew.over ?_ _ | refine Grew.alloc ?_ _ | refine Grew.drew ?_ | refine Grew.drewN ?_ _)))
  have Hs64 : Hid (decide (s.length ≤ 64) = true) := Lib.hid (decide_eq_true (by rw [hn]; exact h64))
  obtain ⟨r1, hr1⟩ : ∃ r, (s.any fun b => !bvB b) = r := ⟨_, rfl⟩
  obtain ⟨r2, hr2⟩ : ∃ r, vB c = r := ⟨_, rfl⟩
  obtain ⟨r3, hr3⟩ : ∃ r, (c.any fun l => decide (l.length ≠ n)) = r := ⟨_, rfl⟩
  have Hok : Hid (okS s c = (!r1 && r2 && !r3)) := Lib.hid (by unfold okS slB rwB; rw [hn, hr1, hr2, hr3, decide_eq_true h64]; simp)
  have H1 := Lib.hid hr1
  have H2 := Lib.hid hr2
  have H3 := Lib.hid hr3
  clear hr1 hr2 hr3 hn hk
  cases r1
  case true =>
    have Hp := Lib.hid (Hbad.out (by rw [Hok.out]; rfl))
    go_enter Try.func20, Try.ntmps20
    go_wp2_with (go_at_call 33; apply Calls.mono; (with_reducible exact contains_slot _ _ _ s (fun b => !bvB b) _ (HI.out.grew (by (repeat (first | exact Grew.refl _ | refine Grew.over ?_ _ | refine Grew.alloc ?_ _ | refine Grew.drew ?_ | refine Grew.drewN ?_ _)))) HN.out (fun a b c d W _ => slot1_p a b c d W)); rw [H1.out]; rintro e w' ⟨rfl, x, rfl⟩)
    go_ret3
    exact Hp.out _ (by (repeat (first | exact Grew.refl _ | refine Grew.over ?_ _ | refine Grew.alloc ?_ _ | refine Grew.drew ?_ | refine Grew.drewN ?_ _)))
  cases r2
  case false =>
    have Hp := Lib.hid (Hbad.out (by rw [Hok.out]; rfl))
    go_enter Try.func20, Try.ntmps20
    go_wp2_with (first | (go_at_call 33; apply Calls.mono; (with_reducible exact contains_slot _ _ _ s (fun b => !bvB b) _ (HI.out.grew (by (repeat (first | exact Grew.refl _ | refine Grew.over ?_ _ | refine Grew.alloc ?_ _ | refine Grew.drew ?_ | refine Grew.drewN ?_ _)))) HN.out (fun a b c d W _ => slot1_p a b c d W)); rw [H1.out]; rintro e w' ⟨rfl, x, rfl⟩) | (go_at_call 36; apply Calls.mono; (with_reducible exact valid_p _ _ _ _ _ (HC.out.grew (by (repeat (first | exact Grew.refl _ | refine Grew.over ?_ _ | refine Grew.alloc ?_ _ | refine Grew.drew ?_ | refine Grew.drewN ?_ _)))) HK.out); rw [H2.out]; rintro e w' ⟨rfl, x, rfl⟩))
    go_ret3
    exact Hp.out _ (by (repeat (first | exact Grew.refl _ | refine Grew.over ?_ _ | refine Grew.alloc ?_ _ | refine Grew.drew ?_ | refine Grew.drewN ?_ _)))
  have HLn : Hid (∀ u, u < c.length → (rowOf c u).length ≤ 9223372036854775807) := Lib.hid (fun u hu => by
    obtain ⟨_, _, _, _, _, _, _, hR⟩ := HC.out.row2 hu
    exact hR.1)
  have HN63 := Lib.hid hmm
  cases r3
  case true =>
    have Hp := Lib.hid (Hbad.out (by rw [Hok.out]; rfl))
    go_enter Try.func20, Try.ntmps20
    go_wp2_with (first | (go_at_call 33; apply Calls.mono; (with_reducible exact contains_slot _ _ _ s (fun b => !bvB b) _ (HI.out.grew (by (repeat (first | exact Grew.refl _ | refine Grew.over ?_ _ | refine Grew.alloc ?_ _ | refine Grew.drew ?_ | refine Grew.drewN ?_ _)))) HN.out (fun a b c d W _ => slot1_p a b c d W)); rw [H1.out]; rintro e w' ⟨rfl, x, rfl⟩) | (go_at_call 36; apply Calls.mono; (with_reducible exact valid_p _ _ _ _ _ (HC.out.grew (by (repeat (first | exact Grew.refl _ | refine Grew.over ?_ _ | refine Grew.alloc ?_ _ | refine Grew.drew ?_ | refine Grew.drewN ?_ _)))) HK.out); rw [H2.out]; rintro e w' ⟨rfl, x, rfl⟩) | (go_at_call 37; apply Calls.mono; (with_reducible exact contains_rows _ _ _ c _ (fun l => decide (l.length ≠ n)) _ (HC.out.grew (by (repeat (first | exact Grew.refl _ | refine Grew.over ?_ _ | refine Grew.alloc ?_ _ | refine Grew.drew ?_ | refine Grew.drewN ?_ _)))) HK.out (fun rp u rc W hu hW => slot2_p rp p _ n rc cp _ W (HLn.out u hu) HN63.out (hW.cellEq (by first | (simp [go_sem]; done) | (simp [go_sem]; intro h; omega))))); rw [H3.out]; rintro e w' ⟨rfl, x, rfl⟩))
    go_ret3
    exact Hp.out _ (by (repeat (first | exact Grew.refl _ | refine Grew.over ?_ _ | refine Grew.alloc ?_ _ | refine Grew.drew ?_ | refine Grew.drewN ?_ _)))
  replace Hok : Hid (okS s c = true) := Lib.hid (by rw [Hok.out]; rfl)
  have Hov : Hid (¬ NoOv s → ∀ w', Grew w w' → SlotsPost s c w (.returned (.tuple #[.slice none 0 0, .int .i64 0, .int .i64 14])) w') := Lib.hid (fun h w' hg => ⟨hg, Or.inr (Or.inl ⟨Hok.out, h, rfl⟩)⟩)
  go_enter Try.func20, Try.ntmps20
  go_wp2_with (first | (go_at_call 33; apply Calls.mono; (with_reducible exact contains_slot _ _ _ s (fun b => !bvB b) _ (HI.out.grew (by (repeat (first | exact Grew.refl _ | refine Grew.over ?_ _ | refine Grew.alloc ?_ _ | refine Grew.drew ?_ | refine Grew.drewN ?_ _)))) HN.out (fun a b c d W _ => slot1_p a b c d W)); rw [H1.out]; rintro e w' ⟨rfl, x, rfl⟩) | (go_at_call 36; apply Calls.mono; (with_reducible exact valid_p _ _ _ _ _ (HC.out.grew (by (repeat (first | exact Grew.refl _ | refine Grew.over ?_ _ | refine Grew.alloc ?_ _ | refine Grew.drew ?_ | refine Grew.drewN ?_ _)))) HK.out); rw [H2.out]; rintro e w' ⟨rfl, x, rfl⟩) | (go_at_call 37; apply Calls.mono; (with_reducible exact contains_rows _ _ _ c _ (fun l => decide (l.length ≠ n)) _ (HC.out.grew (by (repeat (first | exact Grew.refl _ | refine Grew.over ?_ _ | refine Grew.alloc ?_ _ | refine Grew.drew ?_ | refine Grew.drewN ?_ _)))) HK.out (fun rp u rc W hu hW => slot2_p rp p _ n rc cp _ W (HLn.out u hu) HN63.out (hW.cellEq (by first | (simp [go_sem]; done) | (simp [go_sem]; intro h; omega))))); rw [H3.out]; rintro e w' ⟨rfl, x, rfl⟩))
  go_loopw [26] (fun v wr => ∃ i : Nat, i ≤ n ∧ v = .int .i64 i ∧ (∀ j, j < i → frB (s.take j) (bK s j) = true) ∧ Grew w wr ∧ wr.cell? ⟨w.heap.size, 0, none⟩ = some (.slice p n cp)) (fun v _ => n - (intOf v).toNat)
  case atStart => exact ⟨0, Nat.zero_le _, rfl, fun j hj => by omega, by (repeat (first | exact Grew.refl _ | refine Grew.over ?_ _ | refine Grew.alloc ?_ _ | refine Grew.drew ?_ | refine Grew.drewN ?_ _)), Grew.cellEq (show Grew (w.alloc (.cells #[.slice p n cp] 35)) _ by (repeat (first | exact Grew.refl _ | refine Grew.over ?_ _ | refine Grew.alloc ?_ _ | refine Grew.drew ?_ | refine Grew.drewN ?_ _))) (by simp [go_sem])⟩
  case round =>
    obtain ⟨i, hi, rfl, hall, hg, hc⟩ := hrel
    have Hall := Lib.hid hall
    have Hg := Lib.hid hg
    have Hc := Lib.hid hc
    have hbt := World.block_lt_of_cell? wr _ hc
    clear hall hg
    by_cases hlt : i < n
    · obtain ⟨_, bb, oo, h3, h4⟩ := HI.out.grew Hg.out
      obtain ⟨rfl, hbb⟩ := h3 (by rw [HN.out]; omega)
      obtain ⟨k1, k2, k3, k4⟩ := h4 i (by rw [HN.out]; exact hlt)
      clear h3 h4
      obtain ⟨⟨xa, xb, xc, xd⟩, hbe⟩ : ∃ b, bK s i = b := ⟨_, rfl⟩
      rw [hbe] at k1 k2 k3 k4
      dsimp only at k1 k2 k3 k4
      have Hbe := Lib.hid hbe
      clear hbe
      obtain ⟨r, hr⟩ : ∃ r, frB (s.take i) ⟨xa, xb, xc, xd⟩ = r := ⟨_, rfl⟩
      have Hr := Lib.hid hr
      have Hti : Hid ((s.take i).length = i) := Lib.hid (by rw [List.length_take, HN.out]; omega)
      clear hr
      cases r
      · have Hp := Lib.hid (Hov.out (fun h => by have := h i (by rw [HN.out]; exact hlt); rw [Hbe.out, Hr.out] at this; cases this))
        go_wp2
        refine wp_region_over (by kernel_rfl) (by kernel_rfl) ?_; (repeat (go_big_quiet_step ((go_at_call 28; apply over_call; with_reducible exact free_e Hr.out ((HI.out.grew (Hg.out.trans (by (repeat (first | exact Grew.refl _ | refine Grew.over ?_ _ | refine Grew.alloc ?_ _ | refine Grew.drew ?_ | refine Grew.drewN ?_ _))))).take i) Hti.out)))); refine wpQuiet_nil ?_; rintro _ ⟨x, rfl⟩
        go_wp2
        go_ret3
        exact Hp.out _ (Hg.out.trans (by (repeat (first | exact Grew.refl _ | refine Grew.over ?_ _ | refine Grew.alloc ?_ _ | refine Grew.drew ?_ | refine Grew.drewN ?_ _))))
      · go_wp2
        refine wp_region_over (by kernel_rfl) (by kernel_rfl) ?_; (repeat (go_big_quiet_step ((go_at_call 28; apply over_call; with_reducible exact free_e Hr.out ((HI.out.grew (Hg.out.trans (by (repeat (first | exact Grew.refl _ | refine Grew.over ?_ _ | refine Grew.alloc ?_ _ | refine Grew.drew ?_ | refine Grew.drewN ?_ _))))).take i) Hti.out)))); refine wpQuiet_nil ?_; rintro _ ⟨x, rfl⟩
        go_wp2
        go_roundw
        case rel => exact ⟨i + 1, by omega, by go_num, fun j hj => (by
          by_cases e : j = i
          · rw [e, Hbe.out]; exact Hr.out
          · exact Hall.out j (by omega)), Hg.out.trans (by (repeat (first | exact Grew.refl _ | refine Grew.over ?_ _ | refine Grew.alloc ?_ _ | refine Grew.drew ?_ | refine Grew.drewN ?_ _))), Grew.cellEq (show Grew wr _ by (repeat (first | exact Grew.refl _ | refine Grew.over ?_ _ | refine Grew.alloc ?_ _ | refine Grew.drew ?_ | refine Grew.drewN ?_ _))) Hc.out⟩
        case measure => simp [intOf]; omega
    · have Hno : Hid (NoOv s) := Lib.hid (fun j hj => Hall.out j (by rw [HN.out] at hj; omega))
      rcases best_or c with ⟨a, hb⟩ | hno
      · have Hb := Lib.hid hb
        clear hb
        go_wp2_with (go_at_call 39; apply Calls.mono; (with_reducible exact solve_ok (HC.out.grew (Hg.out.trans (by (repeat (first | exact Grew.refl _ | refine Grew.over ?_ _ | refine Grew.alloc ?_ _ | refine Grew.drew ?_ | refine Grew.drewN ?_ _))))) HK.out H2.out Hb.out); rintro e w2 ⟨hg2, q2, c2, rfl, hI2, hc2⟩; have HG2 := Lib.hid (Hg.out.trans (Grew.trans (by (repeat (first | exact Grew.refl _ | refine Grew.over ?_ _ | refine Grew.alloc ?_ _ | refine Grew.drew ?_ | refine Grew.drewN ?_ _))) hg2)); have HI2 := Lib.hid hI2; have Hc2 := Lib.hid hc2; clear hg2 hI2 hc2)
        go_ret3
        exact ⟨HG2.out, Or.inr (Or.inr (Or.inr ⟨Hok.out, Hno.out, a, q2, c2, Hb.out, rfl, HI2.out, Hc2.out⟩))⟩
      · have Hb := Lib.hid hno
        clear hno
        go_wp2_with (go_at_call 39; apply Calls.mono; (with_reducible exact solve_no (HC.out.grew (Hg.out.trans (by (repeat (first | exact Grew.refl _ | refine Grew.over ?_ _ | refine Grew.alloc ?_ _ | refine Grew.drew ?_ | refine Grew.drewN ?_ _))))) HK.out H2.out Hb.out); rintro e w2 ⟨rfl, hg2⟩; have HG2 := Lib.hid (Hg.out.trans (Grew.trans (by (repeat (first | exact Grew.refl _ | refine Grew.over ?_ _ | refine Grew.alloc ?_ _ | refine Grew.drew ?_ | refine Grew.drewN ?_ _))) hg2)); clear hg2)
        go_ret3
        exact ⟨HG2.out, Or.inr (Or.inr (Or.inl ⟨Hok.out, Hno.out, Hb.out, rfl⟩))⟩
end Go.Proofs.Ytdenjldadlgniaa
