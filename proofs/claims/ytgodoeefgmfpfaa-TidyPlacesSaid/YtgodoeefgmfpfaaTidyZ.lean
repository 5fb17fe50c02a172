/- The reference's Width, and TidyPlaces. -/
import Derived.Test.YtgodoeefgmfpfaaTidyY
set_option linter.unusedSimpArgs false
set_option linter.unusedVariables false
namespace Go.Proofs.Ytgodoeefgmfpfaa
open Go.RowKit
attribute [local go_sem ↓] Go.wp_at_zero Go.wp_at_succ

theorem exists_max {α : Type} (f : α → Int) : ∀ l : List α, l ≠ [] → ∃ q ∈ l, ∀ r ∈ l, f r ≤ f q
  | [], h => absurd rfl h
  | [a], _ => ⟨a, List.mem_singleton.2 rfl, fun r hr => by rw [List.mem_singleton.1 hr]; omega⟩
  | a :: b :: l, _ => by
    obtain ⟨q, hq, h⟩ := exists_max f (b :: l) (by simp)
    by_cases hc : f a ≤ f q
    · refine ⟨q, List.mem_cons_of_mem _ hq, fun r hr => ?_⟩
      rcases List.mem_cons.1 hr with rfl | hr
      · exact hc
      · exact h r hr
    · refine ⟨a, List.mem_cons_self, fun r hr => ?_⟩
      rcases List.mem_cons.1 hr with rfl | hr
      · omega
      · have := h r hr; omega

theorem ref_ok {P W Y : List Int} {sep m : Int} (hP : vFor P) (h0 : 0 < P.length) (hL : LeastI W (forD P W sep) (forD P W sep).length m) (hO : OutI P (forD P W sep) m (forD P W sep).length Y) : ∃ wd, PlaceOK P W sep Y wd := by
  have hne : forD P W sep ≠ [] := fun e => by have := (forD_nil hP).1 e; omega
  obtain ⟨r, hr, hmax⟩ := exists_max (rtE W) _ hne
  refine ⟨rtE W r - m, hO.1, m, fun q hq => ?_, ?_, r, hr, rfl⟩
  · obtain ⟨t, ht, hte⟩ := List.getElem_of_mem hq
    have e : (forD P W sep)[t]? = some (q.1, q.2) := by rw [List.getElem?_eq_getElem ht, hte]
    have h1 := hL.1 t ht _ _ e
    have h2 := hO.2 t ht _ _ e
    have h3 := hmax q hq
    refine ⟨by unfold lfE; exact h1, by omega, h2⟩
  · obtain ⟨t, u, x, ht, e, h⟩ := hL.2.1 (List.length_pos_iff.2 hne)
    exact ⟨(u, x), List.mem_of_getElem? e, h⟩
theorem ref_bd {P W Y : List Int} {sep m : Int} (hP : vFor P) (hW : wOK W sep) (hL : LeastI W (forD P W sep) (forD P W sep).length m) (hO : OutI P (forD P W sep) m (forD P W sep).length Y) : ∀ v, v < P.length → -400000000 ≤ ge Y v ∧ ge Y v ≤ 400000000 := by
  intro v hv
  have hsp := rowD_span (sep := sep) hP hW (par := -1) (k := P.length) (fun c _ => by omega) (fun c hc => subD_span hP hW P.length c (mem_kids.1 hc).1 (by omega)) (kids P (-1)).length (Nat.le_refl _)
  rw [List.take_length] at hsp
  have hsb := (forD_ok (W := W) (sep := sep) hP).bd hP (fun c hc => (mem_kids.1 hc).1) hW hsp
  obtain ⟨x, hx⟩ := mem_verts.1 ((forD_all (W := W) (sep := sep) hP v).2 hv)
  obtain ⟨t, ht, hte⟩ := List.getElem_of_mem hx
  have e1 := hO.2 t ht v x (by rw [List.getElem?_eq_getElem ht, hte])
  have e2 := hL.bd hW.2.2 (fun q hq => (hsb q hq).2)
  have e3 := hsb _ hx
  dsimp only at e3
  omega
/-- The greatest right end of the first v, not less than 0. -/
def MaxI (W Y : List Int) (v : Nat) (o : Int) : Prop := 0 ≤ o ∧ (∀ t, t < v → ge Y t - ge W t / 2 + ge W t ≤ o) ∧ (o = 0 ∨ ∃ t, t < v ∧ ge Y t - ge W t / 2 + ge W t = o)
theorem MaxI.step {W Y : List Int} {v : Nat} {o r o' : Int} (h : MaxI W Y v o) (hr : ge Y v - ge W v / 2 + ge W v = r) (ho : (r ≤ o ∧ o' = o) ∨ (o < r ∧ o' = r)) : MaxI W Y (v + 1) o' := by
  obtain ⟨h1, h2, h3⟩ := h
  rcases ho with ⟨hc, rfl⟩ | ⟨hc, rfl⟩
  · refine ⟨h1, fun t ht => ?_, h3.imp id fun ⟨t, ht, e⟩ => ⟨t, Nat.lt_succ_of_lt ht, e⟩⟩
    clear h3
    by_cases e : t = v
    · rw [e, hr]; exact hc
    · exact h2 t (by omega)
  · clear h3
    refine ⟨by omega, fun t ht => ?_, Or.inr ⟨v, Nat.lt_succ_self _, hr⟩⟩
    by_cases e : t = v
    · rw [e, hr]; exact Int.le_refl _
    · have := h2 t (by omega); omega
theorem MaxI.done {P W Y : List Int} {sep wd o : Int} (hP : vFor P) (hW : wOK W sep) (h : MaxI W Y P.length o) (hO : PlaceOK P W sep Y wd) : PlaceOK P W sep Y o := by
  have e : o = wd := by
    obtain ⟨l1, m, e1, _, r, hr, g1⟩ := hO
    obtain ⟨h1, h2, h3⟩ := h
    have hru := (forD_all (W := W) (sep := sep) hP r.1).1 (mem_verts.2 ⟨r.2, hr⟩)
    have a1 := e1 r hr
    have a2 := h2 _ hru
    have a3 := hW.2.2 r.1
    unfold rtE lfE at a1 g1
    rcases h3 with h3 | ⟨t, ht, h3⟩
    · omega
    · obtain ⟨x, hx⟩ := mem_verts.1 ((forD_all (W := W) (sep := sep) hP t).2 ht)
      have b1 := e1 _ hx
      unfold rtE lfE at b1
      dsimp only at b1
      omega
  rw [e]
  exact hO

section
variable {p q : Option Addr} {n k cp cq : Nat} {P W : List Int} {sep : Int} {w : World}
theorem placer_nil (hI : Ints w p P) (hJ : Ints w q W) (hn : P.length = n) (hk : W.length = k) (hb : okA P W sep = true) (h0 : P.length = 0) :
    Calls Try.prog 10 #[.slice p n cp, .slice q k cq, .int .i64 sep] w fun e w' => ∃ q' cap, e = .returned (.tuple #[.slice q' 0 cap, .int .i64 0]) ∧ Grew w w' := by
  refine (placer_good hI hJ hn hk hb).mono fun e w' ⟨hg, q', cap, Y, m, he, _⟩ => ⟨q', cap, ?_, hg⟩
  rw [h0] at he
  exact he
theorem placer_some (hI : Ints w p P) (hJ : Ints w q W) (hn : P.length = n) (hk : W.length = k) (hb : okA P W sep = true) (h0 : 0 < P.length) :
    Calls Try.prog 10 #[.slice p n cp, .slice q k cq, .int .i64 sep] w fun e w' => ∃ q' cap Y wd, e = .returned (.tuple #[.slice q' P.length cap, .int .i64 0]) ∧ Ints w' q' Y ∧ PlaceOK P W sep Y wd ∧ (∀ v, v < P.length → -400000000 ≤ ge Y v ∧ ge Y v ≤ 400000000) ∧ Grew w w' := by
  refine (placer_good hI hJ hn hk hb).mono fun e w' ⟨hg, q', cap, Y, m, he, h1, h2, h3⟩ => ?_
  obtain ⟨wd, h4⟩ := ref_ok (okA_facts hb).1 h0 h2 h3
  exact ⟨q', cap, Y, wd, he, h1, h4, ref_bd (okA_facts hb).1 (okA_facts hb).2.2.1 h2 h3, hg⟩

theorem widthr_bad (hI : Ints w p P) (hJ : Ints w q W) (hn : P.length = n) (hk : W.length = k) (hb : okA P W sep = false) :
    Calls Try.prog 12 #[.slice p n cp, .slice q k cq, .int .i64 sep] w fun e w' => e = .returned (.tuple #[.int .i64 0, .int .i64 1]) ∧ Grew w w' := by
  have H := Lib.hid (placer_bad (cp := cp) (cq := cq) hI hJ hn hk hb)
  clear hI hJ hn hk hb
  go_enter Try.func12, Try.ntmps12
  go_wp2_with (go_at_call 10; apply Calls.mono; (with_reducible exact H.out); rintro e w' ⟨rfl, x, rfl⟩)
  go_ret2
  exact ⟨rfl, by (repeat (first | exact Grew.refl _ | refine Grew.over ?_ _ | refine Grew.alloc ?_ _ | refine Grew.drew ?_ | refine Grew.drewN ?_ _))⟩
theorem widthr_nil (hI : Ints w p P) (hJ : Ints w q W) (hn : P.length = n) (hk : W.length = k) (hb : okA P W sep = true) (h0 : P.length = 0) :
    Calls Try.prog 12 #[.slice p n cp, .slice q k cq, .int .i64 sep] w fun e w' => e = .returned (.tuple #[.int .i64 0, .int .i64 0]) ∧ Grew w w' := by
  have H := Lib.hid (placer_nil (cp := cp) (cq := cq) hI hJ hn hk hb h0)
  clear hI hJ hn hk hb h0
  go_enter Try.func12, Try.ntmps12
  go_wp2_with (go_at_call 10; apply Calls.mono; (with_reducible exact H.out); rintro e w' ⟨q', cap, rfl, x, rfl⟩)
  go_loopw [10, 11] (fun o i wr => o = .int .i64 0 ∧ i = .int .i64 0 ∧ Grew w wr) (fun _ i _ => 0)
  case atStart => exact ⟨rfl, rfl, by (repeat (first | exact Grew.refl _ | refine Grew.over ?_ _ | refine Grew.alloc ?_ _ | refine Grew.drew ?_ | refine Grew.drewN ?_ _))⟩
  case round =>
    obtain ⟨rfl, rfl, hg⟩ := hrel
    have Hg := Lib.hid hg
    clear hg
    go_wp2
    go_ret2
    exact ⟨rfl, Hg.out⟩
end

set_option maxRecDepth 8000 in
set_option maxHeartbeats 4000000 in
theorem widthr_some {p q : Option Addr} {n k cp cq : Nat} {P W : List Int} {sep : Int} {w : World} (hI : Ints w p P) (hJ : Ints w q W) (hn : P.length = n) (hk : W.length = k) (hb : okA P W sep = true) (h0 : 0 < P.length) :
    Calls Try.prog 12 #[.slice p n cp, .slice q k cq, .int .i64 sep] w fun e w' => ∃ Y wd, e = .returned (.tuple #[.int .i64 wd, .int .i64 0]) ∧ PlaceOK P W sep Y wd ∧ Grew w w' := by
  have H := Lib.hid (placer_some (cp := cp) (cq := cq) hI hJ hn hk hb h0)
  obtain ⟨hP, hWl, hW, _⟩ := okA_facts hb
  have h64 := hP.1
  obtain ⟨bW, oW, rfl, lW, cW⟩ := hJ.cells (by omega)
  have CW := Lib.hid cW
  have HP := Lib.hid hP
  have HW := Lib.hid hW
  have HWl := Lib.hid hWl
  have hkn : k = P.length := by omega
  subst hn hkn
  clear hI hJ hk hb hP hW cW hWl
  go_enter Try.func12, Try.ntmps12
  go_upto_region 4 with (go_at_call 10; apply Calls.mono; (with_reducible exact H.out); rintro e w2 ⟨q', cap, Y, wd, rfl, hY, hok, hbd, hg⟩; have HY := Lib.hid hY; have Hok := Lib.hid hok; have Hbd := Lib.hid hbd; have Hg := Lib.hid hg; clear hY hok hbd hg)
  have HYl : Hid (Y.length = P.length) := Lib.hid Hok.out.1
  obtain ⟨bY, oY, rfl, lY, cY⟩ := HY.out.cells (by rw [HYl.out]; exact h0)
  have CY := Lib.hid cY
  have hsz := Hg.out.below.size
  clear cY
  go_wp2
  go_loopw [10, 11] (fun o i wr => ∃ (v : Nat) (m : Int), v ≤ P.length ∧ i = .int .i64 v ∧ o = .int .i64 m ∧ Grew w2 wr ∧ m ≤ 1000000000 ∧ MaxI W Y v m) (fun _ i _ => P.length - (intOf i).toNat)
  case atStart => exact ⟨0, 0, Nat.zero_le _, rfl, rfl, by (repeat (first | exact Grew.refl _ | refine Grew.over ?_ _ | refine Grew.alloc ?_ _ | refine Grew.drew ?_ | refine Grew.drewN ?_ _)), by omega, Int.le_refl 0, (fun t ht => absurd ht (Nat.not_lt_zero _)), Or.inl rfl⟩
  case round =>
    obtain ⟨v, m, hv, rfl, rfl, hgr, hmb, hM⟩ := hrel
    have Hgr := Lib.hid hgr
    have HM := Lib.hid hM
    have hszr := hgr.below.size
    have hm0 := hM.1
    clear hgr hM
    by_cases hlt : v < P.length
    · have y1 := CY.out wr Hgr.out v (by rw [HYl.out]; exact hlt)
      have w1 := CW.out wr (Hg.out.trans Hgr.out) v (by rw [HWl.out]; exact hlt)
      obtain ⟨b1, b2⟩ := Hbd.out v hlt
      obtain ⟨b3, b4⟩ := HW.out.2.2 v
      have HL := Lib.hid (fun W1 : World => left_r (ge Y v) (ge W v) W1 (by omega) ⟨b3, b4⟩)
      obtain ⟨mx, hmx, hmx'⟩ : ∃ mx, (if m < ge Y v - ge W v / 2 + ge W v then ge Y v - ge W v / 2 + ge W v else m) = mx ∧ ((ge Y v - ge W v / 2 + ge W v ≤ m ∧ mx = m) ∨ (m < ge Y v - ge W v / 2 + ge W v ∧ mx = ge Y v - ge W v / 2 + ge W v)) := ⟨_, rfl, by split <;> omega⟩
      have hwr : IntKind.i64.wrap (ge Y v - ge W v / 2 + ge W v) = ge Y v - ge W v / 2 + ge W v := IntWalk.i64_in _ ⟨by omega, by omega⟩
      have Hn := Lib.hid (HM.out.step rfl hmx')
      have hmxb : mx ≤ 1000000000 := by omega
      clear hmx'
      go_wp2
      refine wp_region_over (by kernel_rfl) (by kernel_rfl) ?_; (repeat (go_big_quiet_step ((go_at_call 17; apply over_callE; with_reducible exact HL.out _)))); refine wpQuiet_nil ?_; rintro _ ⟨x, rfl⟩
      clear hmx y1 w1 hwr
      go_wp2
      go_roundw
      case rel => exact ⟨v + 1, mx, by omega, by go_num, rfl, Hgr.out.trans (by (repeat (first | exact Grew.refl _ | refine Grew.over ?_ _ | refine Grew.alloc ?_ _ | refine Grew.drew ?_ | refine Grew.drewN ?_ _))), hmxb, Hn.out⟩
      case measure => simp [intOf]; omega
    · have hve : v = P.length := by omega
      have Hfin : Hid (PlaceOK P W sep Y m) := Lib.hid (MaxI.done HP.out HW.out (by rw [← hve]; exact HM.out) Hok.out)
      clear hve
      go_wp2
      go_ret2
      exact ⟨Y, m, rfl, Hfin.out, Hg.out.trans Hgr.out⟩

section
variable {p q : Option Addr} {n k cp cq : Nat} {P W : List Int} {sep : Int} {w : World}
theorem places_long (hm1 : P.length ≤ 9223372036854775807) (hm2 : W.length ≤ 9223372036854775807) (hn : P.length = n) (hk : W.length = k) (hb : 24 < P.length ∨ 24 < W.length) :
    Calls Try.prog 3 #[.slice p n cp, .slice q k cq, .int .i64 sep] w fun e w' => e = .returned (.bool true) ∧ Grew w w' := by
  subst hn hk
  by_cases h1 : 24 < P.length
  · clear hb
    go_enter Try.func3, Try.ntmps3
    go_wp2_with (go_at_call 8; apply Calls.mono; (with_reducible exact awake_l _); rintro e w' ⟨rfl, x4, rfl⟩)
    go_ret
    exact ⟨rfl, by (repeat (first | exact Grew.refl _ | refine Grew.over ?_ _ | refine Grew.alloc ?_ _ | refine Grew.drew ?_ | refine Grew.drewN ?_ _))⟩
  · have h2 : 24 < W.length := by omega
    have h1' : P.length ≤ 24 := by omega
    clear hb h1
    go_enter Try.func3, Try.ntmps3
    go_wp2_with (go_at_call 8; apply Calls.mono; (with_reducible exact awake_l _); rintro e w' ⟨rfl, x4, rfl⟩)
    go_ret
    exact ⟨rfl, by (repeat (first | exact Grew.refl _ | refine Grew.over ?_ _ | refine Grew.alloc ?_ _ | refine Grew.drew ?_ | refine Grew.drewN ?_ _))⟩
theorem places_bad (hI : Ints w p P) (hJ : Ints w q W) (hn : P.length = n) (hk : W.length = k) (h1 : P.length ≤ 24) (h2 : W.length ≤ 24) (hb : okA P W sep = false) :
    Calls Try.prog 3 #[.slice p n cp, .slice q k cq, .int .i64 sep] w fun e w' => e = .returned (.bool true) ∧ Grew w w' := by
  have A1 := Lib.hid (pPlace_bad (cp := cp) (cq := cq) hI hJ hn hk hb)
  have A2 := Lib.hid (fun (W1 : World) (hg : Grew w W1) => placer_bad (cp := cp) (cq := cq) (hI.grew hg) (hJ.grew hg) hn hk hb)
  have A3 := Lib.hid (fun (W1 : World) (hg : Grew w W1) => pWidth_bad (cp := cp) (cq := cq) (hI.grew hg) (hJ.grew hg) hn hk hb)
  have A4 := Lib.hid (fun (W1 : World) (hg : Grew w W1) => widthr_bad (cp := cp) (cq := cq) (hI.grew hg) (hJ.grew hg) hn hk hb)
  subst hn hk
  clear hI hJ hb
  go_enter Try.func3, Try.ntmps3
  go_wp2_with (first
    | (go_at_call 9; apply Calls.mono; (with_reducible exact A1.out); rintro e w' ⟨rfl, x1, rfl⟩)
    | (go_at_call 10; apply Calls.mono; (with_reducible exact A2.out _ (by (repeat (first | exact Grew.refl _ | refine Grew.over ?_ _ | refine Grew.alloc ?_ _ | refine Grew.drew ?_ | refine Grew.drewN ?_ _)))); rintro e w' ⟨rfl, x2, rfl⟩)
    | (go_at_call 11; apply Calls.mono; (with_reducible exact A3.out _ (by (repeat (first | exact Grew.refl _ | refine Grew.over ?_ _ | refine Grew.alloc ?_ _ | refine Grew.drew ?_ | refine Grew.drewN ?_ _)))); rintro e w' ⟨rfl, x3, rfl⟩)
    | (go_at_call 12; apply Calls.mono; (with_reducible exact A4.out _ (by (repeat (first | exact Grew.refl _ | refine Grew.over ?_ _ | refine Grew.alloc ?_ _ | refine Grew.drew ?_ | refine Grew.drewN ?_ _)))); rintro e w' ⟨rfl, x5, rfl⟩)
    | (go_at_call 13; apply Calls.mono; (with_reducible exact same_e rfl (Ints.nil _ _) (Ints.nil _ _) rfl rfl); rintro e w' ⟨rfl, x6, rfl⟩)
    | (go_at_call 8; apply Calls.mono; (with_reducible exact awake_l _); rintro e w' ⟨rfl, x4, rfl⟩))
  go_ret
  exact ⟨rfl, by (repeat (first | exact Grew.refl _ | refine Grew.over ?_ _ | refine Grew.alloc ?_ _ | refine Grew.drew ?_ | refine Grew.drewN ?_ _))⟩
theorem places_nil (hI : Ints w p P) (hJ : Ints w q W) (hn : P.length = n) (hk : W.length = k) (h1 : P.length ≤ 24) (h2 : W.length ≤ 24) (hb : okA P W sep = true) (h0 : P.length = 0) :
    Calls Try.prog 3 #[.slice p n cp, .slice q k cq, .int .i64 sep] w fun e w' => e = .returned (.bool true) ∧ Grew w w' := by
  have A1 := Lib.hid (pPlace_nil (cp := cp) (cq := cq) hI hJ hn hk hb h0)
  have A2 := Lib.hid (fun (W1 : World) (hg : Grew w W1) => placer_nil (cp := cp) (cq := cq) (hI.grew hg) (hJ.grew hg) hn hk hb h0)
  have A3 := Lib.hid (fun (W1 : World) (hg : Grew w W1) => pWidth_nil (cp := cp) (cq := cq) (hI.grew hg) (hJ.grew hg) hn hk hb h0)
  have A4 := Lib.hid (fun (W1 : World) (hg : Grew w W1) => widthr_nil (cp := cp) (cq := cq) (hI.grew hg) (hJ.grew hg) hn hk hb h0)
  subst hn hk
  clear hI hJ hb h0
  go_enter Try.func3, Try.ntmps3
  go_wp2_with (first
    | (go_at_call 9; apply Calls.mono; (with_reducible exact A1.out); rintro e w' ⟨rfl, x1, rfl⟩)
    | (go_at_call 10; apply Calls.mono; (with_reducible exact A2.out _ (by (repeat (first | exact Grew.refl _ | refine Grew.over ?_ _ | refine Grew.alloc ?_ _ | refine Grew.drew ?_ | refine Grew.drewN ?_ _)))); rintro e w' ⟨q2, c2, rfl, x2, rfl⟩)
    | (go_at_call 11; apply Calls.mono; (with_reducible exact A3.out _ (by (repeat (first | exact Grew.refl _ | refine Grew.over ?_ _ | refine Grew.alloc ?_ _ | refine Grew.drew ?_ | refine Grew.drewN ?_ _)))); rintro e w' ⟨rfl, x3, rfl⟩)
    | (go_at_call 12; apply Calls.mono; (with_reducible exact A4.out _ (by (repeat (first | exact Grew.refl _ | refine Grew.over ?_ _ | refine Grew.alloc ?_ _ | refine Grew.drew ?_ | refine Grew.drewN ?_ _)))); rintro e w' ⟨rfl, x5, rfl⟩)
    | (go_at_call 13; apply Calls.mono; (with_reducible exact same_e rfl (Ints.nil _ _) (Ints.nil _ _) rfl rfl); rintro e w' ⟨rfl, x6, rfl⟩)
    | (go_at_call 8; apply Calls.mono; (with_reducible exact awake_l _); rintro e w' ⟨rfl, x4, rfl⟩))
  go_ret
  exact ⟨rfl, by (repeat (first | exact Grew.refl _ | refine Grew.over ?_ _ | refine Grew.alloc ?_ _ | refine Grew.drew ?_ | refine Grew.drewN ?_ _))⟩
theorem places_some (hI : Ints w p P) (hJ : Ints w q W) (hn : P.length = n) (hk : W.length = k) (h1 : P.length ≤ 24) (h2 : W.length ≤ 24) (hb : okA P W sep = true) (h0 : 0 < P.length) :
    Calls Try.prog 3 #[.slice p n cp, .slice q k cq, .int .i64 sep] w fun e w' => e = .returned (.bool true) ∧ Grew w w' := by
  have hP := (okA_facts hb).1
  have HP := Lib.hid hP
  have A1 := Lib.hid (pPlace_some (cp := cp) (cq := cq) hI hJ hn hk hb h0)
  have A2 := Lib.hid (fun (W1 : World) (hg : Grew w W1) => placer_some (cp := cp) (cq := cq) (hI.grew hg) (hJ.grew hg) hn hk hb h0)
  have A3 := Lib.hid (fun (W1 : World) (hg : Grew w W1) => pWidth_some (cp := cp) (cq := cq) (hI.grew hg) (hJ.grew hg) hn hk hb h0)
  have A4 := Lib.hid (fun (W1 : World) (hg : Grew w W1) => widthr_some (cp := cp) (cq := cq) (hI.grew hg) (hJ.grew hg) hn hk hb h0)
  subst hn hk
  clear hI hJ hb hP
  go_enter Try.func3, Try.ntmps3
  go_wp2_with (first
    | (go_at_call 9; apply Calls.mono; (with_reducible exact A1.out); rintro e w' ⟨q1, c1, X, wd, rfl, hX, hok, _, _, x1, rfl⟩; have HX := Lib.hid hX; have Hok := Lib.hid hok; clear hX hok)
    | (go_at_call 10; apply Calls.mono; (with_reducible exact A2.out _ (by (repeat (first | exact Grew.refl _ | refine Grew.over ?_ _ | refine Grew.alloc ?_ _ | refine Grew.drew ?_ | refine Grew.drewN ?_ _)))); rintro e w' ⟨q2, c2, Y, wd2, rfl, hY, hok2, _, x2, rfl⟩; obtain ⟨e1, e2⟩ := PlaceOK.unique HP.out Hok.out hok2; have HY := Lib.hid hY; have He1 := Lib.hid e1; have Hxl := Lib.hid Hok.out.1; have Hyl := Lib.hid hok2.1; clear hY hok2 e1 e2)
    | (go_at_call 11; apply Calls.mono; (with_reducible exact A3.out _ (by (repeat (first | exact Grew.refl _ | refine Grew.over ?_ _ | refine Grew.alloc ?_ _ | refine Grew.drew ?_ | refine Grew.drewN ?_ _)))); rintro e w' ⟨X3, wd3, rfl, hok3, x3, rfl⟩; have Hok3 := Lib.hid hok3; clear hok3)
    | (go_at_call 12; apply Calls.mono; (with_reducible exact A4.out _ (by (repeat (first | exact Grew.refl _ | refine Grew.over ?_ _ | refine Grew.alloc ?_ _ | refine Grew.drew ?_ | refine Grew.drewN ?_ _)))); rintro e w' ⟨X4, wd4, rfl, hok4, x5, rfl⟩; obtain ⟨_, e2⟩ := PlaceOK.unique HP.out Hok3.out hok4; subst e2; clear hok4)
    | (go_at_call 13; apply Calls.mono; (with_reducible exact same_e He1.out (HX.out.grew (by (repeat (first | exact Grew.refl _ | refine Grew.over ?_ _ | refine Grew.alloc ?_ _ | refine Grew.drew ?_ | refine Grew.drewN ?_ _)))) (HY.out.grew (by (repeat (first | exact Grew.refl _ | refine Grew.over ?_ _ | refine Grew.alloc ?_ _ | refine Grew.drew ?_ | refine Grew.drewN ?_ _)))) Hxl.out Hyl.out); rintro e w' ⟨rfl, x6, rfl⟩)
    | (go_at_call 8; apply Calls.mono; (with_reducible exact awake_l _); rintro e w' ⟨rfl, x4, rfl⟩))
  go_ret
  exact ⟨rfl, by (repeat (first | exact Grew.refl _ | refine Grew.over ?_ _ | refine Grew.alloc ?_ _ | refine Grew.drew ?_ | refine Grew.drewN ?_ _))⟩
theorem places_l (hI : Ints w p P) (hJ : Ints w q W) (hn : P.length = n) (hk : W.length = k) :
    Calls Try.prog 3 #[.slice p n cp, .slice q k cq, .int .i64 sep] w fun e w' => e = .returned (.bool true) ∧ Grew w w' := by
  by_cases h : 24 < P.length ∨ 24 < W.length
  · exact places_long hI.1 hJ.1 hn hk h
  · cases hb : okA P W sep
    · exact places_bad hI hJ hn hk (by omega) (by omega) hb
    · rcases Nat.eq_zero_or_pos P.length with h0 | h0
      · exact places_nil hI hJ hn hk (by omega) (by omega) hb h0
      · exact places_some hI hJ hn hk (by omega) (by omega) hb h0
end

end Go.Proofs.Ytgodoeefgmfpfaa
