/- The route of the program. -/
import Derived.Test.YtnnlhmialmhpfaaFlR
import Derived.Test.YtnnlhmialmhpfaaFlO
set_option linter.unusedSimpArgs false
set_option linter.unusedVariables false
namespace Go.Proofs.Ytnnlhmialmhpfaa
open Go.RowKit
attribute [local go_sem ↓] Go.wp_at_zero Go.wp_at_succ

/-- The vertex with demand that has been found. -/
def ToS (xs d : List Int) (far : Int) (v : Nat) (tv : Int) : Prop := (tv = -1 ∧ ∀ u, u < v → ge xs u < 0 → ge d u = far) ∨ ∃ t : Nat, tv = (t : Int) ∧ t < v ∧ ge xs t < 0 ∧ ge d t ≠ far
theorem ToS.zero (xs d : List Int) (far : Int) : ToS xs d far 0 (-1) := Or.inl ⟨rfl, fun u h => by omega⟩
theorem ToS.keep {xs d : List Int} {far : Int} {v : Nat} {tv : Int} (h : ToS xs d far v tv) (hn : 0 ≤ tv ∨ ¬ ge xs v < 0 ∨ ge d v = far) : ToS xs d far (v + 1) tv := by
  rcases h with ⟨h1, h2⟩ | ⟨t, h1, h2, h3⟩
  · refine Or.inl ⟨h1, fun u hu hx => ?_⟩
    by_cases e : u = v
    · subst e
      rcases hn with g | g | g
      · omega
      · exact absurd hx g
      · exact g
    · exact h2 u (by omega) hx
  · exact Or.inr ⟨t, h1, by omega, h3⟩
theorem ToS.here {xs d : List Int} {far : Int} {v : Nat} (h1 : ge xs v < 0) (h2 : ge d v ≠ far) : ToS xs d far (v + 1) (v : Int) := Or.inr ⟨v, rfl, by omega, h1, h2⟩
/-- No vertex with demand can be reached. -/
def NoWay (V : Nat) (far : Int) (src : Nat → Prop) (A : List Ark) (L : List (Nat × Bool)) (xs : List Int) : Prop := ∃ d, Settled far A L d ∧ (∀ v, v < V → src v → ge d v ≠ far) ∧ ∀ v, v < V → ge xs v < 0 → ge d v = far
/-- A cheapest way. -/
def WayTo (V : Nat) (far : Int) (src : Nat → Prop) (A : List Ark) (L : List (Nat × Bool)) (xs : List Int) (P : List (Nat × Bool)) : Prop :=
  ∃ d ch a t, Settled far A L d ∧ Wy V A L far d ch P a t ∧ src a ∧ t < V ∧ ge xs t < 0

set_option maxRecDepth 8000 in
set_option maxHeartbeats 16000000 in
theorem route_p (pv r : Option Addr) (nl cv V cr : Nat) (s xs : List Int) (A : List Ark) (f : List Int) (π : Nat → Int) (w : World) (hV : vN s A) (hp : Pot A f π) (hS : Stps w pv A f (resL A f A.length)) (hX : Ints w r xs) (hl : (resL A f A.length).length = nl) (hn : s.length = V) (hx : xs.length = V) :
    Calls Try.prog 30 #[.agg #[.slice pv nl cv, .func (.func 32) #[] #[]], .slice r V cr] w fun e w' => Grew w w' ∧ ((e = .returned (.slice none 0 0) ∧ NoWay V farP (fun v => 0 < ge xs v) A (resL A f A.length) xs) ∨
      ∃ g n c P, e = .returned (.slice (some ⟨g, 0, none⟩) n c) ∧ P.length = n ∧ 0 < n ∧ Owns w' w.heap.size [stRn g n c A f P] ∧ WayTo V farP (fun v => 0 < ge xs v) A (resL A f A.length) xs P) := by
  have h256 := hV.n
  have Hse := Lib.hid (fun (W : World) (hg : Grew w W) => search_p pv r nl cv V cr s xs A f π W hV hp (hS.grew hg) (hX.grew hg) hl hn hx)
  subst hl hn
  have hl4096 : (resL A f A.length).length ≤ 4096 := by have := resL_len A f A.length; have := hV.m; omega
  have HV := Lib.hid hV
  have HS := Lib.hid hS
  have HX := Lib.hid hX
  have Hx := Lib.hid hx
  obtain ⟨L, hL⟩ : ∃ L, resL A f A.length = L := ⟨_, rfl⟩
  rw [hL] at HS hl4096 Hse ⊢
  have HL := Lib.hid hL
  have Hm : Hid (∀ (t i : Nat) (b : Bool), L[t]? = some (i, b) → i < A.length) := Lib.hid (fun t i b ht => by rw [← HL.out] at ht; exact (mem_resL.1 (List.mem_of_getElem? ht)).1)
  clear hV hp hS hX hL hx
  go_enter Try.func30, Try.ntmps30
  go_upto_region 1 with fail
  obtain ⟨wz, hwz⟩ : ∃ wz, w.alloc (.cells #[.slice pv L.length cv, .func (.func 32) #[] #[]] 44) = wz := ⟨_, rfl⟩
  have x0 : wz.cell? ⟨w.heap.size, 0, none⟩ = some (.slice pv L.length cv) := by rw [← hwz]; simp [go_sem]
  have x1 : wz.cell? ⟨w.heap.size, 1, none⟩ = some (.func (.func 32) #[] #[]) := by rw [← hwz]; simp [go_sem]
  have Hgz : Hid (Grew w wz) := Lib.hid (by rw [← hwz]; (repeat (first | exact Grew.refl _ | refine Grew.over ?_ _ | refine Grew.alloc ?_ _ | refine Grew.drew ?_ | refine Grew.drewN ?_ _)))
  have hbz : w.heap.size < wz.heap.size := by rw [← hwz]; simp
  rw [hwz]
  clear hwz
  go_wp2_with (go_at_call 34; apply Calls.mono; (with_reducible exact Hse.out _ Hgz.out); rintro e w1 ⟨hg1, g6, g7, d, pr, rfl, hO1, hOut⟩; have Hg1 := Lib.hid hg1; have HO1 := Lib.hid hO1; have HOut := Lib.hid hOut; clear hg1 hO1 hOut)
  obtain ⟨ch, hSe, hSt⟩ := HOut.out
  have HSe := Lib.hid hSe
  have HSt := Lib.hid hSt
  have Hlo : Hid (∀ v, v < s.length → ge d v = farP ∨ ge d v ≤ 256000) := Lib.hid (fun v hv => by
    by_cases e : ge d v = farP
    · exact Or.inl e
    · exact Or.inr (by have := hSe.bf.bound hv e; omega))
  clear hSe hSt HOut
  have Hgw1 := Lib.hid (Hgz.out.trans Hg1.out)
  go_loopw [7, 20] (fun v7 v20 wr => ∃ (v : Nat) (tv : Int), v ≤ s.length ∧ v20 = .int .i64 v ∧ v7 = .int .i64 tv ∧ ToS xs d farP v tv ∧ Grew w1 wr) (fun _ v20 _ => s.length - (intOf v20).toNat)
  case atStart => exact ⟨0, -1, Nat.zero_le _, rfl, rfl, ToS.zero _ _ _, Grew.refl _⟩
  case round =>
    obtain ⟨v, tv, hv, rfl, rfl, hT, hg⟩ := hrel
    have HT := Lib.hid hT
    have Hg := Lib.hid hg
    clear hT hg
    by_cases hlt : v < s.length
    · obtain ⟨bx, ox, hx3, hx4⟩ := (HX.out.grew (Hgw1.out.trans Hg.out)).open
      obtain ⟨rfl, hbx⟩ := hx3 (by have := Hx.out; omega)
      have cx := hx4 v (by have := Hx.out; omega)
      have e6 := own_atI (HO1.out.grew Hg.out) (j := 0) rfl (i := v) hlt
      have b6 := own_lt (HO1.out.grew Hg.out) (j := 0) rfl
      have hlo := Hlo.out v hlt
      have HTk := Lib.hid (fun h => HT.out.keep h)
      have HTh := Lib.hid (fun (h1 : ge xs v < 0) (h2 : ge d v ≠ farP) => (ToS.here h1 h2 : ToS xs d farP (v + 1) v))
      obtain ⟨xv, hxv⟩ : ∃ x, ge xs v = x := ⟨_, rfl⟩
      obtain ⟨dv, hdv⟩ : ∃ x, ge d v = x := ⟨_, rfl⟩
      rw [hxv] at cx HTk HTh
      rw [hdv] at e6 hlo HTk HTh
      clear hx3 hx4 hxv hdv
      go_upto_region 6 with fail
      by_cases hx0 : xv < 0
      · by_cases hd0 : dv < 1152921504606846976
        · have hdf : dv ≠ farP := fun e => by rw [e] at hd0; exact absurd hd0 (by decide)
          rcases HT.out with ⟨rfl, _⟩ | ⟨t, rfl, htv, _, _⟩
          · have HT2 := Lib.hid (HTh.out hx0 hdf)
            refine wp_region_over (by kernel_rfl) (by kernel_rfl) ?_; (repeat (go_big_quiet_step (fail))); refine wpQuiet_nil ?_; intro w4 hW; replace hW : Grew _ w4 := hW
            have Hg4 := Lib.hid (Hg.out.trans hW)
            clear hW
            go_wp2
            go_roundw
            case rel => exact ⟨v + 1, v, by omega, by go_num, rfl, HT2.out, Hg4.out⟩
            case measure => simp [intOf]; omega
          · have et := own_atI (HO1.out.grew Hg.out) (j := 0) rfl (i := t) (by omega)
            obtain ⟨dt, hdt⟩ : ∃ x, ge d t = x := ⟨_, rfl⟩
            rw [hdt] at et
            clear hdt
            have htl : t < s.length := by omega
            have ht0 : ¬ (t : Int) < 0 := by omega
            by_cases hdd : dv < dt
            · have HT2 := Lib.hid (HTh.out hx0 hdf)
              refine wp_region_over (by kernel_rfl) (by kernel_rfl) ?_; (repeat (go_big_quiet_step (fail))); refine wpQuiet_nil ?_; intro w4 hW; replace hW : Grew _ w4 := hW
              have Hg4 := Lib.hid (Hg.out.trans hW)
              clear hW
              go_wp2
              go_roundw
              case rel => exact ⟨v + 1, v, by omega, by go_num, rfl, HT2.out, Hg4.out⟩
              case measure => simp [intOf]; omega
            · have HT2 := Lib.hid (HTk.out (Or.inl (by omega)))
              refine wp_region_over (by kernel_rfl) (by kernel_rfl) ?_; (repeat (go_big_quiet_step (fail))); refine wpQuiet_nil ?_; intro w4 hW; replace hW : Grew _ w4 := hW
              have Hg4 := Lib.hid (Hg.out.trans hW)
              clear hW
              go_wp2
              go_roundw
              case rel => exact ⟨v + 1, t, by omega, by go_num, rfl, HT2.out, Hg4.out⟩
              case measure => simp [intOf]; omega
        · have HT2 := Lib.hid (HTk.out (Or.inr (Or.inr (by rcases hlo with g | g; exact g; omega))))
          refine wp_region_over (by kernel_rfl) (by kernel_rfl) ?_; (repeat (go_big_quiet_step (fail))); refine wpQuiet_nil ?_; intro w4 hW; replace hW : Grew _ w4 := hW
          have Hg4 := Lib.hid (Hg.out.trans hW)
          clear hW
          go_wp2
          go_roundw
          case rel => exact ⟨v + 1, tv, by omega, by go_num, rfl, HT2.out, Hg4.out⟩
          case measure => simp [intOf]; omega
      · have HT2 := Lib.hid (HTk.out (Or.inr (Or.inl hx0)))
        refine wp_region_over (by kernel_rfl) (by kernel_rfl) ?_; (repeat (go_big_quiet_step (fail))); refine wpQuiet_nil ?_; intro w4 hW; replace hW : Grew _ w4 := hW
        have Hg4 := Lib.hid (Hg.out.trans hW)
        clear hW
        go_wp2
        go_roundw
        case rel => exact ⟨v + 1, tv, by omega, by go_num, rfl, HT2.out, Hg4.out⟩
        case measure => simp [intOf]; omega
    · have hve : v = s.length := by omega
      subst hve
      rcases HT.out with ⟨rfl, hno⟩ | ⟨t, rfl, htv, hxt, hdt⟩
      · have Hno : Hid (NoWay s.length farP (fun v => 0 < ge xs v) A L xs) := Lib.hid ⟨d, HSt.out, HSe.out.srcf, hno⟩
        go_wp2
        go_ret
        exact ⟨Hgw1.out.trans (Hg.out.trans (by (repeat (first | exact Grew.refl _ | refine Grew.over ?_ _ | refine Grew.alloc ?_ _ | refine Grew.drew ?_ | refine Grew.drewN ?_ _)))), Or.inl ⟨rfl, Hno.out⟩⟩
      · have HW0 : Hid (Wy s.length A L farP d ch [] t t) := Lib.hid (Wy.nil htv)
        obtain ⟨Bb, hBb⟩ : ∃ Bb, w1.heap.size = Bb := ⟨_, rfl⟩
        have hbB : w.heap.size < Bb := by have := Nat.lt_of_lt_of_le hbz Hg1.out.below.size; omega
        have h6B : g6 < Bb := by have := own_lt HO1.out (j := 0) rfl; omega
        have h7B : g7 < Bb := by have := own_lt HO1.out (j := 1) rfl; omega
        have Hxt := Lib.hid hxt
        have Hdt := Lib.hid hdt
        have HBb := Lib.hid hBb
        have ht0 : ¬ (t : Int) < 0 := by omega
        clear hBb hxt hdt HT
        go_wp2
        go_loopg [10, 11] (ch t).length (fun gk v10 v11 wk => ∃ (P : List (Nat × Bool)) (v : Nat) (pl : Option Addr) (cl : Nat), v11 = .int .i64 (v : Int) ∧ v10 = .slice pl P.length cl ∧ Wy s.length A L farP d ch P v t ∧ ge d v ≠ farP ∧ (ch v).length = gk ∧ Owns wk Bb [⟨.slice pl P.length cl, 54, 6, P.length, stVs A f P.reverse⟩] ∧ Grew w1 wk)
        case atStart => exact ⟨[], t, none, 0, rfl, rfl, HW0.out, Hdt.out, rfl, (Owns.nil _ Bb).none _ _, Hg.out⟩
        case round =>
          clear Hg HW0
          obtain ⟨P, v, pl, cl, rfl, rfl, hW, hdv, hgk, hO, hg⟩ := hrel
          have HW := Lib.hid hW
          have Hdv := Lib.hid hdv
          have HO := Lib.hid hO
          have Hg := Lib.hid hg
          have hvV := hW.vs
          have hPl := hW.len
          clear hO hg hdv
          have e7 := own_atI (HO1.out.grew Hg.out) (j := 1) rfl (i := v) hvV
          have hsw : Bb ≤ wr.heap.size := by have := Hg.out.below.size; rw [HBb.out] at this; exact this
          by_cases hpr : ge pr v = -1
          · have hsrc := HSe.out.root v hvV Hdv.out hpr
            have h0 : 0 < P.length := by
              cases P with
              | nil =>
                have e : v = t := hW.way
                rw [e] at hsrc
                have := Hxt.out
                omega
              | cons x P => simp
            obtain ⟨g, c', eg, hBg, _⟩ := HO.out.some (k := 0) rfl h0
            simp only [Value.slice.injEq] at eg
            obtain ⟨rfl, _, rfl⟩ := eg
            have Hwt : Hid (WayTo s.length farP (fun v => 0 < ge xs v) A L xs P) := Lib.hid ⟨d, ch, v, t, HSt.out, HW.out, hsrc, htv, Hxt.out⟩
            have Hrv := Lib.hid (fun (W : World) (hg : Grew wr W) => reverse_s g P.length cl Bb A f P.reverse W w1 (HO.out.grew hg) List.length_reverse (by omega) h0 (by rw [HBb.out]; exact Nat.le_refl _) (Hg.out.trans hg))
            rw [hpr] at e7
            go_wp2_with (go_at_call 35; apply Calls.mono; (with_reducible exact Hrv.out _ (by (repeat (first | exact Grew.refl _ | refine Grew.over ?_ _ | refine Grew.alloc ?_ _ | refine Grew.drew ?_ | refine Grew.drewN ?_ _)))); rintro e w8 ⟨rfl, hg8, hO8⟩; have Hg8 := Lib.hid hg8; have HO8 := Lib.hid hO8; clear hg8 hO8)
            go_ret
            refine ⟨Hgw1.out.trans (Hg8.out.trans (by (repeat (first | exact Grew.refl _ | refine Grew.over ?_ _ | refine Grew.alloc ?_ _ | refine Grew.drew ?_ | refine Grew.drewN ?_ _)))), Or.inr ⟨g, P.length, cl, P, rfl, rfl, h0, ?_, Hwt.out⟩⟩
            have h := HO8.out
            rw [List.reverse_reverse] at h
            exact (h.grew (by (repeat (first | exact Grew.refl _ | refine Grew.over ?_ _ | refine Grew.alloc ?_ _ | refine Grew.drew ?_ | refine Grew.drewN ?_ _)))).base (Nat.le_of_lt hbB)
          · obtain ⟨j, i, b, hprj, hjL, hW2, hch2, hdv2⟩ := HSe.out.back HSt.out HW.out hpr (fun i b hm => by
              obtain ⟨t', ht'⟩ := List.getElem?_of_mem hm
              exact sF_lt HV.out (Hm.out t' i b ht') b)
            have HW2 := Lib.hid hW2
            have Hdv2 := Lib.hid hdv2
            have hjl : j < L.length := (List.getElem?_eq_some_iff.1 hjL).1
            have hi := Hm.out j i b hjL
            have hPl2 := hW2.len
            obtain ⟨gS, g1, g2⟩ := HS.out
            obtain ⟨rfl, hgS⟩ := g1 (by omega)
            obtain ⟨c0, c1, c2, c3, c4, c5⟩ := g2 j i b hjL
            have hgr := Hgw1.out.trans Hg.out
            replace c0 := hgr.cellEq c0
            replace c1 := hgr.cellEq c1
            replace c2 := hgr.cellEq c2
            replace c3 := hgr.cellEq c3
            replace c4 := hgr.cellEq c4
            replace c5 := hgr.cellEq c5
            have x0w := (Hg1.out.trans Hg.out).cellEq x0
            rw [hprj] at e7
            have hu := sF_lt HV.out hi b
            have Hvs : Hid (stVs A f ((i, b) :: P).reverse = stVs A f P.reverse ++ [.int .i64 (sF A i b : Int), .int .i64 (sT A i b : Int), .int .i64 (cst A i), .int .i64 (sR A f i b), .int .i64 (i : Int), .bool b]) := Lib.hid (by rw [List.reverse_cons, stVs_app]; show _ ++ (st1 A f i b ++ []) = _; rw [List.append_nil]; rfl)
            obtain ⟨u, eu⟩ : ∃ u, sF A i b = u := ⟨_, rfl⟩
            obtain ⟨v2, ev⟩ : ∃ v, sT A i b = v := ⟨_, rfl⟩
            obtain ⟨co, eco⟩ : ∃ x, cst A i = x := ⟨_, rfl⟩
            obtain ⟨ro, ero⟩ : ∃ x, sR A f i b = x := ⟨_, rfl⟩
            rw [eu] at c0 hu HW2 Hdv2 hch2
            rw [ev] at c1
            rw [eco] at c2
            rw [ero] at c3
            rw [eu, ev, eco, ero] at Hvs
            clear g1 g2 hgr hpr hprj hjL hW2 hdv2 hW ev eco ero eu
            go_upto_region 15 with fail
            refine wp_region_T (s := 11) (S := fun w' => w'.cell? ⟨w.heap.size, 0, none⟩ = some (.slice (some ⟨gS, 0, none⟩) L.length cv) ∧ w'.cell? ⟨g7, v, none⟩ = some (.int .i64 (j : Int)) ∧ w'.cell? ⟨gS, j * 6, none⟩ = some (.int .i64 (u : Int)) ∧ w'.cell? ⟨gS, j * 6 + 1, none⟩ = some (.int .i64 (v2 : Int)) ∧ w'.cell? ⟨gS, j * 6 + 2, none⟩ = some (.int .i64 co) ∧ w'.cell? ⟨gS, j * 6 + 3, none⟩ = some (.int .i64 ro) ∧ w'.cell? ⟨gS, j * 6 + 4, none⟩ = some (.int .i64 (i : Int)) ∧ w'.cell? ⟨gS, j * 6 + 5, none⟩ = some (.bool b)) (by kernel_rfl) ⟨x0w, e7, c0, c1, c2, c3, c4, c5⟩ (fun hH => ?_)
            refine wpAnyT_takeL (i := 0) (v := ?_) rfl (by kernel_rfl) (by kernel_rfl) (by kernel_rfl) (by kernel_rfl) (fun _ _ _ h => h) (Or.inl ⟨by rfl, ?_⟩) (by assumption) ?_
            rotate_left
            · (intro w hSw; (try dsimp only at hSw); go_simp; (try with_reducible rfl))
            (try simp only [Act.put, List.setIfInBounds_toArray, List.set_cons_zero, List.set_cons_succ])
            refine wpAnyT_takeL (i := 1) (v := ?_) rfl (by kernel_rfl) (by kernel_rfl) (by kernel_rfl) (by kernel_rfl) (fun _ _ _ h => h) (Or.inl ⟨by rfl, ?_⟩) (by assumption) ?_
            rotate_left
            · (intro w hSw; (try dsimp only at hSw); go_simp; (try with_reducible rfl))
            (try simp only [Act.put, List.setIfInBounds_toArray, List.set_cons_zero, List.set_cons_succ])
            refine wpAnyT_takeL (i := 2) (v := ?_) rfl (by kernel_rfl) (by kernel_rfl) (by kernel_rfl) (by kernel_rfl) (fun _ _ _ h => h) (Or.inl ⟨by rfl, ?_⟩) (by assumption) ?_
            rotate_left
            · (intro w hSw; (try dsimp only at hSw); go_simp; (try with_reducible rfl))
            (try simp only [Act.put, List.setIfInBounds_toArray, List.set_cons_zero, List.set_cons_succ])
            refine wpAnyT_takeL (i := 3) (v := ?_) rfl (by kernel_rfl) (by kernel_rfl) (by kernel_rfl) (by kernel_rfl) (fun _ _ _ h => h) (Or.inl ⟨by rfl, ?_⟩) (by assumption) ?_
            rotate_left
            · (intro w hSw; (try dsimp only at hSw); go_simp; (try with_reducible rfl))
            (try simp only [Act.put, List.setIfInBounds_toArray, List.set_cons_zero, List.set_cons_succ])
            refine wpAnyT_takeL (i := 4) (v := ?_) rfl (by kernel_rfl) (by kernel_rfl) (by kernel_rfl) (by kernel_rfl) (fun _ _ _ h => h) (Or.inl ⟨by rfl, ?_⟩) (by assumption) ?_
            rotate_left
            · (intro w hSw; (try dsimp only at hSw); go_simp; (try with_reducible rfl))
            (try simp only [Act.put, List.setIfInBounds_toArray, List.set_cons_zero, List.set_cons_succ])
            refine wpAnyT_takeL (i := 5) (v := ?_) rfl (by kernel_rfl) (by kernel_rfl) (by kernel_rfl) (by kernel_rfl) (fun _ _ _ h => h) (Or.inl ⟨by rfl, ?_⟩) (by assumption) ?_
            rotate_left
            · (intro w hSw; (try dsimp only at hSw); go_simp; (try with_reducible rfl))
            (try simp only [Act.put, List.setIfInBounds_toArray, List.set_cons_zero, List.set_cons_succ])
            refine wpAnyT_takeL (i := 6) (v := ?_) rfl (by kernel_rfl) (by kernel_rfl) (by kernel_rfl) (by kernel_rfl) (fun _ _ _ h => h) (Or.inl ⟨by rfl, ?_⟩) (by assumption) ?_
            rotate_left
            · (intro w hSw; (try dsimp only at hSw); go_simp; (try with_reducible rfl))
            (try simp only [Act.put, List.setIfInBounds_toArray, List.set_cons_zero, List.set_cons_succ])
            refine wpAnyT_takeL (i := 7) (v := ?_) rfl (by kernel_rfl) (by kernel_rfl) (by kernel_rfl) (by kernel_rfl) (fun _ _ _ h => h) (Or.inl ⟨by rfl, ?_⟩) (by assumption) ?_
            rotate_left
            · (intro w hSw; (try dsimp only at hSw); go_simp; (try with_reducible rfl))
            (try simp only [Act.put, List.setIfInBounds_toArray, List.set_cons_zero, List.set_cons_succ])
            refine wpAnyT_takeL (i := 8) (v := ?_) rfl (by kernel_rfl) (by kernel_rfl) (by kernel_rfl) (by kernel_rfl) (fun _ _ _ h => h) (Or.inl ⟨by rfl, ?_⟩) (by assumption) ?_
            rotate_left
            · (intro w hSw; (try dsimp only at hSw); go_simp; (try with_reducible rfl))
            (try simp only [Act.put, List.setIfInBounds_toArray, List.set_cons_zero, List.set_cons_succ])
            refine wpAnyT_all (rs := [9]) (by kernel_rfl) (by simp) (AllT.consL (i := 9) rfl (fun K hK => ?_) AllT.nil)
            go_simp
            refine hK.out _ _ ?_ (fun hH => ?_)
            · (first | (simp [go_sem, ↓IntWalk.iteOmega, *]; done) | go_keep)
            clear hK K
            (try simp only [Act.put, List.setIfInBounds_toArray, List.set_cons_zero, List.set_cons_succ])
            refine wpAnyT_all (rs := [10]) (by kernel_rfl) (by simp) (AllT.consL (i := 10) rfl (fun K hK => ?_) AllT.nil)
            refine step_append_owns rfl _ _ 41 (by rfl) 54 6 48 (.agg #[.int .i64 0, .int .i64 0, .int .i64 0, .int .i64 0, .int .i64 0, .bool false]) Try.underlying41 Try.infoStep rfl (by decide) Bb _ 0 _ _ _ (HO.out.grew (by (repeat (first | exact Grew.refl _ | refine Grew.over ?_ _ | refine Grew.alloc ?_ _ | refine Grew.drew ?_ | refine Grew.drewN ?_ _)))) rfl (by rfl) _ 1 1 (by rfl) [.int .i64 (u : Int), .int .i64 (v2 : Int), .int .i64 co, .int .i64 ro, .int .i64 (i : Int), .bool b] rfl (fun h => by cases h) (six_news (by (simp [go_sem, ↓IntWalk.iteOmega])) (by (simp [go_sem, ↓IntWalk.iteOmega])) (by (simp [go_sem, ↓IntWalk.iteOmega])) (by (simp [go_sem, ↓IntWalk.iteOmega])) (by (simp [go_sem, ↓IntWalk.iteOmega])) (by (simp [go_sem, ↓IntWalk.iteOmega]))) (by simp [Value.oneCell']) (by simp only [maxLen]; omega) (by omega) (by first | rfl | omega | (simp <;> omega)) ?_
            intro v1 w6 hO1 hg1 hb1 _
            obtain ⟨p1, c1', rfl⟩ := own_form hO1 (k := 0) rfl
            have hold : ∀ (b i : Nat) x, b < Bb → wr.cell? ⟨b, i, none⟩ = some x → w6.cell? ⟨b, i, none⟩ = some x := fun b i x hb h => by
              rw [grownBy_cell hg1 i (by simp; omega) (fun g hg e => by have := hb1 g hg; omega)]
              exact Grew.cellEq (by (repeat (first | exact Grew.refl _ | refine Grew.over ?_ _ | refine Grew.alloc ?_ _ | refine Grew.drew ?_ | refine Grew.drewN ?_ _))) h
            have q1 := hold _ _ _ (by omega) x0w
            have q2 := hold _ _ _ (by omega) e7
            have q3 := hold _ _ _ (by omega) c0
            have q4 := hold _ _ _ (by omega) c1
            have q5 := hold _ _ _ (by omega) c2
            have q6 := hold _ _ _ (by omega) c3
            have q7 := hold _ _ _ (by omega) c4
            have q8 := hold _ _ _ (by omega) c5
            refine hK.out _ _ ⟨q1, q2, q3, q4, q5, q6, q7, q8⟩ (fun hH => ?_)
            clear hK K
            (try simp only [Act.put, List.setIfInBounds_toArray, List.set_cons_zero, List.set_cons_succ])
            have Hg6 := Lib.hid (Grew.grownBy (w0 := w1) (Hg.out.trans (by (repeat (first | exact Grew.refl _ | refine Grew.over ?_ _ | refine Grew.alloc ?_ _ | refine Grew.drew ?_ | refine Grew.drewN ?_ _)))) hg1 (fun k hk => by have := hb1 k hk; have := HBb.out; omega))
            have HO6 := Lib.hid hO1
            clear hO1 hg1 hb1 hold x0w e7 c0 c1 c2 c3 c4 c5
            refine wpAnyT_all (rs := [11]) (by kernel_rfl) (by simp) (AllT.lastL rfl (fun K hK => ?_))
            go_simp
            refine hK.out _ _ ?_
            clear hK K
            (try simp only [Act.put, List.setIfInBounds_toArray, List.set_cons_zero, List.set_cons_succ])
            refine wpAnyT_done (by kernel_rfl) ?_ _
            have hs6 : Bb ≤ w6.heap.size := by have := Hg6.out.below.size; rw [HBb.out] at this; exact this
            have b1 : w.heap.size < w6.heap.size := by omega
            have b2 : g7 < w6.heap.size := by omega
            have b3 : gS < w6.heap.size := by omega
            have HlA : Hid (P.reverse.length = P.length) := Lib.hid List.length_reverse
            clear q4 q5 q6 q7 q8
            go_upto_region 14 with fail
            refine wp_region_over (by kernel_rfl) (by kernel_rfl) ?_; (repeat (go_big_quiet_step (fail))); refine wpQuiet_nil ?_; intro w7 hW; replace hW : Grew _ w7 := hW
            have Hg7 := Lib.hid (Hg6.out.trans hW)
            have HO7 := Lib.hid (HO6.out.grew hW)
            clear hW
            go_wp2
            go_roundg (ch u).length
            case rel =>
              refine ⟨(i, b) :: P, u, p1, c1', rfl, by rw [List.length_cons], HW2.out, Hdv2.out, rfl, ?_, Hg7.out⟩
              have h := HO7.out
              rw [List.length_cons, Hvs.out]
              exact h
            case measure => omega
end Go.Proofs.Ytnnlhmialmhpfaa
