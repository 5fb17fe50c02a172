/- Contracts of the small functions: Valid, Depths, Same, Children, Left, below. -/
import Derived.Test.YtgodoeefgmfpfaaTidyM
import Derived.Test.YtgodoeefgmfpfaaLex
import Derived.Test.YtgodoeefgmfpfaaTab
set_option linter.unusedSimpArgs false
set_option linter.unusedVariables false
namespace Go.Proofs.Ytgodoeefgmfpfaa
open Go.RowKit

set_option maxHeartbeats 1000000 in
theorem same_r (p q : Option Addr) (n k cp cq : Nat) (a b : List Int) (w : World) (ha : Ints w p a) (hb : Ints w q b) (hn : a.length = n) (hk : b.length = k) :
    Calls Try.prog 13 #[.slice p n cp, .slice q k cq] w fun e w' => e = .returned (.bool (decide (a = b))) ∧ Grew w w' := by
  subst hn hk
  have hma := ha.1
  have hmb := hb.1
  by_cases hl : a.length = b.length
  · obtain ⟨b1, o1, h1, c1⟩ := ha.open
    obtain ⟨b2, o2, h2, c2⟩ := hb.open
    clear ha hb
    rw [← hl] at h2 c2 hmb ⊢
    have Hl := Lib.hid hl
    clear hl
    go_enter Try.func13, Try.ntmps13
    go_wp2
    go_loopw [5] (fun i wr => ∃ j : Nat, j ≤ a.length ∧ i = .int .i64 j ∧ (∀ t, t < j → ge a t = ge b t) ∧ Grew w wr) (fun i _ => a.length - (intOf i).toNat)
    case atStart => exact ⟨0, Nat.zero_le _, rfl, (fun j hj => by omega), Grew.refl w⟩
    case round =>
      obtain ⟨j, hj, rfl, hall, x, rfl⟩ := hrel
      have Hall := Lib.hid hall
      clear hall
      by_cases hlt : j < a.length
      · obtain ⟨rfl, g1⟩ := h1 (by omega)
        obtain ⟨rfl, g2⟩ := h2 (by omega)
        have d1 := c1 j hlt
        have d2 := c2 j hlt
        clear h1 h2 c1 c2
        by_cases he : ge a j = ge b j
        · have he' : (ge a j != ge b j) = false := by simp [he]
          have He := Lib.hid he
          clear he
          go_wp2
          refine wp_region_over (by kernel_rfl) (by kernel_rfl) ?_; (repeat (go_big_quiet_step (fail))); refine wpQuiet_nil ?_; rintro _ ⟨x, rfl⟩
          go_wp2
          go_roundw
          case rel =>
            refine ⟨j + 1, by omega, by go_num, fun t ht => ?_, ?_⟩
            · by_cases h : t = j
              · rw [h]; exact He.out
              · exact Hall.out t (by omega)
            · (repeat (first | exact Grew.refl _ | refine Grew.over ?_ _ | refine Grew.alloc ?_ _ | refine Grew.drew ?_ | refine Grew.drewN ?_ _))
          case measure => simp [intOf]; omega
        · have he' : (ge a j != ge b j) = true := by simp [he]
          have He := Lib.hid he
          clear he
          go_wp2
          refine wp_region_over (by kernel_rfl) (by kernel_rfl) ?_; (repeat (go_big_quiet_step (fail))); refine wpQuiet_nil ?_; rintro _ ⟨x, rfl⟩
          go_wp2
          go_ret
          refine ⟨ret_bool ?_, ?_⟩
          · exact (decide_eq_false (fun e => He.out (by rw [e]))).symm
          · (repeat (first | exact Grew.refl _ | refine Grew.over ?_ _ | refine Grew.alloc ?_ _ | refine Grew.drew ?_ | refine Grew.drewN ?_ _))
      · have Hf : Hid (a = b) := Lib.hid (List.ext_getElem Hl.out fun i h1 h2 => by
          have := Hall.out i (by omega)
          rwa [ge_eq a h1, ge_eq b h2] at this)
        go_wp2
        go_ret
        refine ⟨ret_bool ?_, ?_⟩
        · exact (decide_eq_true Hf.out).symm
        · (repeat (first | exact Grew.refl _ | refine Grew.over ?_ _ | refine Grew.alloc ?_ _ | refine Grew.drew ?_ | refine Grew.drewN ?_ _))
  · have hne : ((a.length : Int) != (b.length : Int)) = true := by
      rw [bne_iff_ne]; omega
    have hf : decide (a = b) = false := decide_eq_false (fun e => hl (by rw [e]))
    have Hf := Lib.hid hf
    clear hf hl
    go_enter Try.func13, Try.ntmps13
    go_wp2
    go_ret
    exact ⟨ret_bool Hf.out.symm, Grew.refl w⟩


set_option maxHeartbeats 1000000 in
theorem valid_p (p : Option Addr) (n cap : Nat) (P : List Int) (w : World) (hI : Ints w p P) (hn : P.length = n) :
    Calls Try.prog 19 #[.slice p n cap] w fun e w' => e = .returned (.bool (vForB P)) ∧ w = w' := by
  subst hn
  obtain ⟨hm, _, b, o, h3, h4⟩ := hI
  by_cases h8 : P.length ≤ 64
  case neg =>
    have Hf := Lib.hid (vForB_not (P := P) (fun h => h8 h.1))
    have h8' : 64 < P.length := by omega
    clear h8
    go_enter Try.func19, Try.ntmps19
    go_wp2
    go_ret
    exact ⟨ret_bool Hf.out.symm, rfl⟩
  case pos =>
  go_enter Try.func19, Try.ntmps19
  go_wp2
  go_loop [3, 4, 10] (fun _ _ i => ∃ k : Nat, k ≤ P.length ∧ i = .int .i64 k ∧ ∀ v, v < k → -1 ≤ ge P v ∧ ge P v < (v : Int)) (fun _ _ i => P.length - (intOf i).toNat)
  case atStart => exact ⟨0, Nat.zero_le _, rfl, fun j hj => by omega⟩
  case round =>
    obtain ⟨k, hk, rfl, hall⟩ := hrel
    have Hall := Lib.hid hall
    clear hall
    by_cases hlt : k < P.length
    · obtain ⟨rfl, hb⟩ := h3 (by omega)
      have hc := h4 k hlt
      clear h3 h4
      by_cases hok : -1 ≤ ge P k ∧ ge P k < (k : Int)
      · obtain ⟨hok1, hok2⟩ := hok
        go_wp2
        go_round
        case rel =>
          refine ⟨k + 1, by omega, by go_num, fun v hv => ?_⟩
          by_cases h : v = k
          · subst h; exact ⟨hok1, hok2⟩
          · exact Hall.out v (by omega)
        case measure => simp [intOf]; omega
      · have Hf := Lib.hid (vForB_not (P := P) (fun h => hok (h.2 k hlt)))
        have hok1 : ge P k < -1 ∨ (k : Int) ≤ ge P k := by omega
        clear hok
        rcases hok1 with hok1 | hok1
        · go_wp2
          go_ret
          exact ⟨ret_bool Hf.out.symm, rfl⟩
        · have hok2 : -1 ≤ ge P k := by omega
          go_wp2
          go_ret
          exact ⟨ret_bool Hf.out.symm, rfl⟩
    · have Hf := Lib.hid (vForB_iff.2 (show vFor P from ⟨h8, fun u hu => Hall.out u (by omega)⟩))
      go_wp2
      go_ret
      exact ⟨ret_bool Hf.out.symm, rfl⟩

set_option maxHeartbeats 1000000 in
theorem valid_r (p : Option Addr) (n cap : Nat) (P : List Int) (w : World) (hI : Ints w p P) (hn : P.length = n) :
    Calls Try.prog 20 #[.slice p n cap] w fun e w' => e = .returned (.bool (vForB P)) ∧ w = w' := by
  subst hn
  obtain ⟨hm, _, b, o, h3, h4⟩ := hI
  by_cases h8 : P.length ≤ 64
  case neg =>
    have Hf := Lib.hid (vForB_not (P := P) (fun h => h8 h.1))
    have h8' : 64 < P.length := by omega
    clear h8
    go_enter Try.func20, Try.ntmps20
    go_wp2
    go_ret
    exact ⟨ret_bool Hf.out.symm, rfl⟩
  case pos =>
  go_enter Try.func20, Try.ntmps20
  go_wp2
  go_loop [3] (fun i => ∃ k : Nat, k ≤ P.length ∧ i = .int .i64 k ∧ ∀ v, v < k → -1 ≤ ge P v ∧ ge P v < (v : Int)) (fun i => P.length - (intOf i).toNat)
  case atStart => exact ⟨0, Nat.zero_le _, rfl, fun j hj => by omega⟩
  case round =>
    obtain ⟨k, hk, rfl, hall⟩ := hrel
    have Hall := Lib.hid hall
    clear hall
    by_cases hlt : k < P.length
    · obtain ⟨rfl, hb⟩ := h3 (by omega)
      have hc := h4 k hlt
      clear h3 h4
      by_cases hok : -1 ≤ ge P k ∧ ge P k < (k : Int)
      · obtain ⟨hok1, hok2⟩ := hok
        go_wp2
        go_round
        case rel =>
          refine ⟨k + 1, by omega, by go_num, fun v hv => ?_⟩
          by_cases h : v = k
          · subst h; exact ⟨hok1, hok2⟩
          · exact Hall.out v (by omega)
        case measure => simp [intOf]; omega
      · have Hf := Lib.hid (vForB_not (P := P) (fun h => hok (h.2 k hlt)))
        have hok1 : ge P k < -1 ∨ (k : Int) ≤ ge P k := by omega
        clear hok
        rcases hok1 with hok1 | hok1
        · go_wp2
          go_ret
          exact ⟨ret_bool Hf.out.symm, rfl⟩
        · have hok2 : -1 ≤ ge P k := by omega
          go_wp2
          go_ret
          exact ⟨ret_bool Hf.out.symm, rfl⟩
    · have Hf := Lib.hid (vForB_iff.2 (show vFor P from ⟨h8, fun u hu => Hall.out u (by omega)⟩))
      go_wp2
      go_ret
      exact ⟨ret_bool Hf.out.symm, rfl⟩

theorem validp_e {p : Option Addr} {n cap : Nat} {P : List Int} {w : World} {b : Bool} (h : vForB P = b) (hI : Ints w p P) (hn : P.length = n) :
    Calls Try.prog 19 #[.slice p n cap] w fun e w' => e = .returned (.bool b) ∧ w = w' := h ▸ valid_p p n cap P w hI hn
theorem validr_e {p : Option Addr} {n cap : Nat} {P : List Int} {w : World} {b : Bool} (h : vForB P = b) (hI : Ints w p P) (hn : P.length = n) :
    Calls Try.prog 20 #[.slice p n cap] w fun e w' => e = .returned (.bool b) ∧ w = w' := h ▸ valid_r p n cap P w hI hn

/-- The depths of the vertices. -/
def depI (P : List Int) : List Int := tab P.length (fun u => (dep P u : Int))
/-- What both functions return. -/
def depS (P : List Int) : List Int := if vForB P then depI P else []
def IntsPost (xs : List Int) (w : World) (e : Ending) (w' : World) : Prop := Grew w w' ∧ ∃ q cap, e = .returned (.slice q xs.length cap) ∧ Ints w' q xs ∧ xs.length ≤ cap ∧ (q = none → cap = 0)

def depK (P : List Int) (k : Nat) : List Int := tab P.length (fun u => if u < k then (dep P u : Int) else 0)
theorem depK_length (P : List Int) (k : Nat) : (depK P k).length = P.length := tab_length _ _
theorem depK_zero (P : List Int) : depK P 0 = tab P.length (fun _ => 0) := tab_congr fun u _ => by rw [if_neg (by omega)]
theorem depK_all (P : List Int) : depK P P.length = depI P := tab_congr fun u hu => by rw [if_pos hu]
theorem ge_depK (P : List Int) {k u : Nat} (hu : u < P.length) : ge (depK P k) u = if u < k then (dep P u : Int) else 0 := ge_tab _ hu
theorem depK_set (P : List Int) {k : Nat} (hk : k < P.length) : (depK P k).set k (dep P k : Int) = depK P (k + 1) := by
  unfold depK
  rw [tab_set _ _ hk]
  refine tab_congr fun u hu => ?_
  by_cases h : u = k
  · subst h; rw [if_pos rfl, if_pos (by omega)]
  · rw [if_neg h]
    by_cases h2 : u < k
    · rw [if_pos h2, if_pos (by omega)]
    · rw [if_neg h2, if_neg (by omega)]
theorem depK_root {P : List Int} {k : Nat} (h : ge P k < 0) : depK P (k + 1) = depK P k := by
  refine tab_congr fun u hu => ?_
  by_cases h2 : u < k
  · rw [if_pos h2, if_pos (by omega)]
  · rw [if_neg h2]
    by_cases e : u = k
    · subst e; rw [if_pos (by omega), dep_root h]; rfl
    · rw [if_neg (by omega)]
theorem depI_wf {P : List Int} (h : vFor P) (k : Nat) : ∀ x ∈ depK P k, -9223372036854775808 ≤ x ∧ x ≤ 9223372036854775807 := by
  intro x hx
  obtain ⟨u, hu, rfl⟩ := List.mem_map.1 hx
  have h1 := dep_le h u (List.mem_range.1 hu)
  have h2 := List.mem_range.1 hu
  have h3 := h.1
  split <;> omega

set_option maxHeartbeats 1000000 in
theorem depths_p (p : Option Addr) (n cap : Nat) (P : List Int) (w : World) (hI : Ints w p P) (hn : P.length = n) :
    Calls Try.prog 21 #[.slice p n cap] w (IntsPost (depS P) w) := by
  subst hn
  cases hv : vForB P
  case false =>
    have Hv := Lib.hid hv
    clear hv
    go_enter Try.func21, Try.ntmps21
    go_wp2_with ((go_at_call 19; apply Calls.mono; (with_reducible exact validp_e Hv.out hI rfl); rintro e w' ⟨rfl, rfl⟩))
    go_ret
    have e : depS P = [] := by unfold depS; rw [Hv.out]; rfl
    rw [e]
    exact ⟨by (repeat (first | exact Grew.refl _ | refine Grew.over ?_ _ | refine Grew.alloc ?_ _ | refine Grew.drew ?_ | refine Grew.drewN ?_ _)), none, 0, rfl, Ints.nil _ _, Nat.le_refl _, fun _ => rfl⟩
  case true =>
  have Hv := Lib.hid hv
  have HV := Lib.hid (vForB_iff.1 hv)
  have h64 := HV.out.1
  clear hv
  have HI := Lib.hid hI
  go_enter Try.func21, Try.ntmps21
  go_wp2_with (first
    | (go_at_call 19; apply Calls.mono; (with_reducible exact validp_e Hv.out hI rfl); rintro e w' ⟨rfl, rfl⟩)
    | (refine wp_make_owns rfl _ _ 22 rfl 3 8 (.int .i64 0) Try.underlying22 Try.infoInt rfl .i64 .i64 _ _ P.length rfl rfl rfl rfl (by omega) (by simp only [maxLen]; omega) w.heap.size [] (Owns.nil _ _) (Nat.le_refl _) ?_; intro w1 hO hg1 hs1; have HO := Lib.hid hO; have Hg1 := Lib.hid hg1; clear hO hg1))
  go_loopw [4, 5, 14] (fun _ _ i wr => ∃ k : Nat, k ≤ P.length ∧ i = .int .i64 k ∧ Grew w wr ∧ Owns wr w.heap.size [⟨.slice (some ⟨w.heap.size, 0, none⟩) P.length P.length, 3, 1, P.length, intVs (depK P k)⟩]) (fun _ _ i _ => P.length - (intOf i).toNat)
  case atStart => exact ⟨0, Nat.zero_le _, rfl, Hg1.out, by rw [depK_zero, ← intVs_rep]; exact HO.out⟩
  case round =>
    clear HO Hg1 hs1
    obtain ⟨k, hk, rfl, hg, hO⟩ := hrel
    have HO := Lib.hid hO
    have Hg := Lib.hid hg
    clear hO hg
    by_cases hlt : k < P.length
    · obtain ⟨b, o, h3, h4⟩ := (HI.out.grew Hg.out).open
      obtain ⟨rfl, hb⟩ := h3 (by omega)
      have hc := h4 k hlt
      obtain ⟨g, cp, e1, hB, hgs, _, _, hfz, hcell⟩ := HO.out.some (k := 0) rfl (by omega)
      cases e1
      have hb2 := HV.out.2 k hlt
      obtain ⟨hb3, hb4⟩ := hb2
      clear h3 h4
      by_cases h0 : ge P k < 0
      · have Hd := Lib.hid (depK_root h0)
        clear hcell hfz
        go_wp2
        go_roundw
        case rel => exact ⟨k + 1, by omega, by go_num, Hg.out, by rw [Hd.out]; exact HO.out⟩
        case measure => simp [intOf]; omega
      · obtain ⟨q, hq⟩ := Int.eq_ofNat_of_zero_le (by omega : 0 ≤ ge P k)
        have hqk : q < k := by omega
        have d1 := hcell q _ (intVs_get _ (by rw [depK_length]; omega))
        have d2 := hcell k _ (intVs_get _ (by rw [depK_length]; omega))
        rw [ge_depK P (by omega), if_pos hqk] at d1
        have hf := hfz k
        have hdl := dep_le HV.out q (by omega)
        have Hd : Hid (((dep P q : Nat) : Int) + 1 = ((dep P k : Nat) : Int)) := Lib.hid (by rw [dep_kid HV.out hlt hq]; omega)
        rw [hq] at hc
        clear hcell hfz hq h0 hb3 hb4
        go_wp2
        go_roundw
        case rel =>
          refine ⟨k + 1, by omega, by go_num, ?_, ?_⟩
          · exact HO.out.setGrew (Nat.le_refl _) Hg.out (k := 0) rfl _ _
          · have := HO.out.set (k := 0) rfl k (.int .i64 ((dep P q : Int) + 1))
            rw [Hd.out, intVs_set, depK_set P hlt] at this
            rw [Hd.out]
            exact this
        case measure => simp [intOf]; omega
    · have hkn : k = P.length := by omega
      subst hkn
      have HO2 := HO.out.ints (k := 0) rfl (depK_length _ _) (depI_wf HV.out _)
      obtain ⟨q, cap, e1, hI2, hcap, hnil⟩ := HO2
      cases e1
      have He : Hid (depS P = depI P) := Lib.hid (by unfold depS; rw [Hv.out]; rfl)
      go_wp2
      go_ret
      rw [He.out]
      rw [depK_all] at hI2
      exact ⟨Hg.out, some ⟨w.heap.size, 0, none⟩, P.length, by rw [show (depI P).length = P.length from tab_length _ _]; rfl, hI2, by rw [show (depI P).length = P.length from tab_length _ _]; exact hcap, hnil⟩

set_option maxHeartbeats 1000000 in
theorem depths_r (p : Option Addr) (n cap : Nat) (P : List Int) (w : World) (hI : Ints w p P) (hn : P.length = n) :
    Calls Try.prog 14 #[.slice p n cap] w (IntsPost (depS P) w) := by
  subst hn
  cases hv : vForB P
  case false =>
    have Hv := Lib.hid hv
    clear hv
    go_enter Try.func14, Try.ntmps14
    go_wp2_with ((go_at_call 20; apply Calls.mono; (with_reducible exact validr_e Hv.out hI rfl); rintro e w' ⟨rfl, rfl⟩))
    go_ret
    have e : depS P = [] := by unfold depS; rw [Hv.out]; rfl
    rw [e]
    exact ⟨by (repeat (first | exact Grew.refl _ | refine Grew.over ?_ _ | refine Grew.alloc ?_ _ | refine Grew.drew ?_ | refine Grew.drewN ?_ _)), none, 0, rfl, Ints.nil _ _, Nat.le_refl _, fun _ => rfl⟩
  case true =>
  have Hv := Lib.hid hv
  have HV := Lib.hid (vForB_iff.1 hv)
  have h64 := HV.out.1
  clear hv
  have HI := Lib.hid hI
  go_enter Try.func14, Try.ntmps14
  go_wp2_with (first
    | (go_at_call 20; apply Calls.mono; (with_reducible exact validr_e Hv.out hI rfl); rintro e w' ⟨rfl, rfl⟩)
    | (refine wp_make_owns rfl _ _ 22 rfl 3 8 (.int .i64 0) Try.underlying22 Try.infoInt rfl .i64 .i64 _ _ P.length rfl rfl rfl rfl (by omega) (by simp only [maxLen]; omega) w.heap.size [] (Owns.nil _ _) (Nat.le_refl _) ?_; intro w1 hO hg1 hs1; have HO := Lib.hid hO; have Hg1 := Lib.hid hg1; clear hO hg1))
  go_loopw [4] (fun i wr => ∃ k : Nat, k ≤ P.length ∧ i = .int .i64 k ∧ Grew w wr ∧ Owns wr w.heap.size [⟨.slice (some ⟨w.heap.size, 0, none⟩) P.length P.length, 3, 1, P.length, intVs (depK P k)⟩]) (fun i _ => P.length - (intOf i).toNat)
  case atStart => exact ⟨0, Nat.zero_le _, rfl, Hg1.out, by rw [depK_zero, ← intVs_rep]; exact HO.out⟩
  case round =>
    clear HO Hg1 hs1
    obtain ⟨k, hk, rfl, hg, hO⟩ := hrel
    have HO := Lib.hid hO
    have Hg := Lib.hid hg
    clear hO hg
    by_cases hlt : k < P.length
    · obtain ⟨b, o, h3, h4⟩ := (HI.out.grew Hg.out).open
      obtain ⟨rfl, hb⟩ := h3 (by omega)
      have hc := h4 k hlt
      obtain ⟨g, cp, e1, hB, hgs, _, _, hfz, hcell⟩ := HO.out.some (k := 0) rfl (by omega)
      cases e1
      have hb2 := HV.out.2 k hlt
      obtain ⟨hb3, hb4⟩ := hb2
      clear h3 h4
      by_cases h0 : ge P k < 0
      · have Hd := Lib.hid (depK_root h0)
        clear hcell hfz
        go_wp2
        go_roundw
        case rel => exact ⟨k + 1, by omega, by go_num, Hg.out, by rw [Hd.out]; exact HO.out⟩
        case measure => simp [intOf]; omega
      · obtain ⟨q, hq⟩ := Int.eq_ofNat_of_zero_le (by omega : 0 ≤ ge P k)
        have hqk : q < k := by omega
        have d1 := hcell q _ (intVs_get _ (by rw [depK_length]; omega))
        have d2 := hcell k _ (intVs_get _ (by rw [depK_length]; omega))
        rw [ge_depK P (by omega), if_pos hqk] at d1
        have hf := hfz k
        have hdl := dep_le HV.out q (by omega)
        have Hd : Hid (((dep P q : Nat) : Int) + 1 = ((dep P k : Nat) : Int)) := Lib.hid (by rw [dep_kid HV.out hlt hq]; omega)
        rw [hq] at hc
        clear hcell hfz hq h0 hb3 hb4
        go_wp2
        go_roundw
        case rel =>
          refine ⟨k + 1, by omega, by go_num, ?_, ?_⟩
          · exact HO.out.setGrew (Nat.le_refl _) Hg.out (k := 0) rfl _ _
          · have := HO.out.set (k := 0) rfl k (.int .i64 ((dep P q : Int) + 1))
            rw [Hd.out, intVs_set, depK_set P hlt] at this
            rw [Hd.out]
            exact this
        case measure => simp [intOf]; omega
    · have hkn : k = P.length := by omega
      subst hkn
      have HO2 := HO.out.ints (k := 0) rfl (depK_length _ _) (depI_wf HV.out _)
      obtain ⟨q, cap, e1, hI2, hcap, hnil⟩ := HO2
      cases e1
      have He : Hid (depS P = depI P) := Lib.hid (by unfold depS; rw [Hv.out]; rfl)
      go_wp2
      go_ret
      rw [He.out]
      rw [depK_all] at hI2
      exact ⟨Hg.out, some ⟨w.heap.size, 0, none⟩, P.length, by rw [show (depI P).length = P.length from tab_length _ _]; rfl, hI2, by rw [show (depI P).length = P.length from tab_length _ _]; exact hcap, hnil⟩

/-! ### Children, Left, below -/
theorem kids_take_succ (P : List Int) (v : Int) (k : Nat) : (List.range (k + 1)).filter (fun u => ge P u == v) = (List.range k).filter (fun u => ge P u == v) ++ (if ge P k == v then [k] else []) := by
  rw [List.range_succ, List.filter_append]
  congr 1
  rw [List.filter_cons]
  split <;> simp
def intL (l : List Nat) : List Int := l.map Int.ofNat
theorem intL_length (l : List Nat) : (intL l).length = l.length := by simp [intL]
theorem ge_intL {l : List Nat} {i : Nat} (h : i < l.length) : ge (intL l) i = (l[i] : Int) := by
  rw [ge_eq _ (by rw [intL_length]; exact h)]
  simp [intL]
theorem intL_wf {l : List Nat} {n : Nat} (h : ∀ x ∈ l, x < n) (hn : n ≤ 1000000000) : ∀ x ∈ intL l, -9223372036854775808 ≤ x ∧ x ≤ 9223372036854775807 := by
  intro x hx
  obtain ⟨y, hy, rfl⟩ := List.mem_map.1 hx
  have := h y hy
  constructor
  · exact Int.le_trans (by decide) (Int.natCast_nonneg y)
  · show ((y : Nat) : Int) ≤ _
    omega

set_option maxHeartbeats 1000000 in
theorem children_r (p : Option Addr) (n cap : Nat) (P : List Int) (v : Int) (w : World) (hI : Ints w p P) (hn : P.length = n) (h64 : P.length ≤ 64) :
    Calls Try.prog 16 #[.slice p n cap, .int .i64 v] w (IntsPost (intL (kids P v)) w) := by
  subst hn
  have HI := Lib.hid hI
  go_enter Try.func16, Try.ntmps16
  go_wp2
  go_loopw [5, 6] (fun o i wr => ∃ k : Nat, k ≤ P.length ∧ i = .int .i64 k ∧ Grew w wr ∧ Owns wr w.heap.size [⟨o, 3, 1, ((List.range k).filter (fun u => ge P u == v)).length, intVs (intL ((List.range k).filter (fun u => ge P u == v)))⟩]) (fun _ i _ => P.length - (intOf i).toNat)
  case atStart => exact ⟨0, Nat.zero_le _, rfl, by (repeat (first | exact Grew.refl _ | refine Grew.over ?_ _ | refine Grew.alloc ?_ _ | refine Grew.drew ?_ | refine Grew.drewN ?_ _)), (Owns.nil _ _).none _ _⟩
  case round =>
    obtain ⟨k, hk, rfl, hg, hO⟩ := hrel
    have HO := Lib.hid hO
    have Hg := Lib.hid hg
    have hsz := hg.below.size
    clear hO hg hI
    by_cases hlt : k < P.length
    · obtain ⟨b, o, h3, h4⟩ := (HI.out.grew Hg.out).open
      obtain ⟨rfl, hb⟩ := h3 (by omega)
      have hc := h4 k hlt
      clear h3 h4
      have hlen : ((List.range k).filter (fun u => ge P u == v)).length ≤ k := by
        have := List.length_filter_le (fun u => ge P u == v) (List.range k)
        simpa using this
      by_cases he : ge P k = v
      · have he' : (ge P k == v) = true := beq_iff_eq.2 he
        have Hs := Lib.hid (kids_take_succ P v k)
        have He := Lib.hid he'
        clear he
        go_wp2_with (at_builtin; refine wp_append_owns rfl _ _ 22 rfl 3 1 8 (.int .i64 0) Try.underlying22 Try.infoInt rfl (by decide) w.heap.size _ 0 _ _ _ (HO.out.grew (by (repeat (first | exact Grew.refl _ | refine Grew.over ?_ _ | refine Grew.alloc ?_ _ | refine Grew.drew ?_ | refine Grew.drewN ?_ _)))) rfl rfl _ 1 1 rfl [.int .i64 (k : Int)] rfl (fun h => by cases h) (one_news _ (by (simp [go_sem, ↓IntWalk.iteOmega]))) (by simp [Value.oneCell']) (by simp only [maxLen]; omega) (by omega) (by first | rfl | omega | (simp <;> omega)) ?_; intro v1 w1 hO1 hg1 hb1 _; have Hg1 := Lib.hid (Grew.grownBy (w0 := w) (Hg.out.trans (by (repeat (first | exact Grew.refl _ | refine Grew.over ?_ _ | refine Grew.alloc ?_ _ | refine Grew.drew ?_ | refine Grew.drewN ?_ _)))) hg1 hb1); have HO1 := Lib.hid hO1; clear hO1 hg1 hb1)
        go_roundw
        case rel =>
          refine ⟨k + 1, by omega, by go_num, Hg1.out, ?_⟩
          rw [Hs.out, He.out, if_pos rfl]
          have := HO1.out
          rw [List.set_cons_zero] at this
          simp only [List.length_append, intL, List.map_append, intVs] at this ⊢
          exact this
        case measure => simp [intOf]; omega
      · have he' : (ge P k == v) = false := beq_eq_false_iff_ne.2 he
        have Hs := Lib.hid (kids_take_succ P v k)
        have He := Lib.hid he'
        clear he
        go_wp2
        go_roundw
        case rel =>
          refine ⟨k + 1, by omega, by go_num, Hg.out, ?_⟩
          rw [Hs.out, He.out]
          simpa using HO.out
        case measure => simp [intOf]; omega
    · have hkn : k = P.length := by omega
      subst hkn
      have hw := intL_wf (l := (List.range P.length).filter (fun u => ge P u == v)) (n := P.length) (fun x hx => by
        rw [List.mem_filter, List.mem_range] at hx; exact hx.1) (by omega)
      obtain ⟨q, cap, rfl, hI2, hcap, hnil⟩ := HO.out.ints (k := 0) rfl (intL_length _) hw
      go_wp2
      go_ret
      refine ⟨Hg.out, q, cap, ?_, hI2, ?_, hnil⟩
      · rw [intL_length]; rfl
      · rw [intL_length]; exact hcap

theorem left_r (x u : Int) (w : World) (hx : -1000000000000 ≤ x ∧ x ≤ 1000000000000) (hu : 0 ≤ u ∧ u ≤ 1048576) :
    Calls Try.prog 17 #[.int .i64 x, .int .i64 u] w fun e w' => e = .returned (.int .i64 (x - u / 2)) ∧ w = w' := by
  obtain ⟨hx1, hx2⟩ := hx
  obtain ⟨hu1, hu2⟩ := hu
  go_enter Try.func17, Try.ntmps17
  go_wp2
  go_ret
  exact ⟨ret_int (by simp), rfl⟩

end Go.Proofs.Ytgodoeefgmfpfaa
