/- The law BoundTight. -/
import Derived.Test.YtnodgagmnekliaaShift
set_option linter.unusedSimpArgs false
set_option linter.unusedVariables false
namespace Go.Proofs.Ytnodgagmnekliaa
open Go.RowKit

/-- The vertex at place p of an order. -/
def on (xs : List Int) (p : Nat) : Nat := (ge xs p).toNat

/-- What holds of the copy while pairs are turned: the pairs before (j, t) stand in their cheaper way. -/
def Inv (m : List (List Int)) (xs : List Int) (j t : Nat) (nm : List (List Int)) : Prop :=
  nm.length = m.length ∧ sqM nm ∧ (∀ a, a < m.length → ∀ b, b < m.length → 0 ≤ at2 nm a b ∧ at2 nm a b ≤ 1000000) ∧
  ∀ p q, p < q → q < xs.length → (p < j ∨ p = j ∧ q < t) → at2 nm (on xs p) (on xs q) ≤ at2 nm (on xs q) (on xs p)

theorem Inv.start {m : List (List Int)} (hV : vMat m) (xs : List Int) : Inv m xs 0 0 m :=
  ⟨rfl, vMat_sq hV, fun a ha b hb => (hV.2 a ha).2 b hb, fun p q hpq hq h => by omega⟩
theorem Inv.next {m nm : List (List Int)} {xs : List Int} {j t : Nat} (h : Inv m xs j t nm) (ht : xs.length ≤ t) : Inv m xs (j + 1) 0 nm :=
  ⟨h.1, h.2.1, h.2.2.1, fun p q hpq hq hc => h.2.2.2 p q hpq hq (by omega)⟩
theorem Inv.inner {m nm : List (List Int)} {xs : List Int} {j : Nat} (h : Inv m xs j 0 nm) : Inv m xs j (j + 1) nm :=
  ⟨h.1, h.2.1, h.2.2.1, fun p q hpq hq hc => h.2.2.2 p q hpq hq (by omega)⟩

theorem on_inj {m : List (List Int)} {xs : List Int} (hr : inR m.length xs) (hn : xs.Nodup) {p q : Nat} (hp : p < xs.length) (hq : q < xs.length) (h : on xs p = on xs q) : p = q := by
  unfold on at h
  have h1 := hr _ (ge_mem hp)
  have h2 := hr _ (ge_mem hq)
  rw [ge_eq xs hp] at h h1
  rw [ge_eq xs hq] at h h2
  have he : xs[p] = xs[q] := by omega
  have key := List.pairwise_iff_getElem.1 hn
  rcases Nat.lt_trichotomy p q with h3 | h3 | h3
  · exact absurd he (key p q hp hq h3)
  · exact h3
  · exact absurd he.symm (key q p hq hp h3)

theorem Inv.turn {m nm : List (List Int)} {xs : List Int} {j t : Nat} (h : Inv m xs j t nm) (hr : inR m.length xs) (hn : xs.Nodup) (hjt : j < t) (ht : t < xs.length) {x y : Int} (hx : 0 ≤ x ∧ x ≤ 1000000) (hy : 0 ≤ y ∧ y ≤ 1000000) (hxy : x ≤ y) :
    Inv m xs j (t + 1) (set2 (set2 nm (on xs j) (on xs t) x) (on xs t) (on xs j) y) := by
  obtain ⟨h1, h2, h3, h4⟩ := h
  have hol : ∀ p, p < xs.length → on xs p < m.length := fun p hp => by
    have := hr _ (ge_mem hp)
    unfold on
    omega
  have hu := hol j (by omega)
  have hv := hol t ht
  have huv : on xs j ≠ on xs t := fun e => by
    have := on_inj hr hn (by omega) ht e
    omega
  have hs1 := h2.set2 (u := on xs j) (by rw [h1]; exact hu) (on xs t) x
  have hat : ∀ a b, at2 (set2 (set2 nm (on xs j) (on xs t) x) (on xs t) (on xs j) y) a b = if a = on xs t ∧ b = on xs j then y else if a = on xs j ∧ b = on xs t then x else at2 nm a b := fun a b => by
    rw [at2_set2 _ _ (by rw [set2_length, h1]; exact hv) (by rw [rowlen_set2 nm _ _ (by rw [h1]; exact hu), h2 _ (by rw [h1]; exact hv), h1]; exact hu), at2_set2 nm _ (by rw [h1]; exact hu) (by rw [h2 _ (by rw [h1]; exact hu), h1]; exact hv)]
  refine ⟨by rw [set2_length, set2_length, h1], hs1.set2 (by rw [set2_length, h1]; exact hv) _ _, fun a ha b hb => ?_, fun p q hpq hq hc => ?_⟩
  · rw [hat]
    split
    · exact hy
    · split
      · exact hx
      · exact h3 a ha b hb
  · rw [hat, hat]
    by_cases e : p = j ∧ q = t
    · obtain ⟨rfl, rfl⟩ := e
      rw [if_neg (fun h => huv h.1), if_pos ⟨rfl, rfl⟩, if_pos ⟨rfl, rfl⟩]
      exact hxy
    · have k1 : ¬ (on xs p = on xs t ∧ on xs q = on xs j) := fun ⟨a, b⟩ => by
        have := on_inj hr hn (by omega) ht a
        have := on_inj hr hn hq (by omega) b
        omega
      have k2 : ¬ (on xs p = on xs j ∧ on xs q = on xs t) := fun ⟨a, b⟩ => by
        have := on_inj hr hn (by omega) (by omega) a
        have := on_inj hr hn hq ht b
        exact e ⟨by assumption, by assumption⟩
      rw [if_neg k1, if_neg k2, if_neg (fun h => k2 ⟨h.2, h.1⟩), if_neg (fun h => k1 ⟨h.2, h.1⟩)]
      exact h4 p q hpq hq (by omega)

/-- At the end the least cost is the sum of the cheaper ways. -/
theorem Inv.done {m nm : List (List Int)} {xs : List Int} {j : Nat} (h : Inv m xs j 0 nm) (hj : xs.length ≤ j) (hV : vMat m) (hr : inR m.length xs) (hn : xs.Nodup) (hl : xs.length = m.length) {o : List Nat} {c : Int}
    (hb : bestF nm.length (at2 nm) nm.length [] = some (o, c)) : vMat nm ∧ c = lowM nm := by
  obtain ⟨h1, h2, h3, h4⟩ := h
  have hv : vMat nm := ⟨by rw [h1]; exact hV.1, fun u hu => ⟨h2 u hu, fun v hv' => h3 u (by omega) v (by omega)⟩⟩
  refine ⟨hv, ?_⟩
  have hp : (natL xs).Perm (List.range nm.length) := by rw [h1]; exact natL_perm hr hn hl
  obtain ⟨_, _, f3, _, _⟩ := best_facts hb (vMatB_iff.2 hv)
  have hle := (bestF_least nm.length (at2 nm) nm.length [] (by rw [left_nil]; simp) _ hb (natL xs) (by rw [left_nil]; exact hp)).1
  simp only [List.nil_append] at hle
  have e : costL (at2 nm) (natL xs) = lowL (at2 nm) (natL xs) := by
    unfold lowL
    refine costL_congr (List.pairwise_iff_getElem.2 fun i k hi hk hik => ?_)
    rw [natL_length] at hi hk
    have hge : ∀ i (hi : i < (natL xs).length), (natL xs)[i] = on xs i := fun i hi => by
      have hi' : i < xs.length := by rw [natL_length] at hi; exact hi
      simp only [natL, on, List.getElem_map, ge_eq xs hi']
    rw [hge, hge]
    have := h4 i k hik hk (by omega)
    omega
  have e2 : lowL (at2 nm) (natL xs) = lowM nm := lowL_perm _ hp
  omega

theorem costS_ok' {m : List (List Int)} {xs : List Int} (h : (costS m xs).2 = 0) : vMatB m = true ∧ xs.length = m.length ∧ inR m.length xs ∧ xs.Nodup := by
  unfold costS at h
  split at h
  · cases h
  · rename_i h1
    split at h
    · cases h
    · rename_i h2
      split at h
      · cases h
      · rename_i h3
        split at h
        · cases h
        · rename_i h4
          simp only [ne_eq, Decidable.not_not, Bool.not_eq_false] at h1 h2 h3 h4
          exact ⟨h1, h2, h3, h4⟩

theorem Mat.none (w : World) (q : Option Addr) {m : List (List Int)} (h : m.length = 0) : Mat w q m :=
  ⟨by omega, 0, 0, fun _ => Option.none, fun _ => 0, fun h0 => by omega, fun u hu => by omega⟩
theorem lowr_e {p : Option Addr} {n cap : Nat} {m : List (List Int)} {w : World} {c : Int} (h : vMatB m = true) (hc : c = lowM m) (hM : Mat w p m) (hn : m.length = n) :
    Calls Try.prog 14 #[.slice p n cap] w fun e w' => e = .returned (.int .i64 c) ∧ Grew w w' := hc ▸ lowerr_e h hM hn
theorem lowp_e {p : Option Addr} {n cap : Nat} {m : List (List Int)} {w : World} {c : Int} (h : vMatB m = true) (hc : c = lowM m) (hM : Mat w p m) (hn : m.length = n) :
    Calls Try.prog 17 #[.slice p n cap] w fun e w' => e = .returned (.int .i64 c) ∧ Grew w w' := hc ▸ lower_e h hM hn

set_option maxRecDepth 8000 in
set_option maxHeartbeats 8000000 in
theorem tight_l (q p : Option Addr) (k n cq cp : Nat) (m : List (List Int)) (xs : List Int) (w : World) (hM : Mat w p m) (hx : Ints w q xs) (hn : m.length = n) (hk : xs.length = k) (hcap : k ≤ cq) :
    Calls Try.prog 6 #[.slice q k cq, .slice p n cp] w fun e w' => e = .returned (.bool true) ∧ Grew w w' := by
  subst hn hk
  have hmm := hM.1
  have hmx := hx.1
  generalize hcs : costS m xs = cs
  obtain ⟨d, g⟩ := cs
  have Hcs := Lib.hid hcs
  by_cases hg : g = 0
  case neg =>
    have hg' : (g != 0) = true := by simpa using hg
    clear hg hcs
    go_enter Try.func6, Try.ntmps6
    go_wp2_with (first
      | (go_at_call 13; apply Calls.mono; (with_reducible exact costr_e Hcs.out (hM.grew (by (repeat (first | exact Grew.refl _ | refine Grew.over ?_ _ | refine Grew.alloc ?_ _ | refine Grew.drew ?_ | refine Grew.drewN ?_ _)))) (hx.grew (by (repeat (first | exact Grew.refl _ | refine Grew.over ?_ _ | refine Grew.alloc ?_ _ | refine Grew.drew ?_ | refine Grew.drewN ?_ _)))) rfl rfl hcap); rintro e w' ⟨rfl, x, rfl⟩)
      | (go_at_call 9; apply Calls.mono; (with_reducible exact awake_l _); rintro e w' ⟨rfl, x, rfl⟩))
    go_ret
    exact ⟨rfl, by (repeat (first | exact Grew.refl _ | refine Grew.over ?_ _ | refine Grew.alloc ?_ _ | refine Grew.drew ?_ | refine Grew.drewN ?_ _))⟩
  case pos =>
  subst hg
  obtain ⟨hv, hl, hr, hnd⟩ := costS_ok' (m := m) (xs := xs) (by rw [hcs])
  have HV := Lib.hid (vMatB_iff.1 hv)
  have h8 := HV.out.1
  have Hr := Lib.hid hr
  have Hnd := Lib.hid hnd
  have Hl := Lib.hid hl
  have Hx := Lib.hid hx
  have HM := Lib.hid hM
  have hx8 : xs.length ≤ 8 := by omega
  clear hcs hv hr hnd
  by_cases hpos : 0 < m.length
  case neg =>
    have h0 : m.length = 0 := by omega
    have hx0 : xs.length = 0 := by omega
    obtain ⟨o, c, hb⟩ := best_all m
    obtain ⟨_, hlow⟩ := (Inv.start HV.out xs).done (by omega) HV.out Hr.out Hnd.out hl hb
    have Hb := Lib.hid hb
    have Hlow := Lib.hid hlow
    have Hv := Lib.hid (vMatB_iff.2 HV.out)
    have H0 := Lib.hid h0
    have Hx0 := Lib.hid hx0
    rw [hx0] at hcap ⊢
    rw [h0]
    clear hb hlow hl hx8 hmx hpos h0 hx0
    go_enter Try.func6, Try.ntmps6
    go_wp2_with (first
      | (go_at_call 13; apply Calls.mono; (with_reducible exact costr_e Hcs.out (hM.grew (by (repeat (first | exact Grew.refl _ | refine Grew.over ?_ _ | refine Grew.alloc ?_ _ | refine Grew.drew ?_ | refine Grew.drewN ?_ _)))) (hx.grew (by (repeat (first | exact Grew.refl _ | refine Grew.over ?_ _ | refine Grew.alloc ?_ _ | refine Grew.drew ?_ | refine Grew.drewN ?_ _)))) H0.out Hx0.out (Nat.zero_le _)); rintro e w' ⟨rfl, x, rfl⟩)
      | (go_at_call 16; apply Calls.mono; (with_reducible exact copied_l _ _ _ _ _ (hM.grew (by (repeat (first | exact Grew.refl _ | refine Grew.over ?_ _ | refine Grew.alloc ?_ _ | refine Grew.drew ?_ | refine Grew.drewN ?_ _)))) HV.out H0.out); rintro e w1 ⟨hg1, hpost⟩; obtain ⟨_, q1, c1, rfl⟩ := hpost.resolve_right (fun h => by have := h.1; rw [H0.out] at this; omega); obtain ⟨x1, rfl⟩ := hg1))
    go_loopw [8] (fun i wr => i = .int .i64 0 ∧ Grew w wr) (fun i _ => 0)
    case atStart => exact ⟨rfl, by (repeat (first | exact Grew.refl _ | refine Grew.over ?_ _ | refine Grew.alloc ?_ _ | refine Grew.drew ?_ | refine Grew.drewN ?_ _))⟩
    case round =>
      obtain ⟨rfl, x, rfl⟩ := hrel
      go_wp2_with (first
        | (go_at_call 10; apply Calls.mono; (with_reducible exact least_ok (Mat.none _ _ H0.out) H0.out Hv.out Hb.out); rintro e w' ⟨⟨x2, rfl⟩, q2, cap2, rfl, _, _, _⟩)
        | (go_at_call 14; apply Calls.mono; (with_reducible exact lowr_e Hv.out Hlow.out (Mat.none _ _ H0.out) H0.out); rintro e w' ⟨rfl, x, rfl⟩)
        | (go_at_call 17; apply Calls.mono; (with_reducible exact lowp_e Hv.out Hlow.out (Mat.none _ _ H0.out) H0.out); rintro e w' ⟨rfl, x, rfl⟩)
        | (go_at_call 9; apply Calls.mono; (with_reducible exact awake_l _); rintro e w' ⟨rfl, x, rfl⟩))
      go_ret
      exact ⟨rfl, by (repeat (first | exact Grew.refl _ | refine Grew.over ?_ _ | refine Grew.alloc ?_ _ | refine Grew.drew ?_ | refine Grew.drewN ?_ _))⟩
  case pos =>
  clear hl
  go_enter Try.func6, Try.ntmps6
  go_wp2_with (first
      | (go_at_call 13; apply Calls.mono; (with_reducible exact costr_e Hcs.out (hM.grew (by (repeat (first | exact Grew.refl _ | refine Grew.over ?_ _ | refine Grew.alloc ?_ _ | refine Grew.drew ?_ | refine Grew.drewN ?_ _)))) (hx.grew (by (repeat (first | exact Grew.refl _ | refine Grew.over ?_ _ | refine Grew.alloc ?_ _ | refine Grew.drew ?_ | refine Grew.drewN ?_ _)))) rfl rfl hcap); rintro e w' ⟨rfl, x, rfl⟩)
      | (go_at_call 16; apply Calls.mono; (with_reducible exact copied_e (hM.grew (by (repeat (first | exact Grew.refl _ | refine Grew.over ?_ _ | refine Grew.alloc ?_ _ | refine Grew.drew ?_ | refine Grew.drewN ?_ _)))) HV.out rfl hpos); rintro e w1 ⟨hg1, go, co, rfl, hO⟩; have HO := Lib.hid hO; have Hg1 : Hid (Grew w w1) := Lib.hid (Grew.trans (by (repeat (first | exact Grew.refl _ | refine Grew.over ?_ _ | refine Grew.alloc ?_ _ | refine Grew.drew ?_ | refine Grew.drewN ?_ _))) hg1); clear hg1 hO hM hx))
  go_loopw [8] (fun i wr => ∃ j : Nat, j ≤ xs.length ∧ i = .int .i64 j ∧ Grew w wr ∧ ∃ nm, Inv m xs j 0 nm ∧ OMat wr w.heap.size go co nm) (fun i _ => xs.length - (intOf i).toNat)
  case atStart =>
    obtain ⟨vals, e1, e2, e3⟩ := HO.out
    exact ⟨0, Nat.zero_le _, rfl, Hg1.out, m, Inv.start HV.out xs, vals, e1, e2.base (by simp), e3⟩
  case round =>
    obtain ⟨j, hj, rfl, hg, nm, hI, hO⟩ := hrel
    have HI := Lib.hid hI
    have HO2 := Lib.hid hO
    clear hI hO HO Hg1
    by_cases hlt : j < xs.length
    · go_wp2
      go_loopw [9] (fun i wq => ∃ t : Nat, j + 1 ≤ t ∧ t ≤ xs.length ∧ i = .int .i64 t ∧ Grew w wq ∧ ∃ nm, Inv m xs j t nm ∧ OMat wq w.heap.size go co nm) (fun i _ => xs.length - (intOf i).toNat)
      case atStart => exact ⟨j + 1, by omega, by omega, by go_num, hg, nm, HI.out.inner, HO2.out⟩
      case round =>
        obtain ⟨t, htj, ht, rfl, hg2, nm2, hI2, hO3⟩ := hrel
        have HI2 := Lib.hid hI2
        have HO3 := Lib.hid hO3
        clear hI2 hO3 HI HO2
        by_cases hlt2 : t < xs.length
        · have hxj := Hr.out _ (ge_mem hlt)
          have hxt := Hr.out _ (ge_mem hlt2)
          obtain ⟨u, hu⟩ := Int.eq_ofNat_of_zero_le hxj.1
          obtain ⟨v, hv⟩ := Int.eq_ofNat_of_zero_le hxt.1
          have hul : u < m.length := by omega
          have hvl : v < m.length := by omega
          have Hou : Hid (on xs j = u) := Lib.hid (by unfold on; rw [hu]; rfl)
          have Hov : Hid (on xs t = v) := Lib.hid (by unfold on; rw [hv]; rfl)
          have huv : u ≠ v := fun e => by
            have := on_inj Hr.out Hnd.out hlt hlt2 (by rw [Hou.out, Hov.out, e])
            omega
          obtain ⟨bx, ox, h1, cx⟩ := (Hx.out.grew hg2).open
          obtain ⟨rfl, hbx⟩ := h1 (by omega)
          have d1 := cx j hlt
          have d2 := cx t hlt2
          rw [hu] at d1
          rw [hv] at d2
          obtain ⟨b, o, rb, ro, rc, rfl, hb, hc⟩ := (HM.out.grew hg2).valid HV.out hpos
          obtain ⟨e11, e12, e13⟩ := hc u hul
          obtain ⟨e21, e22, e23⟩ := hc v hvl
          have e14 := e13 v hvl
          have e24 := e23 u hul
          have hn2 := HI2.out.1
          obtain ⟨gu, cu, gv, cv, c1, c2, b1, b2, b3, b4, b5, b6, n1, n2, n3, f1, f2, k1, k2, hset⟩ := HO3.out.two HI2.out.2.1 (by rw [hn2]; exact hul) (by rw [hn2]; exact hvl) huv
          rw [hn2] at c1 c2
          have k1' := k1 v (by rw [hn2]; exact hvl)
          have k2' := k2 u (by rw [hn2]; exact hul)
          have f1' := f1 v
          have f2' := f2 u
          have hv1 := (HV.out.2 u hul).2 v hvl
          have hv2 := (HV.out.2 v hvl).2 u hul
          have n3' := n3.symm
          have n1' := n1.symm
          have n2' := n2.symm
          have Hset := Lib.hid hset
          have Huv := Lib.hid huv
          have Hg2 := Lib.hid hg2
          clear hc e13 e23 hu hv cx h1 hxj hxt k1 k2 f1 f2 hset huv hn2 hg2 hg
          go_wp2
          refine wp_region_over (by kernel_rfl) (by kernel_rfl) ?_; (repeat (go_big_quiet_step (fail))); refine wpQuiet_nil ?_; rintro _ ⟨x, rfl⟩
          go_wp2
          rcases Int.lt_trichotomy (at2 m u v) (at2 m v u) with hq | hq | hq
          · skip
            refine wp_region_lex (Two 41 43 (fun b c => if c then (wr.setCell ⟨gu, v, none⟩ (.int .i64 (at2 m u v))).setCell ⟨gv, u, none⟩ (.int .i64 (at2 m v u)) else if b then wr.setCell ⟨gu, v, none⟩ (.int .i64 (at2 m u v)) else wr)) (by kernel_rfl) (by kernel_rfl) ?_ ?_
            · (repeat (first | exact Grew.refl _ | refine Grew.over ?_ _ | refine Grew.alloc ?_ _ | refine Grew.drew ?_ | refine Grew.drewN ?_ _))
            repeat (first
              | (refine lex_skip rfl ?_ ?_
                 · exact Two.keep (by decide) (by decide)
                 (try simp only [Act.put, List.setIfInBounds_toArray, List.set_cons_zero, List.set_cons_succ]))
              | (refine lex_pure (v := ?_) rfl ?_ (fun d w hd hr hC => ?_) ?_
                 rotate_left
                 · exact Two.keep (by decide) (by decide)
                 · (first
                     | (have hs1 := closed_undone (s := 41) hr.2 rfl (by decide +kernel) hd; have hs2 := closed_undone (s := 43) hr.2 rfl (by decide +kernel) hd; unfold Two at hC; rw [hs1, hs2] at hC; obtain ⟨x, rfl⟩ := hC; simp [go_sem, ↓IntWalk.iteOmega, c1, c2, e11, e21, e14, e24, k1', k2', f1', f2', n1, n2, n3, n1', n2', n3', Nat.not_le.2 b4, Nat.not_le.2 b6]; try rfl)
                     | (obtain ⟨x, rfl⟩ := hC; simp [go_sem, ↓IntWalk.iteOmega, c1, c2, e11, e21, e14, e24, k1', k2', f1', f2', n1, n2, n3, n1', n2', n3', Nat.not_le.2 b4, Nat.not_le.2 b6]; try rfl))
                 (try simp only [Act.put, List.setIfInBounds_toArray, List.set_cons_zero, List.set_cons_succ]))
              | (refine lex_store rfl (fun d w hd hr hC => ?_) ?_
                 · (first
                     | (have hs2 := closed_undone (s := 43) hr.2 rfl (by decide +kernel) hd; unfold Two at hC ⊢; rw [mark_same, mark_other _ (by decide), hs2]; rw [hd, hs2] at hC; obtain ⟨x, rfl⟩ := hC; refine ⟨?_, ?_, ?_⟩; rotate_left; (simp [go_sem, ↓IntWalk.iteOmega, c1, c2, e11, e21, e14, e24, k1', k2', f1', f2', n1, n2, n3, n1', n2', n3', Nat.not_le.2 b4, Nat.not_le.2 b6]; try rfl); (simp; exact ⟨_, rfl⟩))
                     | (have hs1 := ready_done (k := 41) hr.1 (by decide +kernel); unfold Two at hC ⊢; rw [mark_same, mark_other _ (by decide), hs1]; rw [hd, hs1] at hC; obtain ⟨x, rfl⟩ := hC; refine ⟨?_, ?_, ?_⟩; rotate_left; (simp [go_sem, ↓IntWalk.iteOmega, c1, c2, e11, e21, e14, e24, k1', k2', f1', f2', n1, n2, n3, n1', n2', n3', Nat.not_le.2 b4, Nat.not_le.2 b6]; try rfl); (simp; exact ⟨_, rfl⟩)))
                 (try simp only [Act.put, List.setIfInBounds_toArray, List.set_cons_zero, List.set_cons_succ])))
            refine lex_nil ?_
            intro d w hd hC
            unfold Two at hC; rw [hd 41 (by decide), hd 43 (by decide)] at hC; obtain ⟨x, rfl⟩ := hC; simp only [if_true]
            go_wp2
            go_roundw
            case rel =>
              refine ⟨t + 1, by omega, by omega, by go_num, ((Hg2.out.setCell (p := ⟨gu, v, none⟩) b3 _).setCell (p := ⟨gv, u, none⟩) b5 _).trans (by (repeat (first | exact Grew.refl _ | refine Grew.over ?_ _ | refine Grew.alloc ?_ _ | refine Grew.drew ?_ | refine Grew.drewN ?_ _))), _, ?_, (Hset.out (at2 m u v) (at2 m v u)).grew (by (repeat (first | exact Grew.refl _ | refine Grew.over ?_ _ | refine Grew.alloc ?_ _ | refine Grew.drew ?_ | refine Grew.drewN ?_ _)))⟩
              have := HI2.out.turn Hr.out Hnd.out (by omega) hlt2 (x := at2 m u v) (y := at2 m v u) (by omega) (by omega) (by omega)
              rwa [Hou.out, Hov.out] at this
            case measure => simp [intOf]; omega
          · skip
            have hq1 : at2 m u v ≤ at2 m v u := by omega
            have hq2 : at2 m v u ≤ at2 m u v := by omega
            clear hq
            refine wp_region_lex (Two 41 43 (fun b c => if c then (wr.setCell ⟨gu, v, none⟩ (.int .i64 (at2 m u v))).setCell ⟨gv, u, none⟩ (.int .i64 (at2 m u v)) else if b then wr.setCell ⟨gu, v, none⟩ (.int .i64 (at2 m u v)) else wr)) (by kernel_rfl) (by kernel_rfl) ?_ ?_
            · (repeat (first | exact Grew.refl _ | refine Grew.over ?_ _ | refine Grew.alloc ?_ _ | refine Grew.drew ?_ | refine Grew.drewN ?_ _))
            repeat (first
              | (refine lex_skip rfl ?_ ?_
                 · exact Two.keep (by decide) (by decide)
                 (try simp only [Act.put, List.setIfInBounds_toArray, List.set_cons_zero, List.set_cons_succ]))
              | (refine lex_pure (v := ?_) rfl ?_ (fun d w hd hr hC => ?_) ?_
                 rotate_left
                 · exact Two.keep (by decide) (by decide)
                 · (first
                     | (have hs1 := closed_undone (s := 41) hr.2 rfl (by decide +kernel) hd; have hs2 := closed_undone (s := 43) hr.2 rfl (by decide +kernel) hd; unfold Two at hC; rw [hs1, hs2] at hC; obtain ⟨x, rfl⟩ := hC; simp [go_sem, ↓IntWalk.iteOmega, c1, c2, e11, e21, e14, e24, k1', k2', f1', f2', n1, n2, n3, n1', n2', n3', Nat.not_le.2 b4, Nat.not_le.2 b6]; try rfl)
                     | (obtain ⟨x, rfl⟩ := hC; simp [go_sem, ↓IntWalk.iteOmega, c1, c2, e11, e21, e14, e24, k1', k2', f1', f2', n1, n2, n3, n1', n2', n3', Nat.not_le.2 b4, Nat.not_le.2 b6]; try rfl))
                 (try simp only [Act.put, List.setIfInBounds_toArray, List.set_cons_zero, List.set_cons_succ]))
              | (refine lex_store rfl (fun d w hd hr hC => ?_) ?_
                 · (first
                     | (have hs2 := closed_undone (s := 43) hr.2 rfl (by decide +kernel) hd; unfold Two at hC ⊢; rw [mark_same, mark_other _ (by decide), hs2]; rw [hd, hs2] at hC; obtain ⟨x, rfl⟩ := hC; refine ⟨?_, ?_, ?_⟩; rotate_left; (simp [go_sem, ↓IntWalk.iteOmega, c1, c2, e11, e21, e14, e24, k1', k2', f1', f2', n1, n2, n3, n1', n2', n3', Nat.not_le.2 b4, Nat.not_le.2 b6]; try rfl); (simp; exact ⟨_, rfl⟩))
                     | (have hs1 := ready_done (k := 41) hr.1 (by decide +kernel); unfold Two at hC ⊢; rw [mark_same, mark_other _ (by decide), hs1]; rw [hd, hs1] at hC; obtain ⟨x, rfl⟩ := hC; refine ⟨?_, ?_, ?_⟩; rotate_left; (simp [go_sem, ↓IntWalk.iteOmega, c1, c2, e11, e21, e14, e24, k1', k2', f1', f2', n1, n2, n3, n1', n2', n3', Nat.not_le.2 b4, Nat.not_le.2 b6]; try rfl); (simp; exact ⟨_, rfl⟩)))
                 (try simp only [Act.put, List.setIfInBounds_toArray, List.set_cons_zero, List.set_cons_succ])))
            refine lex_nil ?_
            intro d w hd hC
            unfold Two at hC; rw [hd 41 (by decide), hd 43 (by decide)] at hC; obtain ⟨x, rfl⟩ := hC; simp only [if_true]
            go_wp2
            go_roundw
            case rel =>
              refine ⟨t + 1, by omega, by omega, by go_num, ((Hg2.out.setCell (p := ⟨gu, v, none⟩) b3 _).setCell (p := ⟨gv, u, none⟩) b5 _).trans (by (repeat (first | exact Grew.refl _ | refine Grew.over ?_ _ | refine Grew.alloc ?_ _ | refine Grew.drew ?_ | refine Grew.drewN ?_ _))), _, ?_, (Hset.out (at2 m u v) (at2 m u v)).grew (by (repeat (first | exact Grew.refl _ | refine Grew.over ?_ _ | refine Grew.alloc ?_ _ | refine Grew.drew ?_ | refine Grew.drewN ?_ _)))⟩
              have := HI2.out.turn Hr.out Hnd.out (by omega) hlt2 (x := at2 m u v) (y := at2 m u v) (by omega) (by omega) (by omega)
              rwa [Hou.out, Hov.out] at this
            case measure => simp [intOf]; omega
          · skip
            refine wp_region_lex (Two 41 43 (fun b c => if c then (wr.setCell ⟨gu, v, none⟩ (.int .i64 (at2 m v u))).setCell ⟨gv, u, none⟩ (.int .i64 (at2 m u v)) else if b then wr.setCell ⟨gu, v, none⟩ (.int .i64 (at2 m v u)) else wr)) (by kernel_rfl) (by kernel_rfl) ?_ ?_
            · (repeat (first | exact Grew.refl _ | refine Grew.over ?_ _ | refine Grew.alloc ?_ _ | refine Grew.drew ?_ | refine Grew.drewN ?_ _))
            repeat (first
              | (refine lex_skip rfl ?_ ?_
                 · exact Two.keep (by decide) (by decide)
                 (try simp only [Act.put, List.setIfInBounds_toArray, List.set_cons_zero, List.set_cons_succ]))
              | (refine lex_pure (v := ?_) rfl ?_ (fun d w hd hr hC => ?_) ?_
                 rotate_left
                 · exact Two.keep (by decide) (by decide)
                 · (first
                     | (have hs1 := closed_undone (s := 41) hr.2 rfl (by decide +kernel) hd; have hs2 := closed_undone (s := 43) hr.2 rfl (by decide +kernel) hd; unfold Two at hC; rw [hs1, hs2] at hC; obtain ⟨x, rfl⟩ := hC; simp [go_sem, ↓IntWalk.iteOmega, c1, c2, e11, e21, e14, e24, k1', k2', f1', f2', n1, n2, n3, n1', n2', n3', Nat.not_le.2 b4, Nat.not_le.2 b6]; try rfl)
                     | (obtain ⟨x, rfl⟩ := hC; simp [go_sem, ↓IntWalk.iteOmega, c1, c2, e11, e21, e14, e24, k1', k2', f1', f2', n1, n2, n3, n1', n2', n3', Nat.not_le.2 b4, Nat.not_le.2 b6]; try rfl))
                 (try simp only [Act.put, List.setIfInBounds_toArray, List.set_cons_zero, List.set_cons_succ]))
              | (refine lex_store rfl (fun d w hd hr hC => ?_) ?_
                 · (first
                     | (have hs2 := closed_undone (s := 43) hr.2 rfl (by decide +kernel) hd; unfold Two at hC ⊢; rw [mark_same, mark_other _ (by decide), hs2]; rw [hd, hs2] at hC; obtain ⟨x, rfl⟩ := hC; refine ⟨?_, ?_, ?_⟩; rotate_left; (simp [go_sem, ↓IntWalk.iteOmega, c1, c2, e11, e21, e14, e24, k1', k2', f1', f2', n1, n2, n3, n1', n2', n3', Nat.not_le.2 b4, Nat.not_le.2 b6]; try rfl); (simp; exact ⟨_, rfl⟩))
                     | (have hs1 := ready_done (k := 41) hr.1 (by decide +kernel); unfold Two at hC ⊢; rw [mark_same, mark_other _ (by decide), hs1]; rw [hd, hs1] at hC; obtain ⟨x, rfl⟩ := hC; refine ⟨?_, ?_, ?_⟩; rotate_left; (simp [go_sem, ↓IntWalk.iteOmega, c1, c2, e11, e21, e14, e24, k1', k2', f1', f2', n1, n2, n3, n1', n2', n3', Nat.not_le.2 b4, Nat.not_le.2 b6]; try rfl); (simp; exact ⟨_, rfl⟩)))
                 (try simp only [Act.put, List.setIfInBounds_toArray, List.set_cons_zero, List.set_cons_succ])))
            refine lex_nil ?_
            intro d w hd hC
            unfold Two at hC; rw [hd 41 (by decide), hd 43 (by decide)] at hC; obtain ⟨x, rfl⟩ := hC; simp only [if_true]
            go_wp2
            go_roundw
            case rel =>
              refine ⟨t + 1, by omega, by omega, by go_num, ((Hg2.out.setCell (p := ⟨gu, v, none⟩) b3 _).setCell (p := ⟨gv, u, none⟩) b5 _).trans (by (repeat (first | exact Grew.refl _ | refine Grew.over ?_ _ | refine Grew.alloc ?_ _ | refine Grew.drew ?_ | refine Grew.drewN ?_ _))), _, ?_, (Hset.out (at2 m v u) (at2 m u v)).grew (by (repeat (first | exact Grew.refl _ | refine Grew.over ?_ _ | refine Grew.alloc ?_ _ | refine Grew.drew ?_ | refine Grew.drewN ?_ _)))⟩
              have := HI2.out.turn Hr.out Hnd.out (by omega) hlt2 (x := at2 m v u) (y := at2 m u v) (by omega) (by omega) (by omega)
              rwa [Hou.out, Hov.out] at this
            case measure => simp [intOf]; omega
        · go_wp2
          go_roundw
          case rel => exact ⟨j + 1, by omega, by go_num, hg2, nm2, HI2.out.next (by omega), HO3.out⟩
          case measure => simp [intOf]; omega
    · obtain ⟨o, c, hb⟩ := best_all nm
      obtain ⟨hvn, hlow⟩ := HI.out.done (by omega) HV.out Hr.out Hnd.out Hl.out hb
      have Hlen := Lib.hid HI.out.1
      have Hm := Lib.hid (HO2.out.mat HI.out.2.1 (by rw [Hlen.out]; omega) (by rw [Hlen.out]; omega) (vMat_wf hvn))
      have Hb := Lib.hid hb
      have Hlow := Lib.hid hlow
      have Hv := Lib.hid (vMatB_iff.2 hvn)
      have Hg := Lib.hid hg
      clear hb hlow hvn HI HO2 hg
      go_wp2_with (first
        | (go_at_call 10; apply Calls.mono; (with_reducible exact least_ok (Hm.out.grew (by (repeat (first | exact Grew.refl _ | refine Grew.over ?_ _ | refine Grew.alloc ?_ _ | refine Grew.drew ?_ | refine Grew.drewN ?_ _)))) Hlen.out Hv.out Hb.out); rintro e w' ⟨⟨x2, rfl⟩, q2, cap2, rfl, _, _, _⟩)
        | (go_at_call 14; apply Calls.mono; (with_reducible exact lowr_e Hv.out Hlow.out (Hm.out.grew (by (repeat (first | exact Grew.refl _ | refine Grew.over ?_ _ | refine Grew.alloc ?_ _ | refine Grew.drew ?_ | refine Grew.drewN ?_ _)))) Hlen.out); rintro e w' ⟨rfl, x, rfl⟩)
        | (go_at_call 17; apply Calls.mono; (with_reducible exact lowp_e Hv.out Hlow.out (Hm.out.grew (by (repeat (first | exact Grew.refl _ | refine Grew.over ?_ _ | refine Grew.alloc ?_ _ | refine Grew.drew ?_ | refine Grew.drewN ?_ _)))) Hlen.out); rintro e w' ⟨rfl, x, rfl⟩)
        | (go_at_call 9; apply Calls.mono; (with_reducible exact awake_l _); rintro e w' ⟨rfl, x, rfl⟩))
      go_ret
      exact ⟨rfl, Hg.out.trans (by (repeat (first | exact Grew.refl _ | refine Grew.over ?_ _ | refine Grew.alloc ?_ _ | refine Grew.drew ?_ | refine Grew.drewN ?_ _)))⟩

end Go.Proofs.Ytnodgagmnekliaa
