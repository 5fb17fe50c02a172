/- The search of the reference. -/
import Derived.Test.YtdenjldadlgniaaLabR
set_option linter.unusedSimpArgs false
set_option linter.unusedVariables false
namespace Go.Proofs.Ytdenjldadlgniaa
open Go.RowKit
attribute [local go_sem ↓] Go.wp_at_zero Go.wp_at_succ

def SearchPost (m : List (List Bx)) (c : List (List Int)) (l : List Nat) (w : World) (e : Ending) (w' : World) : Prop :=
  Grew w w' ∧ ∃ r k cp z f a, e = .returned (.tuple #[.slice r k cp, .int .i64 z, .bool f]) ∧ SS c m.length (Sub m l) f a z ∧ (f = true → k = a.length ∧ Ints w' r (intL a) ∧ k ≤ cp)
theorem fitB_intL {m : List (List Bx)} {l : List Nat} {k : Nat} : fitB m (intL l) k = true ↔ Fr m l k := by
  unfold fitB
  rw [intL_length, frB_true]
  unfold Fr
  exact ⟨fun h j hj => by have := h j hj; rwa [ge_intL] at this, fun h j hj => by rw [ge_intL]; exact h j hj⟩
theorem rng_intL {m : List (List Bx)} {l : List Nat} (h : Ch m l) : Rng m (intL l) := by
  refine ⟨by rw [intL_length]; exact h.le, fun i hi => ?_⟩
  rw [intL_length] at hi
  rw [ge_intL2 hi]
  have := h.lt i hi
  omega
set_option maxHeartbeats 8000000 in
theorem search_leaf (p q : Option Addr) (n cp cq : Nat) (m : List (List Bx)) (c : List (List Int)) (hv : vLB m c = true) (hn : m.length = n) (hk : c.length = n) (l : List Nat) (hl : l.length = m.length) (hch : Ch m l)
    (r : Option Addr) (cr : Nat) (hcr : l.length ≤ cr) (w : World) (hM : BMat w p m) (hC : Mat w q c) (hx : Ints w r (intL l)) :
    Calls Try.prog 32 #[.slice p n cp, .slice q n cq, .slice r l.length cr] w (SearchPost m c l w) := by
  have HC := Lib.hid hC
  have HX := Lib.hid hx
  have HK := Lib.hid hk
  have Hcm : Hid (Cm m l) := Lib.hid ⟨hch, hl⟩
  have Hcs : Hid (coS c (intL l) = lco c l) := Lib.hid (coS_intL hv Hcm.out)
  have Hll : Hid ((intL l).length = n) := Lib.hid (by rw [intL_length, hl, hn])
  have Hln : Hid (l.length = n) := Lib.hid (by rw [hl, hn])
  have hn8 : n ≤ 8 := by rw [← hn]; exact (vLB_iff.1 hv).n
  rw [Hln.out]
  rw [Hln.out] at hcr
  obtain ⟨z, hz⟩ : ∃ z, lco c l = z := ⟨_, rfl⟩
  have Hz := Lib.hid hz
  rw [hz] at Hcs
  clear hM hC hx hk hl hch hn hz
  go_enter Try.func32, Try.ntmps32
  go_wp2_with ((go_at_call 15; apply Calls.mono; (with_reducible exact costr_e Hcs.out (HC.out.grew (by (repeat (first | exact Grew.refl _ | refine Grew.over ?_ _ | refine Grew.alloc ?_ _ | refine Grew.drew ?_ | refine Grew.drewN ?_ _)))) (HX.out.grew (by (repeat (first | exact Grew.refl _ | refine Grew.over ?_ _ | refine Grew.alloc ?_ _ | refine Grew.drew ?_ | refine Grew.drewN ?_ _)))) HK.out Hll.out); rintro e w' ⟨rfl, x, rfl⟩))
  go_ret3
  exact ⟨by (repeat (first | exact Grew.refl _ | refine Grew.over ?_ _ | refine Grew.alloc ?_ _ | refine Grew.drew ?_ | refine Grew.drewN ?_ _)), r, n, cr, z, true, l, rfl, by rw [← Hz.out]; exact sub_leaf Hcm.out, fun _ => ⟨Hln.out.symm, HX.out.grew (by (repeat (first | exact Grew.refl _ | refine Grew.over ?_ _ | refine Grew.alloc ?_ _ | refine Grew.drew ?_ | refine Grew.drewN ?_ _))), hcr⟩⟩

theorem own_snoc {w : World} {B : Nat} {v0 v1 v2 : Value} {i k : Nat} {l : List Nat} (h : Owns w B (([⟨v0, 3, 1, 0, []⟩].set 0 ⟨v1, 3, 1, 0 + i, [] ++ intVs (intL l)⟩).set 0 ⟨v2, 3, 1, 0 + i + 1, [] ++ intVs (intL l) ++ [Value.int .i64 (k : Int)]⟩)) :
    Owns w B [⟨v2, 3, 1, i + 1, intVs (intL (l ++ [k]))⟩] := by
  simp only [List.set_cons_zero, Nat.zero_add, List.nil_append] at h
  have e : intVs (intL l) ++ [Value.int .i64 (k : Int)] = intVs (intL (l ++ [k])) := by rw [intL_snoc]; simp [intVs]
  rw [e] at h
  exact h
set_option maxHeartbeats 16000000 in
theorem search_node (p q : Option Addr) (n cp cq : Nat) (m : List (List Bx)) (c : List (List Int)) (hv : vLB m c = true) (hn : m.length = n) (hk : c.length = n) (l : List Nat) (hl : l.length < m.length) (hch : Ch m l)
    (ih : ∀ (k : Nat), Ch m (l ++ [k]) → ∀ (r : Option Addr) (cr : Nat) (w : World), BMat w p m → Mat w q c → Ints w r (intL (l ++ [k])) → (l ++ [k]).length ≤ cr → (r = none → cr = 0) →
      Calls Try.prog 32 #[.slice p n cp, .slice q n cq, .slice r (l ++ [k]).length cr] w (SearchPost m c (l ++ [k]) w))
    (r : Option Addr) (cr : Nat) (hcr : l.length ≤ cr) (hrn : r = none → cr = 0) (w : World) (hM : BMat w p m) (hC : Mat w q c) (hx : Ints w r (intL l)) :
    Calls Try.prog 32 #[.slice p n cp, .slice q n cq, .slice r l.length cr] w (SearchPost m c l w) := by
  have HM := Lib.hid hM
  have HC := Lib.hid hC
  have HX := Lib.hid hx
  have HN := Lib.hid hn
  have HL := Lib.hid hl
  have Hch := Lib.hid hch
  have HV := Lib.hid (vLB_iff.1 hv)
  have Hih := Lib.hid ih
  have Hrn := Lib.hid hrn
  have hn8 : n ≤ 8 := by rw [← hn]; exact HV.out.n
  obtain ⟨b, o, rp, rcx, hpe, hb, d0, hR⟩ := hM.row1 hl
  subst hpe
  have hL16 := (HV.out.bx _ hl).1
  obtain ⟨i, hi⟩ : ∃ i, l.length = i := ⟨_, rfl⟩
  have Hi := Lib.hid hi
  have Hli : Hid ((intL l).length = i) := Lib.hid (by rw [intL_length, hi])
  have hin : i < n := by rw [← hi, ← hn]; exact hl
  have hin2 : ((i : Int) == (n : Int)) = false := by rw [beq_eq_false_iff_ne]; omega
  have hin3 : (i == n) = false := by rw [beq_eq_false_iff_ne]; omega
  rw [hi] at d0 hL16 hcr ⊢
  obtain ⟨L, hLe⟩ : ∃ L, (bRow m i).length = L := ⟨_, rfl⟩
  rw [hLe] at d0 hL16
  have HLe := Lib.hid hLe
  have D0 := Lib.hid d0
  have Hb := Lib.hid hb
  clear hM hC hx hn hk hl hch ih hrn hR hi hLe hv d0 hb
  go_enter Try.func32, Try.ntmps32
  go_wp2
  go_loopw [10, 11, 12, 13] (fun v10 v11 v12 v13 wr => ∃ k : Nat, k ≤ L ∧ v13 = .int .i64 k ∧ ∃ r' k' c' z f a, v10 = .slice r' k' c' ∧ v11 = .int .i64 z ∧ v12 = .bool f ∧ SS c m.length (SubK m l k) f a z ∧ (f = true → k' = a.length ∧ Ints wr r' (intL a) ∧ k' ≤ c') ∧ Grew w wr) (fun _ _ _ v _ => L - (intOf v).toNat)
  case atStart => exact ⟨0, Nat.zero_le _, rfl, none, 0, 0, 0, false, [], rfl, rfl, rfl, Or.inl ⟨rfl, fun b => subK_zero⟩, (fun h => by cases h), by (repeat (first | exact Grew.refl _ | refine Grew.over ?_ _ | refine Grew.alloc ?_ _ | refine Grew.drew ?_ | refine Grew.drewN ?_ _))⟩
  case round =>
    obtain ⟨k, hk, rfl, r', k', c', z, f, a, rfl, rfl, rfl, hSS, hI, hg⟩ := hrel
    have HSS := Lib.hid hSS
    have HI := Lib.hid hI
    have Hg := Lib.hid hg
    clear hSS hI hg
    have d0 := Hg.out.cellEq D0.out
    have hb := Nat.lt_of_lt_of_le Hb.out Hg.out.below.size
    by_cases hlt : k < L
    · have Hargs := Lib.hid (show (intL l).length < m.length ∧ k < (bRow m (intL l).length).length from ⟨by rw [intL_length]; exact HL.out, by rw [Hli.out, HLe.out]; exact hlt⟩)
      obtain ⟨g, hgE⟩ : ∃ g, fitB m (intL l) k = g := ⟨_, rfl⟩
      have HgE := Lib.hid hgE
      clear hgE
      cases g
      · have Hno : Hid (∀ b, ¬ Sub m (l ++ [k]) b) := Lib.hid (fun b hb => by
          have h2 := fitB_intL.2 (hb.1.fr hb.2 HL.out)
          rw [HgE.out] at h2; cases h2)
        go_wp2_with (go_at_call 29; apply Calls.mono; (with_reducible exact fitsr_e HgE.out (HM.out.grew (Hg.out.trans (by (repeat (first | exact Grew.refl _ | refine Grew.over ?_ _ | refine Grew.alloc ?_ _ | refine Grew.drew ?_ | refine Grew.drewN ?_ _))))) (HX.out.grew (Hg.out.trans (by (repeat (first | exact Grew.refl _ | refine Grew.over ?_ _ | refine Grew.alloc ?_ _ | refine Grew.drew ?_ | refine Grew.drewN ?_ _))))) HN.out Hli.out HV.out.n (rng_intL Hch.out) Hargs.out.1 Hargs.out.2 (fun u hu => (HV.out.bx u hu).1)); rintro e w' ⟨rfl, x, rfl⟩)
        go_roundw
        case rel => exact ⟨k + 1, by omega, by go_num, r', k', c', z, f, a, rfl, rfl, rfl, HSS.out.congr (subK_skip Hno.out), fun h => ⟨(HI.out h).1, (HI.out h).2.1.grew (by (repeat (first | exact Grew.refl _ | refine Grew.over ?_ _ | refine Grew.alloc ?_ _ | refine Grew.drew ?_ | refine Grew.drewN ?_ _))), (HI.out h).2.2⟩, Hg.out.trans (by (repeat (first | exact Grew.refl _ | refine Grew.over ?_ _ | refine Grew.alloc ?_ _ | refine Grew.drew ?_ | refine Grew.drewN ?_ _)))⟩
        case measure => simp [intOf]; omega
      · have Hfr : Hid (Fr m l k) := Lib.hid (fitB_intL.1 HgE.out)
        have Hck : Hid (Ch m (l ++ [k])) := Lib.hid (Hch.out.snoc HL.out (by rw [Hi.out, HLe.out]; exact hlt) Hfr.out)
        have Hrg : Hid (∀ x ∈ intL (l ++ [k]), -9223372036854775808 ≤ x ∧ x ≤ 9223372036854775807) := Lib.hid (fun x hx => by
          rw [intL_snoc] at hx
          rcases List.mem_append.1 hx with hx | hx
          · exact HX.out.2.1 x hx
          · simp at hx; omega)
        have Hlen : Hid ((l ++ [k]).length = i + 1) := Lib.hid (by rw [List.length_append, Hi.out]; rfl)
        have Hrec : Hid (∀ (r2 : Option Addr) (c2 : Nat) (W : World), Grew w W → Ints W r2 (intL (l ++ [k])) → i + 1 ≤ c2 → (r2 = none → c2 = 0) → Calls Try.prog 32 #[.slice (some ⟨b, o, none⟩) n cp, .slice q n cq, .slice r2 (i + 1) c2] W (SearchPost m c (l ++ [k]) W)) := Lib.hid (fun r2 c2 W hW h1 h2 h3 => by
          have := Hih.out k Hck.out r2 c2 W (HM.out.grew hW) (HC.out.grew hW) h1 (by rw [Hlen.out]; exact h2) h3
          rw [Hlen.out] at this
          exact this)
        go_wp2_with (first
          | (go_at_call 29; apply Calls.mono; (with_reducible exact fitsr_e HgE.out (HM.out.grew (Hg.out.trans (by (repeat (first | exact Grew.refl _ | refine Grew.over ?_ _ | refine Grew.alloc ?_ _ | refine Grew.drew ?_ | refine Grew.drewN ?_ _))))) (HX.out.grew (Hg.out.trans (by (repeat (first | exact Grew.refl _ | refine Grew.over ?_ _ | refine Grew.alloc ?_ _ | refine Grew.drew ?_ | refine Grew.drewN ?_ _))))) HN.out Hli.out HV.out.n (rng_intL Hch.out) Hargs.out.1 Hargs.out.2 (fun u hu => (HV.out.bx u hu).1)); rintro e w' ⟨rfl, x, rfl⟩)
          | (at_builtin; refine wp_append_owns rfl _ _ 24 rfl 3 1 8 (.int .i64 0) Try.underlying24 Try.infoInt rfl (by decide) wr.heap.size _ 0 (.slice none 0 0) 0 [] ((Owns.nil _ _).none _ _) rfl rfl r i cr rfl (intVs (intL l)) (by rw [intVs_length, Hli.out, Nat.mul_one]) (fun h => ⟨by have := Hrn.out h; omega, Hrn.out h⟩) ((HX.out.grew (Hg.out.trans (by (repeat (first | exact Grew.refl _ | refine Grew.over ?_ _ | refine Grew.alloc ?_ _ | refine Grew.drew ?_ | refine Grew.drewN ?_ _))))).news') (intVs_one _) (by simp only [maxLen]; omega) (by omega) (by first | rfl | omega | (simp <;> omega)) ?_; intro v1 w1 hO1 hg1 hb1 _; have Hg1 := Lib.hid (Grew.grownBy (w0 := wr) (by (repeat (first | exact Grew.refl _ | refine Grew.over ?_ _ | refine Grew.alloc ?_ _ | refine Grew.drew ?_ | refine Grew.drewN ?_ _))) hg1 hb1); have HO1 := Lib.hid hO1; clear hO1 hg1 hb1)
          | (at_builtin; refine wp_append_owns rfl _ _ 24 rfl 3 1 8 (.int .i64 0) Try.underlying24 Try.infoInt rfl (by decide) wr.heap.size _ 0 _ _ _ (HO1.out.grew (by (repeat (first | exact Grew.refl _ | refine Grew.over ?_ _ | refine Grew.alloc ?_ _ | refine Grew.drew ?_ | refine Grew.drewN ?_ _)))) rfl rfl _ 1 1 rfl [.int .i64 (k : Int)] rfl (fun h => by cases h) (one_news _ (by rw [Addr.add_lit]; (simp [go_sem, ↓IntWalk.iteOmega]))) (by simp [Value.oneCell']) (by simp only [maxLen]; omega) (by omega) (Grew.below (Hg1.out.trans (by (repeat (first | exact Grew.refl _ | refine Grew.over ?_ _ | refine Grew.alloc ?_ _ | refine Grew.drew ?_ | refine Grew.drewN ?_ _))))).size ?_; intro v2 w3 hO2 hg2 hb2 _; have Hg2 := Lib.hid (Grew.grownBy (w0 := wr) (Hg1.out.trans (by (repeat (first | exact Grew.refl _ | refine Grew.over ?_ _ | refine Grew.alloc ?_ _ | refine Grew.drew ?_ | refine Grew.drewN ?_ _)))) hg2 hb2); have HO2 := Lib.hid (own_snoc hO2); clear hO2 hg2 hb2; obtain ⟨g3, c3, rfl, _, hc3, _, hI3⟩ := ints_of_owns HO2.out (k := 0) rfl (by omega) (by omega) Hrg.out; have HI3 := Lib.hid hI3; clear hI3)
          | (go_at_call 32; apply Calls.mono; (with_reducible exact Hrec.out _ _ _ (Hg.out.trans Hg2.out) HI3.out hc3 (fun h => by cases h)); rintro e w4 ⟨hg4, r4, k4, c4, z4, f4, a4, rfl, hSS4, hI4⟩; have HG4 := Lib.hid (Hg2.out.trans hg4); have HSS4 := Lib.hid hSS4; have HI4 := Lib.hid hI4; clear hg4 hSS4 hI4; cases f4; case' true => (cases f; case' true => by_cases hzz : z4 < z)))
        · go_roundw
          case rel => exact ⟨k + 1, by omega, by go_num, r4, k4, c4, z4, true, a4, rfl, rfl, rfl, HSS.out.better HSS4.out (fun _ => hzz), fun _ => HI4.out (by first | trivial | rfl), Hg.out.trans HG4.out⟩
          case measure => simp [intOf]; omega
        · go_roundw
          case rel => exact ⟨k + 1, by omega, by go_num, r', k', c', z, true, a, rfl, rfl, rfl, HSS.out.keep HL.out HSS4.out (fun _ => by omega), fun _ => ⟨(HI.out (by first | trivial | rfl)).1, (HI.out (by first | trivial | rfl)).2.1.grew HG4.out, (HI.out (by first | trivial | rfl)).2.2⟩, Hg.out.trans HG4.out⟩
          case measure => simp [intOf]; omega
        · go_roundw
          case rel => exact ⟨k + 1, by omega, by go_num, r4, k4, c4, z4, true, a4, rfl, rfl, rfl, HSS.out.better HSS4.out (fun h => by cases h), fun _ => HI4.out (by first | trivial | rfl), Hg.out.trans HG4.out⟩
          case measure => simp [intOf]; omega
        · go_roundw
          case rel => exact ⟨k + 1, by omega, by go_num, r', k', c', z, f, a, rfl, rfl, rfl, HSS.out.congr (subK_skip HSS4.out.none), fun h => ⟨(HI.out h).1, (HI.out h).2.1.grew HG4.out, (HI.out h).2.2⟩, Hg.out.trans HG4.out⟩
          case measure => simp [intOf]; omega
    · have hkL : k = L := by omega
      go_wp2
      go_ret3
      refine ⟨Hg.out.trans (by (repeat (first | exact Grew.refl _ | refine Grew.over ?_ _ | refine Grew.alloc ?_ _ | refine Grew.drew ?_ | refine Grew.drewN ?_ _))), r', k', c', z, f, a, rfl, HSS.out.congr (fun b => ?_), fun h => ⟨(HI.out h).1, (HI.out h).2.1.grew (by (repeat (first | exact Grew.refl _ | refine Grew.over ?_ _ | refine Grew.alloc ?_ _ | refine Grew.drew ?_ | refine Grew.drewN ?_ _))), (HI.out h).2.2⟩⟩
      rw [hkL, ← HLe.out, ← Hi.out]
      exact subK_all HL.out b
theorem search_r (p q : Option Addr) (n cp cq : Nat) (m : List (List Bx)) (c : List (List Int)) (hv : vLB m c = true) (hn : m.length = n) (hk : c.length = n) :
    ∀ (d : Nat) (l : List Nat), l.length + d = m.length → Ch m l → ∀ (r : Option Addr) (cr : Nat) (w : World), BMat w p m → Mat w q c → Ints w r (intL l) → l.length ≤ cr → (r = none → cr = 0) →
      Calls Try.prog 32 #[.slice p n cp, .slice q n cq, .slice r l.length cr] w (SearchPost m c l w)
  | 0, l, hl, hch, r, cr, w, hM, hC, hx, hcr, _ => search_leaf p q n cp cq m c hv hn hk l (by omega) hch r cr hcr w hM hC hx
  | d + 1, l, hl, hch, r, cr, w, hM, hC, hx, hcr, hrn => search_node p q n cp cq m c hv hn hk l (by omega) hch (fun k hck => search_r p q n cp cq m c hv hn hk d (l ++ [k]) (by rw [List.length_append]; simp; omega) hck) r cr hcr hrn w hM hC hx

set_option maxHeartbeats 8000000 in
theorem place_r (p q : Option Addr) (n k cp cq : Nat) (m : List (List Bx)) (c : List (List Int)) (w : World) (hM : BMat w p m) (hC : Mat w q c) (hn : m.length = n) (hk : c.length = k) :
    Calls Try.prog 18 #[.slice p n cp, .slice q k cq] w fun e w' => Grew w w' ∧ ((vLB m c = false ∧ e = .returned (.tuple #[.slice none 0 0, .int .i64 0, .int .i64 1])) ∨
    (vLB m c = true ∧ (∀ b, ¬ Cm m b) ∧ e = .returned (.tuple #[.slice none 0 0, .int .i64 0, .int .i64 15])) ∨
    (vLB m c = true ∧ ∃ a q cp, Bst c m.length (Cm m) a ∧ e = .returned (.tuple #[.slice q a.length cp, .int .i64 (lco c a), .int .i64 0]) ∧ Ints w' q (intL a) ∧ a.length ≤ cp)) := by
  have HM := Lib.hid hM
  have HC := Lib.hid hC
  have HN := Lib.hid hn
  have HK := Lib.hid hk
  obtain ⟨v, hv⟩ : ∃ v, vLB m c = v := ⟨_, rfl⟩
  have Hv := Lib.hid hv
  cases v
  · clear hM hC hn hk hv
    go_enter Try.func18, Try.ntmps18
    go_wp2_with ((go_at_call 11; apply Calls.mono; (with_reducible exact valid50r_e Hv.out (HM.out.grew (by (repeat (first | exact Grew.refl _ | refine Grew.over ?_ _ | refine Grew.alloc ?_ _ | refine Grew.drew ?_ | refine Grew.drewN ?_ _)))) (HC.out.grew (by (repeat (first | exact Grew.refl _ | refine Grew.over ?_ _ | refine Grew.alloc ?_ _ | refine Grew.drew ?_ | refine Grew.drewN ?_ _)))) HN.out HK.out); rintro e w' ⟨rfl, x, rfl⟩))
    go_ret3
    exact ⟨by (repeat (first | exact Grew.refl _ | refine Grew.over ?_ _ | refine Grew.alloc ?_ _ | refine Grew.drew ?_ | refine Grew.drewN ?_ _)), Or.inl ⟨Hv.out, rfl⟩⟩
  have hkn : k = n := by rw [← hn, ← hk]; exact (vLB_iff.1 hv).cn
  subst hkn
  have Hs : Hid (∀ W, Grew w W → Calls Try.prog 32 #[.slice p k cp, .slice q k cq, .slice none 0 0] W (SearchPost m c [] W)) := Lib.hid (fun W hW => search_r p q k cp cq m c hv hn hk m.length [] (by simp) (Ch.nil m) none 0 W (hM.grew hW) (hC.grew hW) (Ints.nil W none) (Nat.le_refl _) (fun _ => rfl))
  clear hM hC hn hk hv
  go_enter Try.func18, Try.ntmps18
  go_wp2_with (first
    | (go_at_call 11; apply Calls.mono; (with_reducible exact valid50r_e Hv.out (HM.out.grew (by (repeat (first | exact Grew.refl _ | refine Grew.over ?_ _ | refine Grew.alloc ?_ _ | refine Grew.drew ?_ | refine Grew.drewN ?_ _)))) (HC.out.grew (by (repeat (first | exact Grew.refl _ | refine Grew.over ?_ _ | refine Grew.alloc ?_ _ | refine Grew.drew ?_ | refine Grew.drewN ?_ _)))) HN.out HK.out); rintro e w' ⟨rfl, x, rfl⟩)
    | (go_at_call 32; apply Calls.mono; (with_reducible exact Hs.out _ (by (repeat (first | exact Grew.refl _ | refine Grew.over ?_ _ | refine Grew.alloc ?_ _ | refine Grew.drew ?_ | refine Grew.drewN ?_ _)))); rintro e w4 ⟨hg4, r4, k4, c4, z4, f4, a4, rfl, hSS4, hI4⟩; have HG4 := Lib.hid (Grew.trans (show Grew w _ by (repeat (first | exact Grew.refl _ | refine Grew.over ?_ _ | refine Grew.alloc ?_ _ | refine Grew.drew ?_ | refine Grew.drewN ?_ _))) hg4); have HSS4 := Lib.hid hSS4; have HI4 := Lib.hid hI4; clear hg4 hSS4 hI4; cases f4))
  · go_ret3
    exact ⟨HG4.out, Or.inr (Or.inl ⟨Hv.out, fun b hb => HSS4.out.none b ((sub_nil b).2 hb), rfl⟩)⟩
  · go_ret3
    obtain ⟨e1, e2, e3⟩ := HI4.out (by first | trivial | rfl)
    rcases HSS4.out with ⟨h, _⟩ | ⟨_, h1, h2⟩
    · cases h
    · rw [e1, h2]
      rw [e1] at e3
      exact ⟨HG4.out, Or.inr (Or.inr ⟨Hv.out, a4, r4, c4, h1.congr sub_nil, rfl, e2, e3⟩)⟩
end Go.Proofs.Ytdenjldadlgniaa
