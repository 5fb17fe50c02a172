/- Place of the program. -/
import Derived.Test.YtdenjldadlgniaaLabK
set_option linter.unusedSimpArgs false
set_option linter.unusedVariables false
namespace Go.Proofs.Ytdenjldadlgniaa
open Go.RowKit
attribute [local go_sem ↓] Go.wp_at_zero Go.wp_at_succ

/-- The search's cells and the bounds while these are laid from the end on. -/
structure PlS (w wr : World) (gs gr : Nat) (pc qc : Option Addr) (cc cq n : Nat) (c : List (List Int)) (j : Nat) : Prop where
  g : Grew w wr
  s0 : wr.cell? ⟨gs, 0, none⟩ = some (.slice pc n cc)
  s1 : wr.cell? ⟨gs, 1, none⟩ = some (.slice qc n cq)
  s2 : wr.cell? ⟨gs, 2, none⟩ = some (.slice (some ⟨gr, 0, none⟩) (n + 1) (n + 1))
  s3 : wr.cell? ⟨gs, 3, none⟩ = some (.slice none 0 0)
  s4 : wr.cell? ⟨gs, 4, none⟩ = some (.int .i64 0)
  s5 : wr.cell? ⟨gs, 5, none⟩ = some (.bool false)
  fz : ∀ i, wr.frozen? ⟨gs, i, none⟩ = false
  fr : ∀ i, wr.frozen? ⟨gr, i, none⟩ = false
  lo : ∀ t, t < j → wr.cell? ⟨gr, t, none⟩ = some (.int .i64 0)
  hi : ∀ t, j ≤ t → t ≤ n → wr.cell? ⟨gr, t, none⟩ = some (.int .i64 (rstS c t))
  ne : gr ≠ gs
  wl : w.heap.size ≤ gr ∧ w.heap.size ≤ gs
section
variable {w wr wr' : World} {gs gr : Nat} {pc qc : Option Addr} {cc cq n j : Nat} {c : List (List Int)}
theorem PlS.grew (h : PlS w wr gs gr pc qc cc cq n c j) (hg : Grew wr wr') : PlS w wr' gs gr pc qc cc cq n c j :=
  ⟨h.g.trans hg, hg.cellEq h.s0, hg.cellEq h.s1, hg.cellEq h.s2, hg.cellEq h.s3, hg.cellEq h.s4, hg.cellEq h.s5,
    fun i => hg.frozenEq (World.block_lt_of_cell? wr _ h.s0) (h.fz i),
    fun i => by
      by_cases hb : gr < wr.heap.size
      · exact hg.frozenEq hb (h.fr i)
      · exfalso
        by_cases e : 0 < j
        · exact hb (World.block_lt_of_cell? wr _ (h.lo 0 e))
        · by_cases e2 : 0 ≤ n
          · exact hb (World.block_lt_of_cell? wr _ (h.hi 0 (by omega) e2))
          · omega,
    fun t ht => hg.cellEq (h.lo t ht), fun t h1 h2 => hg.cellEq (h.hi t h1 h2), h.ne, h.wl⟩
theorem PlS.put (h : PlS w wr gs gr pc qc cc cq n c (j + 1)) (z : Int) (hz : z = rstS c j) : PlS w (wr.setCell ⟨gr, j, none⟩ (.int .i64 z)) gs gr pc qc cc cq n c j := by
  subst hz
  have hne := h.ne
  refine ⟨GX.grew h.g h.wl.1 (Gr.setCell (ex := fun k => k = gr) (Gr.refl (fun k => k = gr) wr) rfl _), ?_, ?_, ?_, ?_, ?_, ?_, fun i => ?_, fun i => ?_, fun t ht => ?_, fun t h1 h2 => ?_, h.ne, h.wl⟩
  · rw [setC_other _ (by omega)]; exact h.s0
  · rw [setC_other _ (by omega)]; exact h.s1
  · rw [setC_other _ (by omega)]; exact h.s2
  · rw [setC_other _ (by omega)]; exact h.s3
  · rw [setC_other _ (by omega)]; exact h.s4
  · rw [setC_other _ (by omega)]; exact h.s5
  · rw [setC_frz]; exact h.fz i
  · rw [setC_frz]; exact h.fr i
  · rw [setC_other _ (by omega)]; exact h.lo t (by omega)
  · by_cases e : t = j
    · subst e
      exact setC_same _ (h.lo t (by omega))
    · rw [setC_other _ (by omega)]; exact h.hi t (by omega) h2
end
theorem PlS.begin (w : World) (pc qc : Option Addr) (cc cq n : Nat) (c : List (List Int)) (hc : c.length = n) (t t' : TypeId) :
    PlS w ((w.alloc (.cells (Array.replicate (n + 1) (.int .i64 0)) t)).alloc (.cells #[.slice pc n cc, .slice qc n cq, .slice (some ⟨w.heap.size, 0, none⟩) (n + 1) (n + 1), .slice none 0 0, .int .i64 0, .bool false] t')) (w.heap.size + 1) w.heap.size pc qc cc cq n c n := by
  have hz : rstS c n = 0 := by rw [← hc]; exact rst_end c
  have hr : ∀ t0, t0 ≤ n → ((w.alloc (.cells (Array.replicate (n + 1) (.int .i64 0)) t)).alloc (.cells #[.slice pc n cc, .slice qc n cq, .slice (some ⟨w.heap.size, 0, none⟩) (n + 1) (n + 1), .slice none 0 0, .int .i64 0, .bool false] t')).cell? ⟨w.heap.size, t0, none⟩ = some (.int .i64 0) := fun t0 ht => by
    rw [cell?_alloc_if, if_pos (by simp), cell?_alloc_if, if_neg (by omega), if_pos rfl, Array.getElem?_replicate, if_pos (by omega)]
  refine ⟨by (repeat (first | exact Grew.refl _ | refine Grew.over ?_ _ | refine Grew.alloc ?_ _ | refine Grew.drew ?_ | refine Grew.drewN ?_ _)), ?_, ?_, ?_, ?_, ?_, ?_, fun i => ?_, fun i => ?_, fun t ht => hr t (by omega), fun t h1 h2 => ?_, by omega, by omega, by omega⟩
  · rw [cell?_alloc_if, if_neg (by simp), if_pos (by simp)]; rfl
  · rw [cell?_alloc_if, if_neg (by simp), if_pos (by simp)]; rfl
  · rw [cell?_alloc_if, if_neg (by simp), if_pos (by simp)]; rfl
  · rw [cell?_alloc_if, if_neg (by simp), if_pos (by simp)]; rfl
  · rw [cell?_alloc_if, if_neg (by simp), if_pos (by simp)]; rfl
  · rw [cell?_alloc_if, if_neg (by simp), if_pos (by simp)]; rfl
  · rw [frozen?_alloc_if, if_neg (by simp)]
  · rw [frozen?_alloc_if, if_pos (by simp), frozen?_alloc_if, if_neg (by simp)]
  · have e : t = n := by omega
    subst e
    rw [hz]; exact hr t (Nat.le_refl _)
theorem no_empty {m : List (List Bx)} {c : List (List Int)} (hV : vL m c) {u : Nat} (hu : u < m.length) (h : (rowOf c u).length = 0) : ∀ b, ¬ Cm m b := fun b hb => by
  have := hb.1.lt u (by rw [hb.2]; exact hu)
  rw [← hV.co u hu] at this
  omega
/-- What Place answers. -/
def PlacePost (m : List (List Bx)) (c : List (List Int)) (w : World) (e : Ending) (w' : World) : Prop :=
  Grew w w' ∧ ((vLB m c = false ∧ e = .returned (.tuple #[.slice none 0 0, .int .i64 0, .int .i64 1])) ∨
    (vLB m c = true ∧ (∀ b, ¬ Cm m b) ∧ e = .returned (.tuple #[.slice none 0 0, .int .i64 0, .int .i64 15])) ∨
    (vLB m c = true ∧ ∃ a q cp, Bst c m.length (Cm m) a ∧ e = .returned (.tuple #[.slice q a.length cp, .int .i64 (lco c a), .int .i64 0]) ∧ Ints w' q (intL a) ∧ a.length ≤ cp ∧ cp ≤ 9223372036854775807))

set_option maxHeartbeats 32000000 in
set_option maxRecDepth 100000 in
theorem place_p (p q : Option Addr) (n k cp cq : Nat) (m : List (List Bx)) (c : List (List Int)) (w : World) (hM : BMat w p m) (hC : Mat w q c) (hn : m.length = n) (hk : c.length = k) :
    Calls Try.prog 17 #[.slice p n cp, .slice q k cq] w (PlacePost m c w) := by
  have HM := Lib.hid hM
  have HC := Lib.hid hC
  have hmm := hM.1
  have hmc := hC.1
  have HN := Lib.hid hn
  have HK := Lib.hid hk
  clear hM hC
  cases hv : vLB m c
  · have Hv := Lib.hid hv
    have Hp : Hid (∀ w', Grew w w' → PlacePost m c w (.returned (.tuple #[.slice none 0 0, .int .i64 0, .int .i64 1])) w') := Lib.hid (fun w' hg => ⟨hg, Or.inl ⟨hv, rfl⟩⟩)
    clear hv
    go_enter Try.func17, Try.ntmps17
    go_wp2_with ((go_at_call 10; apply Calls.mono; (with_reducible exact valid50p_e Hv.out HM.out HC.out HN.out HK.out); rintro e w' ⟨rfl, x, rfl⟩))
    go_ret3
    exact Hp.out _ (by (repeat (first | exact Grew.refl _ | refine Grew.over ?_ _ | refine Grew.alloc ?_ _ | refine Grew.drew ?_ | refine Grew.drewN ?_ _)))
  have Hv := Lib.hid hv
  have hV := vLB_iff.1 hv
  have hkn : k = n := by rw [← hn, ← hk]; exact hV.cn
  subst hkn
  have hn8 : k ≤ 8 := by rw [← hn]; exact hV.n
  have HV := Lib.hid hV
  have Hno : Hid (∀ w', Grew w w' → (∀ b, ¬ Cm m b) → PlacePost m c w (.returned (.tuple #[.slice none 0 0, .int .i64 0, .int .i64 15])) w') := Lib.hid (fun w' hg h => ⟨hg, Or.inr (Or.inl ⟨hv, h, rfl⟩)⟩)
  have Hyes : Hid (∀ w' a q cp, Grew w w' → Bst c m.length (Cm m) a → Ints w' q (intL a) → a.length ≤ cp → cp ≤ 9223372036854775807 → PlacePost m c w (.returned (.tuple #[.slice q a.length cp, .int .i64 (lco c a), .int .i64 0])) w') :=
    Lib.hid (fun w' a q cp hg h1 h2 h3 h4 => ⟨hg, Or.inr (Or.inr ⟨hv, a, q, cp, h1, rfl, h2, h3, h4⟩)⟩)
  have hmk := make_ints (k + 1) (by omega)
  rw [show ((k + 1 : Nat) : Int) = (k : Int) + 1 by omega] at hmk
  clear hv hV hn hk
  go_enter Try.func17, Try.ntmps17
  go_wp2_with (go_at_call 10; apply Calls.mono; (with_reducible exact valid50p_e Hv.out HM.out HC.out HN.out HK.out); rintro e w1 ⟨rfl, hg1⟩; have HG1 := Lib.hid hg1; clear hg1)
  go_loopw [8] (fun v wr => ∃ j : Nat, j ≤ k ∧ v = .int .i64 ((j : Int) - 1) ∧ PlS w1 wr (w1.heap.size + 1) w1.heap.size p q cp cq k c j ∧ ∀ t, j ≤ t → t < k → 0 < (rowOf c t).length) (fun v _ => (intOf v + 1).toNat)
  case atStart => exact ⟨k, Nat.le_refl _, rfl, PlS.begin w1 p q cp cq k c HK.out _ _, fun t h1 h2 => by omega⟩
  case round =>
    obtain ⟨j, hj, rfl, hP, hall⟩ := hrel
    have HP := Lib.hid hP
    have Hall := Lib.hid hall
    clear hP hall
    by_cases hj0 : j = 0
    · subst hj0
      rw [show ((0 : Nat) : Int) - 1 = -1 by decide]
      have hcm : c.length = m.length := by rw [HK.out, HN.out]
      have Hsz : Hid (w.heap.size ≤ w1.heap.size + 1) := Lib.hid (Nat.le_succ_of_le HG1.out.below.size)
      have Hgr : Hid (Grew w wr) := Lib.hid (HG1.out.trans HP.out.g)
      have Hfrom : Hid (Calls Try.prog 31 #[.pointer (some ⟨w1.heap.size + 1, 0, none⟩), .slice none 0 0, .slice none 0 0, .int .i64 0] wr (FromPost (w1.heap.size + 1) w1.heap.size (k + 1) p q cp cq m c [] wr)) := Lib.hid (by
        have hS : Srch wr (w1.heap.size + 1) w1.heap.size (k + 1) p q cp cq m c false [] 0 :=
          ⟨by rw [HN.out]; exact HP.out.s0, by rw [HN.out]; exact HP.out.s1, by rw [HN.out]; exact HP.out.s2, ⟨_, _, _, HP.out.s3, fun h => by cases h⟩, HP.out.s4, HP.out.s5, HP.out.fz, fun i hi => HP.out.hi i (by omega) (by rw [HN.out] at hi; exact hi), HP.out.ne⟩
        exact from_p (w1.heap.size + 1) w1.heap.size (k + 1) p q cp cq m c w HV.out HM.out HC.out Hsz.out m.length [] (by simp) none 0 none 0 false [] 0 wr
          ⟨Hgr.out, Ch.nil m, hS, Or.inl ⟨rfl, fun b => Bef.nil⟩, Or.inl ⟨rfl, rfl⟩, Ints.nil wr none, Nat.le_refl _, by decide, Or.inl ⟨rfl, rfl⟩, Bxs.nil wr none, Nat.le_refl _, by decide⟩)
      clear hcm
      go_wp2_with (go_at_call 31; apply Calls.mono; (with_reducible exact Hfrom.out); rintro e w9 ⟨rfl, hgx, f, a, z, hS, hSS⟩; have HG9 := Lib.hid (GX.grew Hgr.out Hsz.out hgx); have HS9 := Lib.hid hS; have HSS := Lib.hid (hSS.congr upt_nil); clear hgx hS hSS; have c5 := HS9.out.c5; have c4 := HS9.out.c4; obtain ⟨q3, k3, cp3, c3, hc3⟩ := HS9.out.c3; have Hc3 := Lib.hid hc3; clear hc3; have hlt9 := HS9.out.lt; cases f)
      · go_ret3
        exact Hno.out w9 HG9.out HSS.out.none
      · have Hok : Hid (k3 = a.length ∧ Ints w9 q3 (intL a) ∧ a.length ≤ cp3 ∧ cp3 ≤ 9223372036854775807) := Lib.hid ⟨(Hc3.out trivial).1, (Hc3.out trivial).2.1, (Hc3.out trivial).2.2.2⟩
        refine wp_region_over (by kernel_rfl) (by kernel_rfl) ?_; (repeat (go_big_quiet_step (fail))); refine wpQuiet_nil ?_; rintro _ ⟨x, rfl⟩
        go_wp2
        go_ret3
        rcases HSS.out with ⟨h, _⟩ | ⟨_, h1, h2⟩
        · cases h
        · rw [Hok.out.1, h2]
          exact Hyes.out _ a q3 cp3 (HG9.out.trans (by (repeat (first | exact Grew.refl _ | refine Grew.over ?_ _ | refine Grew.alloc ?_ _ | refine Grew.drew ?_ | refine Grew.drewN ?_ _)))) h1 (Hok.out.2.1.grew (by (repeat (first | exact Grew.refl _ | refine Grew.over ?_ _ | refine Grew.alloc ?_ _ | refine Grew.drew ?_ | refine Grew.drewN ?_ _)))) Hok.out.2.2.1 Hok.out.2.2.2
    · obtain ⟨u, rfl⟩ : ∃ u, j = u + 1 := ⟨j - 1, by omega⟩
      rw [show ((u + 1 : Nat) : Int) - 1 = (u : Int) by omega]
      obtain ⟨b, o, rp, rcx, hqe, hb, d0, hR⟩ := HC.out.row2 (u := u) (by rw [HK.out]; omega)
      subst hqe
      have HR := Lib.hid hR
      have hL16 := (pB_row (by have := Hv.out; unfold vLB at this; rw [Bool.and_eq_true, Bool.and_eq_true] at this; exact this.1.2)).2 u (by rw [HK.out]; omega)
      replace hL16 := hL16.1
      have Hgr : Hid (Grew w wr) := Lib.hid (HG1.out.trans HP.out.g)
      replace d0 := Hgr.out.cellEq d0
      replace hb := Nat.lt_of_lt_of_le hb Hgr.out.below.size
      obtain ⟨L, hLe⟩ : ∃ L, (rowOf c u).length = L := ⟨_, rfl⟩
      rw [hLe] at d0 hL16
      have HLe := Lib.hid hLe
      clear hLe hR
      by_cases hL : L = 0
      · subst hL
        have Hn := Lib.hid (Hno.out wr Hgr.out (no_empty HV.out (u := u) (by rw [HN.out]; omega) HLe.out))
        go_wp2
        go_ret3
        exact Hn.out
      have hL0 : 0 < L := by omega
      obtain ⟨mn, hmn⟩ : ∃ mn, mnL (rowOf c u) = mn := ⟨_, rfl⟩
      have Hmn := Lib.hid hmn
      obtain ⟨R1, hR1⟩ : ∃ R1, rstS c (u + 1) = R1 := ⟨_, rfl⟩
      have hb1 := rst_bd HV.out (u + 1)
      have hb2 := rst_bd HV.out u
      have hst : rstS c u = R1 + mn := by rw [rst_step (by rw [HK.out]; omega), hR1, hmn]
      rw [hR1] at hb1
      rw [hst] at hb2
      have Hst := Lib.hid hst
      have e2 := HP.out.s2
      have e1 := HP.out.hi (u + 1) (Nat.le_refl _) (by omega)
      rw [hR1] at e1
      have e0 := HP.out.lo u (by omega)
      have f0 := HP.out.fr u
      have hgs := World.block_lt_of_cell? wr _ e2
      have hgr := World.block_lt_of_cell? wr _ e1
      have hwr : IntKind.i64.wrap (R1 + mn) = R1 + mn := by rw [IntKind.wrap_i64]; omega
      have hwu : IntKind.i64.wrap ((u : Int) + 1) = (u : Int) + 1 := by rw [IntKind.wrap_i64]; omega
      have huk : u < k := by omega
      have huk1 : (u : Int) < (k : Int) + 1 := by omega
      have e0' : wr.drew.cell? ⟨w1.heap.size, u, none⟩ = some (.int .i64 0) := e0
      have f0' : wr.drew.frozen? ⟨w1.heap.size, u, none⟩ = false := f0
      have hu1 : (0 : Int) ≤ (u : Int) + 1 := by omega
      clear hmn hR1 hst hL
      have hLz : ((L : Int) == 0) = false := by rw [beq_eq_false_iff_ne]; omega
      go_wp2
      refine wp_region_T (s := 20) (S := fun w' => w'.cell? ⟨w1.heap.size + 1, 2, none⟩ = some (.slice (some ⟨w1.heap.size, 0, none⟩) (k + 1) (k + 1)) ∧ w'.cell? ⟨w1.heap.size, u + 1, none⟩ = some (.int .i64 R1) ∧ w'.cell? ⟨b, o + u, none⟩ = some (.slice rp L rcx)) (by kernel_rfl) ⟨e2, e1, d0⟩ (fun hH => ?_)
      refine wpAnyT_takeL (i := 0) (v := ?_) rfl (by kernel_rfl) (by kernel_rfl) (by kernel_rfl) (by kernel_rfl) (fun _ _ _ h => h) (Or.inl ⟨by rfl, ?_⟩) (by assumption) ?_
      rotate_left
      · (intro w hSw; (try dsimp only at hSw); go_simp; (try with_reducible rfl))
      (try simp only [Act.put, List.setIfInBounds_toArray, List.set_cons_zero, List.set_cons_succ])
      refine wpAnyT_takeL (i := 1) (v := ?_) rfl (by kernel_rfl) (by kernel_rfl) (by kernel_rfl) (by kernel_rfl) (fun _ _ _ h => h) (Or.inl ⟨by rfl, ?_⟩) (by assumption) ?_
      rotate_left
      · (intro w hSw; (try dsimp only at hSw); go_simp; (try with_reducible rfl))
      (try simp only [Act.put, List.setIfInBounds_toArray, List.set_cons_zero, List.set_cons_succ])
      refine wpAnyT_takeL (i := 2) (v := ?_) rfl (by kernel_rfl) (by kernel_rfl) (by kernel_rfl) (by kernel_rfl) (fun _ _ _ h => h) (Or.inl ⟨by rfl, ?_⟩) (by assumption) ?_
      rotate_left
      · (intro w hSw; (try dsimp only at hSw); go_simp; (try with_reducible rfl))
      (try simp only [Act.put, List.setIfInBounds_toArray, List.set_cons_zero, List.set_cons_succ])
      refine wpAnyT_takeL (i := 3) (v := ?_) rfl (by kernel_rfl) (by kernel_rfl) (by kernel_rfl) (by kernel_rfl) (fun _ _ _ h => h) (Or.inl ⟨by rfl, ?_⟩) (by assumption) ?_
      rotate_left
      · (intro w hSw; (try dsimp only at hSw); go_simp; (try with_reducible rfl))
      (try simp only [Act.put, List.setIfInBounds_toArray, List.set_cons_zero, List.set_cons_succ])
      refine wpAnyT_takeL (i := 4) (v := ?_) rfl (by kernel_rfl) (by kernel_rfl) (by kernel_rfl) (by kernel_rfl) (fun _ _ _ h => h) (Or.inl ⟨by rfl, ?_⟩) (by assumption) ?_
      rotate_left
      · (intro w hSw; (try dsimp only at hSw); go_simp; (try with_reducible rfl))
      (try simp only [Act.put, List.setIfInBounds_toArray, List.set_cons_zero, List.set_cons_succ])
      refine wpAnyT_takeL (i := 5) (v := ?_) rfl (by kernel_rfl) (by kernel_rfl) (by kernel_rfl) (by kernel_rfl) (fun _ _ _ h => h) (Or.inl ⟨by rfl, ?_⟩) (by assumption) ?_
      rotate_left
      · (intro w hSw; (try dsimp only at hSw); go_simp; (try with_reducible rfl))
      (try simp only [Act.put, List.setIfInBounds_toArray, List.set_cons_zero, List.set_cons_succ])
      refine wpAnyT_takeL (i := 6) (v := ?_) rfl (by kernel_rfl) (by kernel_rfl) (by kernel_rfl) (by kernel_rfl) (fun _ _ _ h => h) (Or.inl ⟨by rfl, ?_⟩) (by assumption) ?_
      rotate_left
      · (intro w hSw; (try dsimp only at hSw); go_simp; (try with_reducible rfl))
      (try simp only [Act.put, List.setIfInBounds_toArray, List.set_cons_zero, List.set_cons_succ])
      refine wpAnyT_takeL (i := 7) (v := ?_) rfl (by kernel_rfl) (by kernel_rfl) (by kernel_rfl) (by kernel_rfl) (fun _ _ _ h => h) (Or.inl ⟨by rfl, ?_⟩) (by assumption) ?_
      rotate_left
      · (intro w hSw; (try dsimp only at hSw); go_simp; (try with_reducible rfl))
      (try simp only [Act.put, List.setIfInBounds_toArray, List.set_cons_zero, List.set_cons_succ])
      refine wpAnyT_takeL (i := 8) (v := ?_) rfl (by kernel_rfl) (by kernel_rfl) (by kernel_rfl) (by kernel_rfl) (fun _ _ _ h => h) (Or.inl ⟨by rfl, ?_⟩) (by assumption) ?_
      rotate_left
      · (intro w hSw; (try dsimp only at hSw); go_simp; (try with_reducible rfl))
      (try simp only [Act.put, List.setIfInBounds_toArray, List.set_cons_zero, List.set_cons_succ])
      refine wpAnyT_takeL (i := 9) (v := ?_) rfl (by kernel_rfl) (by kernel_rfl) (by kernel_rfl) (by kernel_rfl) (fun _ _ _ h => h) (Or.inl ⟨by rfl, ?_⟩) (by assumption) ?_
      rotate_left
      · (intro w hSw; (try dsimp only at hSw); go_simp; (try with_reducible rfl))
      (try simp only [Act.put, List.setIfInBounds_toArray, List.set_cons_zero, List.set_cons_succ])
      refine wpAnyT_takeL (i := 10) (v := ?_) rfl (by kernel_rfl) (by kernel_rfl) (by kernel_rfl) (by kernel_rfl) (fun _ _ _ h => h) (Or.inl ⟨by rfl, ?_⟩) (by assumption) ?_
      rotate_left
      · (intro w hSw; (try dsimp only at hSw); go_simp; (try with_reducible rfl))
      (try simp only [Act.put, List.setIfInBounds_toArray, List.set_cons_zero, List.set_cons_succ])
      refine wpAnyT_takeL (i := 11) (v := ?_) rfl (by kernel_rfl) (by kernel_rfl) (by kernel_rfl) (by kernel_rfl) (fun _ _ _ h => h) (Or.inl ⟨by rfl, ?_⟩) (by assumption) ?_
      rotate_left
      · (intro w hSw; (try dsimp only at hSw); go_simp; (try with_reducible rfl))
      (try simp only [Act.put, List.setIfInBounds_toArray, List.set_cons_zero, List.set_cons_succ])
      refine wpAnyT_takeL (i := 12) (v := ?_) rfl (by kernel_rfl) (by kernel_rfl) (by kernel_rfl) (by kernel_rfl) (fun _ _ _ h => h) (Or.inl ⟨by rfl, ?_⟩) (by assumption) ?_
      rotate_left
      · (intro w hSw; (try dsimp only at hSw); go_simp; (try with_reducible rfl))
      (try simp only [Act.put, List.setIfInBounds_toArray, List.set_cons_zero, List.set_cons_succ])
      refine wpAnyT_takeL (i := 13) (v := ?_) rfl (by kernel_rfl) (by kernel_rfl) (by kernel_rfl) (by kernel_rfl) (fun _ _ _ h => h) (Or.inl ⟨by rfl, ?_⟩) (by assumption) ?_
      rotate_left
      · (intro w hSw; (try dsimp only at hSw); go_simp; (try with_reducible rfl))
      (try simp only [Act.put, List.setIfInBounds_toArray, List.set_cons_zero, List.set_cons_succ])
      refine wpAnyT_takeL (i := 14) (v := ?_) rfl (by kernel_rfl) (by kernel_rfl) (by kernel_rfl) (by kernel_rfl) (fun _ _ _ h => h) (Or.inl ⟨by rfl, ?_⟩) (by assumption) ?_
      rotate_left
      · (intro w hSw; (try dsimp only at hSw); go_simp; (try with_reducible rfl))
      (try simp only [Act.put, List.setIfInBounds_toArray, List.set_cons_zero, List.set_cons_succ])
      refine wpAnyT_takeL (i := 15) (v := ?_) rfl (by kernel_rfl) (by kernel_rfl) (by kernel_rfl) (by kernel_rfl) (fun _ _ _ h => h) (Or.inl ⟨by rfl, ?_⟩) (by assumption) ?_
      rotate_left
      · (intro w hSw; (try dsimp only at hSw); go_simp; (try with_reducible rfl))
      (try simp only [Act.put, List.setIfInBounds_toArray, List.set_cons_zero, List.set_cons_succ])
      refine wpAnyT_takeL (i := 16) (v := ?_) rfl (by kernel_rfl) (by kernel_rfl) (by kernel_rfl) (by kernel_rfl) (fun _ _ _ h => h) (Or.inl ⟨by rfl, ?_⟩) (by assumption) ?_
      rotate_left
      · (intro w hSw; (try dsimp only at hSw); go_simp; (try with_reducible rfl))
      (try simp only [Act.put, List.setIfInBounds_toArray, List.set_cons_zero, List.set_cons_succ])
      refine wpAnyT_all (rs := [17]) (by kernel_rfl) (by simp) (AllT.consL (i := 17) rfl (fun K hK => ?_) AllT.nil)
      go_simp
      go_wp2_with ((go_at_call 30; apply Calls.mono; (with_reducible exact min_e Hmn.out (HR.out.grew (Hgr.out.trans (by (repeat (first | exact Grew.refl _ | refine Grew.over ?_ _ | refine Grew.alloc ?_ _ | refine Grew.drew ?_ | refine Grew.drewN ?_ _))))) HLe.out hL0); rintro e w' ⟨rfl, rfl⟩))
      refine hK.out _ _ hH (fun hH => ?_)
      clear hK K
      (try simp only [Act.put, List.setIfInBounds_toArray, List.set_cons_zero, List.set_cons_succ])
      refine wpAnyT_takeL (i := 18) (v := ?_) rfl (by kernel_rfl) (by kernel_rfl) (by kernel_rfl) (by kernel_rfl) (fun _ _ _ h => h) (Or.inl ⟨by rfl, ?_⟩) (by assumption) ?_
      rotate_left
      · (intro w hSw; (try dsimp only at hSw); go_simp; (try with_reducible rfl))
      (try simp only [Act.put, List.setIfInBounds_toArray, List.set_cons_zero, List.set_cons_succ])
      refine wpAnyT_takeL (i := 19) (v := ?_) rfl (by kernel_rfl) (by kernel_rfl) (by kernel_rfl) (by kernel_rfl) (fun _ _ _ h => h) (Or.inl ⟨by rfl, ?_⟩) (by assumption) ?_
      rotate_left
      · (intro w hSw; (try dsimp only at hSw); go_simp; (try with_reducible rfl))
      (try simp only [Act.put, List.setIfInBounds_toArray, List.set_cons_zero, List.set_cons_succ])
      refine wpAnyT_all (rs := [20]) (by kernel_rfl) (by simp) (AllT.lastL rfl (fun K hK => ?_))
      go_simp
      refine hK.out _ _ ?_
      clear hK K
      (try simp only [Act.put, List.setIfInBounds_toArray, List.set_cons_zero, List.set_cons_succ])
      refine wpAnyT_done (by kernel_rfl) ?_ _
      go_wp2
      go_roundw
      case rel => exact ⟨u, by omega, by go_num, (HP.out.put _ Hst.out.symm).grew (by (repeat (first | exact Grew.refl _ | refine Grew.over ?_ _ | refine Grew.alloc ?_ _ | refine Grew.drew ?_ | refine Grew.drewN ?_ _))), fun t h1 h2 => (by
        by_cases e : t = u
        · rw [e, HLe.out]; exact hL0
        · exact Hall.out t (by omega) h2)⟩
      case measure => simp [intOf]
end Go.Proofs.Ytdenjldadlgniaa
