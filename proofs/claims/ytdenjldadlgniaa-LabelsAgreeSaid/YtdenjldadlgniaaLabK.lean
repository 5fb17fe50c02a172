/- The search from a choice (printed by gen_labk.py). -/
import Derived.Test.YtdenjldadlgniaaLabJ
set_option linter.unusedSimpArgs false
set_option linter.unusedVariables false
namespace Go.Proofs.Ytdenjldadlgniaa
open Go.RowKit
attribute [local go_sem ↓] Go.wp_at_zero Go.wp_at_succ

section
variable {P : Program} {Q : Exit → Act → World → Prop} {md : Region.Mode} {S : World → Prop} {s : Nat}
/-- An operation is taken first; S holds behind each operation. -/
theorem wpAnyT_takeV {l : List Oper} {i : Nat} {oi : Oper} {v : Value} {fuel : Nat} {listed : Array Bool} {a : Act} {w : World} (hi : l[i]? = some oi)
    (hn : Region.noSelect l.toArray = true) (hf : Region.free md l.toArray listed i = true) (hr : (Region.ready md l.toArray listed).contains i = true) (hs : l.length ≤ s)
    (hQ : ∀ c a w, Q (.panic c) (a.put oi.dst v) w → Q (.panic c) a w) (hy : YieldsIf P l.toArray S oi v a) (hS : S w)
    (h : wpAnyT P md l.toArray Q S s fuel (listed.setIfInBounds i true) (a.put oi.dst v) w) : wpAnyT P md l.toArray Q S s (fuel + 1) listed a w :=
  wpAnyT_first (by simpa using hi) (Region.noSelect_spec hn) hQ (fun listed h => by
    obtain ⟨_, os, hos, _⟩ := mem_ready.1 h
    rw [Array.getElem?_eq_none (by simpa using hs)] at hos
    cases hos) fuel listed a w (Region.free_spec (by simpa using hi) hf) (by simpa using hr) hy hS h
end
def FromPost (gs gr rc : Nat) (pc qc : Option Addr) (cc cq : Nat) (m : List (List Bx)) (c : List (List Int)) (l : List Nat) (w : World) (e : Ending) (w' : World) : Prop :=
  e = .returned (.tuple #[]) ∧ GX gs w w' ∧ ∃ f a z, Srch w' gs gr rc pc qc cc cq m c f a z ∧ SS c m.length (Upt m l) f a z
/-- What is known when the search is called. -/
structure FromPre (gs gr rc : Nat) (pc qc : Option Addr) (cc cq : Nat) (m : List (List Bx)) (c : List (List Int)) (w0 : World) (l : List Nat) (p : Option Addr) (cp : Nat) (q : Option Addr) (cq2 : Nat) (fnd : Bool) (a : List Nat) (z : Int) (w : World) : Prop where
  g0 : Grew w0 w
  ch : Ch m l
  s : Srch w gs gr rc pc qc cc cq m c fnd a z
  ss : SS c m.length (Bef m l) fnd a z
  hp : Fst gs p l.length
  hpi : Ints w p (intL l)
  hpc : l.length ≤ cp
  hpc2 : cp ≤ 9223372036854775807
  hq : Fst gs q l.length
  hqb : Bxs w q (chL m l)
  hqc : l.length ≤ cq2
  hqc2 : cq2 ≤ 9223372036854775807
set_option maxHeartbeats 16000000 in
theorem from_leaf (gs gr rc : Nat) (pc qc : Option Addr) (cc cq : Nat) (m : List (List Bx)) (c : List (List Int)) (w0 : World) (hV : vL m c) (l : List Nat) (hl : l.length = m.length)
    (p : Option Addr) (cp : Nat) (q : Option Addr) (cq2 : Nat) (fnd : Bool) (a : List Nat) (z : Int) (w : World) (H : FromPre gs gr rc pc qc cc cq m c w0 l p cp q cq2 fnd a z w) :
    Calls Try.prog 31 #[.pointer (some ⟨gs, 0, none⟩), .slice p l.length cp, .slice q l.length cq2, .int .i64 (lco c l)] w (FromPost gs gr rc pc qc cc cq m c l w) := by
  have HL := Lib.hid hl
  obtain ⟨i, hi⟩ : ∃ i, l.length = i := ⟨_, rfl⟩
  obtain ⟨N, hN⟩ : ∃ N, m.length = N := ⟨_, rfl⟩
  obtain ⟨T, hT⟩ : ∃ T, lco c l = T := ⟨_, rfl⟩
  obtain ⟨R, hR⟩ : ∃ R, rstS c l.length = R := ⟨_, rfl⟩
  have hTb := lco_bd hV H.ch
  have hRb := rst_bd hV l.length
  have hN8 := hV.n
  have hle := H.ch.le
  rw [hT] at hTb
  rw [hR] at hRb
  have HSr := Lib.hid H.s
  have HP := Lib.hid H.hp
  have HPI := Lib.hid H.hpi
  have HQ := Lib.hid H.hq
  have HQB := Lib.hid H.hqb
  have hcp := H.hpc
  have hcp2 := H.hpc2
  have hcq := H.hqc
  have hcq2 := H.hqc2
  have HlI : Hid ((intL l).length = l.length) := Lib.hid (intL_length l)
  have HlC : Hid ((chL m l).length = l.length) := Lib.hid (chL_len m l)
  have c0 := H.s.c0
  have c1 := H.s.c1
  have c2 := H.s.c2
  have c4 := H.s.c4
  have c5 := H.s.c5
  have cR := H.s.rst l.length H.ch.le
  rw [hR] at cR
  have hgs := H.s.lt
  have hgr := World.block_lt_of_cell? w _ cR
  rw [hN] at c0 c1 c2 hN8 hle
  have H := Lib.hid H
  have HR0 := Lib.hid hR
  have Hi := Lib.hid hi
  have HN := Lib.hid hN
  have HT := Lib.hid hT
  rw [hT]
  rw [hi] at HP HQ hcp hcq HlI HlC cR hTb hle ⊢
  clear hi hN hT hR hl
  have hiN : i = N := by rw [← Hi.out, ← HN.out]; exact HL.out
  subst hiN
  have hCm : Hid (Cm m l) := Lib.hid ⟨H.out.ch, HL.out⟩
  cases fnd
  case' true =>
    by_cases hz : z ≤ T + R
    · have Hz : Hid (z ≤ lco c l + rstS c l.length) := Lib.hid (by rw [HT.out, HR0.out]; exact hz)
      have hd : decide (z ≤ T + R) = true := decide_eq_true hz
      go_enter Try.func31, Try.ntmps31
      go_wp2
      refine wp_region_over (by kernel_rfl) (by kernel_rfl) ?_; (repeat (go_big_quiet_step (fail))); refine wpQuiet_nil ?_; rintro _ ⟨x, rfl⟩
      go_wp2
      ((try simp only [Exit.inBlock, Exit.then]); refine bodyPost_ret (results_none rfl _ _ _) rfl ?_)
      exact ⟨rfl, Gr.of_grew _ (by (repeat (first | exact Grew.refl _ | refine Grew.over ?_ _ | refine Grew.alloc ?_ _ | refine Grew.drew ?_ | refine Grew.drewN ?_ _))), true, a, z, HSr.out.grew (by (repeat (first | exact Grew.refl _ | refine Grew.over ?_ _ | refine Grew.alloc ?_ _ | refine Grew.drew ?_ | refine Grew.drewN ?_ _))), SS.prune hV H.out.ch.le H.out.ss Hz.out⟩
    have HZ : Hid (T < z) := Lib.hid (by omega)
    have hd : decide (z ≤ T + R) = false := decide_eq_false hz
    clear hz
  all_goals (
    go_enter Try.func31, Try.ntmps31
    go_wp2
    refine wp_region_over (by kernel_rfl) (by kernel_rfl) ?_; (repeat (go_big_quiet_step (fail))); refine wpQuiet_nil ?_; rintro _ ⟨x, rfl⟩)
  all_goals (
    go_wp2_with (go_at_call 49; apply Calls.mono; (with_reducible exact clone_any gs _ _ _ (intL l) _ (HSr.out.grew (show Grew w _ by (repeat (first | exact Grew.refl _ | refine Grew.over ?_ _ | refine Grew.alloc ?_ _ | refine Grew.drew ?_ | refine Grew.drewN ?_ _)))).lt (HPI.out.grew (by (repeat (first | exact Grew.refl _ | refine Grew.over ?_ _ | refine Grew.alloc ?_ _ | refine Grew.drew ?_ | refine Grew.drewN ?_ _)))) HlI.out HP.out (by omega)); rintro e w2 ⟨hg2, q3, c3, rfl, hI3, hF3, hc3, hc3'⟩; have HG2 := Lib.hid (Grew.trans (show Grew w _ by (repeat (first | exact Grew.refl _ | refine Grew.over ?_ _ | refine Grew.alloc ?_ _ | refine Grew.drew ?_ | refine Grew.drewN ?_ _))) hg2); have HS2 := Lib.hid (HSr.out.grew HG2.out); have HI3 := Lib.hid hI3; have HF3 := Lib.hid hF3; clear hg2 hI3 hF3; obtain ⟨qq, kk, ccp, e3, _⟩ := HS2.out.c3; have e4 := HS2.out.c4; have e5 := HS2.out.c5; have f3 := HS2.out.fz 3; have f4 := HS2.out.fz 4; have f5 := HS2.out.fz 5; have hgw := HS2.out.lt)
    ((try simp only [Exit.inBlock, Exit.then]); refine bodyPost_ret (results_none rfl _ _ _) rfl ?_)
    refine ⟨rfl, (Gr.of_grew _ HG2.out).trans (gx_set3 w2 gs _ _ _), true, l, T, HS2.out.store Hi.out HI3.out HF3.out hc3 hc3' T, ?_⟩
    rw [← HT.out]
    exact SS.leaf hCm.out H.out.ss (fun hf => by first | (cases hf; done) | (rw [HT.out]; exact HZ.out)))

set_option maxHeartbeats 64000000 in
set_option maxRecDepth 100000 in
theorem from_node (gs gr rc : Nat) (pc qc : Option Addr) (cc cq : Nat) (m : List (List Bx)) (c : List (List Int)) (w0 : World) (hV : vL m c) (hM : BMat w0 pc m) (hC : Mat w0 qc c) (hs0 : w0.heap.size ≤ gs) (l : List Nat) (hl : l.length < m.length)
    (ih : ∀ (k : Nat) (p : Option Addr) (cp : Nat) (q : Option Addr) (cq2 : Nat) (fnd : Bool) (a : List Nat) (z : Int) (w : World), FromPre gs gr rc pc qc cc cq m c w0 (l ++ [k]) p cp q cq2 fnd a z w →
      Calls Try.prog 31 #[.pointer (some ⟨gs, 0, none⟩), .slice p (l ++ [k]).length cp, .slice q (l ++ [k]).length cq2, .int .i64 (lco c (l ++ [k]))] w (FromPost gs gr rc pc qc cc cq m c (l ++ [k]) w))
    (p : Option Addr) (cp : Nat) (q : Option Addr) (cq2 : Nat) (fnd : Bool) (a : List Nat) (z : Int) (w : World) (H : FromPre gs gr rc pc qc cc cq m c w0 l p cp q cq2 fnd a z w) :
    Calls Try.prog 31 #[.pointer (some ⟨gs, 0, none⟩), .slice p l.length cp, .slice q l.length cq2, .int .i64 (lco c l)] w (FromPost gs gr rc pc qc cc cq m c l w) := by
  have HL := Lib.hid hl
  have Hih := Lib.hid ih
  have HS0 := Lib.hid hs0
  obtain ⟨b, o, rp, rcx, hpc, hb, d0, hR⟩ := hM.row1 hl
  subst hpc
  obtain ⟨b2, o2, rp2, rcx2, hqc, hb2, d1, hR2⟩ := hC.row2 (u := l.length) (by rw [hV.cn]; exact hl)
  subst hqc
  rw [hV.co _ hl] at d1
  have HR := Lib.hid hR
  have HR2 := Lib.hid hR2
  have hL16 := (hV.bx _ hl).1
  have D1 := Lib.hid d1
  replace d0 := H.g0.cellEq d0
  replace hb := Nat.lt_of_lt_of_le hb H.g0.below.size
  clear ih hs0 hM hC hR hR2 d1 hb2
  obtain ⟨i, hi⟩ : ∃ i, l.length = i := ⟨_, rfl⟩
  obtain ⟨N, hN⟩ : ∃ N, m.length = N := ⟨_, rfl⟩
  obtain ⟨T, hT⟩ : ∃ T, lco c l = T := ⟨_, rfl⟩
  obtain ⟨R, hR⟩ : ∃ R, rstS c l.length = R := ⟨_, rfl⟩
  have hTb := lco_bd hV H.ch
  have hRb := rst_bd hV l.length
  have hN8 := hV.n
  have hle := H.ch.le
  rw [hT] at hTb
  rw [hR] at hRb
  have HSr := Lib.hid H.s
  have HP := Lib.hid H.hp
  have HPI := Lib.hid H.hpi
  have HQ := Lib.hid H.hq
  have HQB := Lib.hid H.hqb
  have hcp := H.hpc
  have hcp2 := H.hpc2
  have hcq := H.hqc
  have hcq2 := H.hqc2
  have HlI : Hid ((intL l).length = l.length) := Lib.hid (intL_length l)
  have HlC : Hid ((chL m l).length = l.length) := Lib.hid (chL_len m l)
  have c0 := H.s.c0
  have c1 := H.s.c1
  have c2 := H.s.c2
  have c4 := H.s.c4
  have c5 := H.s.c5
  have cR := H.s.rst l.length H.ch.le
  rw [hR] at cR
  have hgs := H.s.lt
  have hgr := World.block_lt_of_cell? w _ cR
  rw [hN] at c0 c1 c2 hN8 hle
  have H := Lib.hid H
  have HR0 := Lib.hid hR
  have Hi := Lib.hid hi
  have HN := Lib.hid hN
  have HT := Lib.hid hT
  rw [hT]
  rw [hi] at HP HQ hcp hcq HlI HlC cR hTb hle ⊢
  clear hi hN hT hR hl
  rw [Hi.out] at d0 hL16 D1
  have hiN : i < N := by rw [← Hi.out, ← HN.out]; exact HL.out
  have hiN2 : ((i : Int) == (N : Int)) = false := by rw [beq_eq_false_iff_ne]; omega
  have hiN3 : (i == N) = false := by rw [beq_eq_false_iff_ne]; omega
  obtain ⟨L, hLe⟩ : ∃ L, (bRow m i).length = L := ⟨_, rfl⟩
  rw [hLe] at d0 hL16 D1
  have HLe := Lib.hid hLe
  clear hLe
  cases fnd
  case' true =>
    by_cases hz : z ≤ T + R
    · have Hz : Hid (z ≤ lco c l + rstS c l.length) := Lib.hid (by rw [HT.out, HR0.out]; exact hz)
      have hd : decide (z ≤ T + R) = true := decide_eq_true hz
      go_enter Try.func31, Try.ntmps31
      go_wp2
      refine wp_region_over (by kernel_rfl) (by kernel_rfl) ?_; (repeat (go_big_quiet_step (fail))); refine wpQuiet_nil ?_; rintro _ ⟨x, rfl⟩
      go_wp2
      ((try simp only [Exit.inBlock, Exit.then]); refine bodyPost_ret (results_none rfl _ _ _) rfl ?_)
      exact ⟨rfl, Gr.of_grew _ (by (repeat (first | exact Grew.refl _ | refine Grew.over ?_ _ | refine Grew.alloc ?_ _ | refine Grew.drew ?_ | refine Grew.drewN ?_ _))), true, a, z, HSr.out.grew (by (repeat (first | exact Grew.refl _ | refine Grew.over ?_ _ | refine Grew.alloc ?_ _ | refine Grew.drew ?_ | refine Grew.drewN ?_ _))), SS.prune hV H.out.ch.le H.out.ss Hz.out⟩
    have HZ : Hid (T < z) := Lib.hid (by omega)
    have hd : decide (z ≤ T + R) = false := decide_eq_false hz
    clear hz
  all_goals (
    go_enter Try.func31, Try.ntmps31
    go_wp2
    refine wp_region_over (by kernel_rfl) (by kernel_rfl) ?_; (repeat (go_big_quiet_step (fail))); refine wpQuiet_nil ?_; rintro _ ⟨x, rfl⟩)
  all_goals (
    go_wp2
    obtain ⟨ws, hws⟩ : ∃ ws, ws = w := ⟨_, rfl⟩
    go_loopw [60] (fun v wr => ∃ k : Nat, k ≤ L ∧ v = .int .i64 k ∧ GX gs w wr ∧ ∃ f' a' z', Srch wr gs gr rc (some ⟨b, o, none⟩) (some ⟨b2, o2, none⟩) cc cq m c f' a' z' ∧ SS c m.length (Bef m (l ++ [k])) f' a' z') (fun v _ => L - (intOf v).toNat)
    case atStart => exact ⟨0, Nat.zero_le _, rfl, Gr.of_grew _ (by (repeat (first | exact Grew.refl _ | refine Grew.over ?_ _ | refine Grew.alloc ?_ _ | refine Grew.drew ?_ | refine Grew.drewN ?_ _))), _, _, _, HSr.out.grew (by (repeat (first | exact Grew.refl _ | refine Grew.over ?_ _ | refine Grew.alloc ?_ _ | refine Grew.drew ?_ | refine Grew.drewN ?_ _))), H.out.ss.congr bef_zero⟩
    case round =>
      obtain ⟨k, hk, rfl, hgx, f', a', z', hS', hSS'⟩ := hrel
      have HGx := Lib.hid hgx
      have HS' := Lib.hid hS'
      have HSS' := Lib.hid hSS'
      have H0r := Lib.hid (GX.grew H.out.g0 HS0.out hgx)
      clear hgx hS' hSS' c0 c1 c2 c4 c5 cR d0
      by_cases hlt : k < L
      · obtain ⟨_, bb, oo, h3, h4⟩ := HR.out.grew H0r.out
        obtain ⟨hrp, hbb⟩ := h3 (by rw [Hi.out, HLe.out]; omega)
        obtain ⟨k1, k2, k3, k4⟩ := h4 k (by rw [Hi.out, HLe.out]; exact hlt)
        subst hrp
        rw [Hi.out] at k1 k2 k3 k4
        clear h3 h4
        obtain ⟨⟨xa, xb, xc, xd⟩, hbe⟩ : ∃ b, bK (bRow m i) k = b := ⟨_, rfl⟩
        rw [hbe] at k1 k2 k3 k4
        dsimp only at k1 k2 k3 k4
        have Hbe : Hid (bxAt m l.length k = ⟨xa, xb, xc, xd⟩) := Lib.hid (by rw [Hi.out]; exact hbe)
        clear hbe
        obtain ⟨r, hr⟩ : ∃ r, frB (chL m l) ⟨xa, xb, xc, xd⟩ = r := ⟨_, rfl⟩
        have Hr := Lib.hid hr
        clear hr
        have HC := Lib.hid (GX.bxs HGx.out HQB.out HlC.out HQ.out)
        cases r
        · have Hno : Hid (¬ Fr m l k) := Lib.hid (fun h => by
            have := fr_iff.2 h
            rw [Hbe.out, Hr.out] at this; cases this)
          go_wp2_with (go_at_call 28; apply Calls.mono; (with_reducible exact free_e Hr.out (HC.out.grew (by (repeat (first | exact Grew.refl _ | refine Grew.over ?_ _ | refine Grew.alloc ?_ _ | refine Grew.drew ?_ | refine Grew.drewN ?_ _)))) HlC.out); rintro e w2 ⟨rfl, hg2⟩; have HG2 := Lib.hid (Grew.trans (show Grew wr _ by (repeat (first | exact Grew.refl _ | refine Grew.over ?_ _ | refine Grew.alloc ?_ _ | refine Grew.drew ?_ | refine Grew.drewN ?_ _))) hg2); clear hg2)
          go_roundw
          case rel => exact ⟨k + 1, by omega, by go_num, HGx.out.over HG2.out, _, _, _, HS'.out.grew HG2.out, HSS'.out.congr (bef_skip HL.out Hno.out)⟩
          case measure => simp [intOf]; omega
        · have Hfr : Hid (Fr m l k) := Lib.hid (fr_iff.1 (by rw [Hbe.out]; exact Hr.out))
          go_wp2_with (go_at_call 28; apply Calls.mono; (with_reducible exact free_e Hr.out (HC.out.grew (by (repeat (first | exact Grew.refl _ | refine Grew.over ?_ _ | refine Grew.alloc ?_ _ | refine Grew.drew ?_ | refine Grew.drewN ?_ _)))) HlC.out); rintro e w2 ⟨rfl, hg2⟩; have HG2 := Lib.hid (Grew.trans (show Grew wr _ by (repeat (first | exact Grew.refl _ | refine Grew.over ?_ _ | refine Grew.alloc ?_ _ | refine Grew.drew ?_ | refine Grew.drewN ?_ _))) hg2); have z0 := hg2.cellEq (b := wr.heap.size) (i := 0) (v := .int .i64 xa) (by simp [go_sem]); have z1 := hg2.cellEq (b := wr.heap.size) (i := 1) (v := .int .i64 xb) (by simp [go_sem]); have z2 := hg2.cellEq (b := wr.heap.size) (i := 2) (v := .int .i64 xc) (by simp [go_sem]); have z3 := hg2.cellEq (b := wr.heap.size) (i := 3) (v := .int .i64 xd) (by simp [go_sem]); clear hg2)
          obtain ⟨cv, hcv⟩ : ∃ cv, ge (rowOf c l.length) k = cv := ⟨_, rfl⟩
          have hcvb := hV.cb l.length HL.out k (by rw [hV.co _ HL.out, Hi.out, HLe.out]; exact hlt)
          unfold at2 at hcvb
          rw [hcv] at hcvb
          obtain ⟨b3, o3, h3, h4⟩ := HR2.out.open
          obtain ⟨hrp2, hbb3⟩ := h3 (by rw [hV.co _ HL.out, Hi.out, HLe.out]; omega)
          have e3 := h4 k (by rw [hV.co _ HL.out, Hi.out, HLe.out]; exact hlt)
          subst hrp2
          rw [hcv] at e3
          have Hcv := Lib.hid hcv
          clear h3 h4 hcv
          have e1 := HG2.out.cellEq HS'.out.c1
          have e2 := HG2.out.cellEq (H0r.out.cellEq D1.out)
          replace e3 := HG2.out.cellEq (H0r.out.cellEq e3)
          rw [HN.out] at e1
          have HlS := Lib.hid HS'.out.lt
          have HI := Lib.hid (GX.ints HGx.out HPI.out HlI.out HP.out)
          have Hrec : Hid (∀ (g7 c7 g14 c14 : Nat) (w7 : World), Grew wr w7 → Ints w7 (some ⟨g7, 0, none⟩) (intL l ++ [(k : Int)]) ∧ g7 ≠ gs ∧ i + 1 ≤ c7 ∧ c7 ≤ 9223372036854775807 → Bxs w7 (some ⟨g14, 0, none⟩) (chL m l ++ [⟨xa, xb, xc, xd⟩]) ∧ g14 ≠ gs ∧ i + 1 ≤ c14 ∧ c14 ≤ 9223372036854775807 →
              Calls Try.prog 31 #[.pointer (some ⟨gs, 0, none⟩), .slice (some ⟨g7, 0, none⟩) (i + 1) c7, .slice (some ⟨g14, 0, none⟩) (i + 1) c14, .int .i64 (T + cv)] w7 (FromPost gs gr rc (some ⟨b, o, none⟩) (some ⟨b2, o2, none⟩) cc cq m c (l ++ [k]) w7)) := Lib.hid (by
            intro g7 c7 g14 c14 w7 hg7 h7 h14
            have hlen : (l ++ [k]).length = i + 1 := by rw [List.length_append, Hi.out]; rfl
            have := Hih.out k (some ⟨g7, 0, none⟩) c7 (some ⟨g14, 0, none⟩) c14 f' a' z' w7 ⟨H0r.out.trans hg7, H.out.ch.snoc HL.out (by rw [Hi.out, HLe.out]; exact hlt) Hfr.out, HS'.out.grew hg7, HSS'.out, Or.inr ⟨g7, rfl, by omega, h7.2.1⟩, by rw [intL_snoc]; exact h7.1, by rw [hlen]; exact h7.2.2.1, h7.2.2.2, Or.inr ⟨g14, rfl, by omega, h14.2.1⟩, by rw [chL_snoc, Hbe.out]; exact h14.1, by rw [hlen]; exact h14.2.2.1, h14.2.2.2⟩
            rw [hlen, lco_snoc, HT.out] at this
            unfold at2 at this
            rw [Hcv.out] at this
            exact this)
          have Hne : Hid (wr.heap.size ≠ gs ∧ b2 ≠ gs ∧ b3 ≠ gs) := Lib.hid (by
            have h1 := HlS.out
            have h2 := World.block_lt_of_cell? w0 _ D1.out
            have h3 := HS0.out
            dsimp only at h2
            exact ⟨by omega, by omega, by omega⟩)
          have hwr : IntKind.i64.wrap (T + cv) = T + cv := by rw [IntKind.wrap_i64]; omega
          have HlC' := HlC
          obtain ⟨wq, hwq⟩ : ∃ wq, wq = w2 := ⟨_, rfl⟩
          refine wp_region_T (s := 28) (S := fun w' => w'.cell? ⟨wr.heap.size, 0, none⟩ = some (.int .i64 xa) ∧ w'.cell? ⟨wr.heap.size, 1, none⟩ = some (.int .i64 xb) ∧ w'.cell? ⟨wr.heap.size, 2, none⟩ = some (.int .i64 xc) ∧ w'.cell? ⟨wr.heap.size, 3, none⟩ = some (.int .i64 xd) ∧ w'.cell? ⟨gs, 1, none⟩ = some (.slice (some ⟨b2, o2, none⟩) N cq) ∧ w'.cell? ⟨b2, o2 + i, none⟩ = some (.slice (some ⟨b3, o3, none⟩) L rcx2) ∧ w'.cell? ⟨b3, o3 + k, none⟩ = some (.int .i64 cv)) (by kernel_rfl) ⟨z0, z1, z2, z3, e1, e2, e3⟩ (fun hH => ?_)
          have Hg : Hid (Grew wr w2.drew) := Lib.hid HG2.out.drew
          refine wpAnyT_takeV (i := 0) (v := ?_) rfl (by kernel_rfl) (by kernel_rfl) (by kernel_rfl) (by decide) (fun _ _ _ h => h) (Or.inl ⟨by rfl, ?_⟩) (by assumption) ?_
          rotate_left
          · (intro w hSw; (try dsimp only at hSw); go_simp; (try with_reducible rfl))
          (try simp only [Act.put, List.setIfInBounds_toArray, List.set_cons_zero, List.set_cons_succ])
          refine wpAnyT_takeV (i := 1) (v := ?_) rfl (by kernel_rfl) (by kernel_rfl) (by kernel_rfl) (by decide) (fun _ _ _ h => h) (Or.inl ⟨by rfl, ?_⟩) (by assumption) ?_
          rotate_left
          · (intro w hSw; (try dsimp only at hSw); go_simp; (try with_reducible rfl))
          (try simp only [Act.put, List.setIfInBounds_toArray, List.set_cons_zero, List.set_cons_succ])
          refine wpAnyT_takeV (i := 2) (v := ?_) rfl (by kernel_rfl) (by kernel_rfl) (by kernel_rfl) (by decide) (fun _ _ _ h => h) (Or.inl ⟨by rfl, ?_⟩) (by assumption) ?_
          rotate_left
          · (intro w hSw; (try dsimp only at hSw); go_simp; (try with_reducible rfl))
          (try simp only [Act.put, List.setIfInBounds_toArray, List.set_cons_zero, List.set_cons_succ])
          refine wpAnyT_takeV (i := 3) (v := ?_) rfl (by kernel_rfl) (by kernel_rfl) (by kernel_rfl) (by decide) (fun _ _ _ h => h) (Or.inl ⟨by rfl, ?_⟩) (by assumption) ?_
          rotate_left
          · (intro w hSw; (try dsimp only at hSw); go_simp; (try with_reducible rfl))
          (try simp only [Act.put, List.setIfInBounds_toArray, List.set_cons_zero, List.set_cons_succ])
          refine wpAnyT_takeV (i := 4) (v := ?_) rfl (by kernel_rfl) (by kernel_rfl) (by kernel_rfl) (by decide) (fun _ _ _ h => h) (Or.inl ⟨by rfl, ?_⟩) (by assumption) ?_
          rotate_left
          · (intro w hSw; (try dsimp only at hSw); go_simp; (try with_reducible rfl))
          (try simp only [Act.put, List.setIfInBounds_toArray, List.set_cons_zero, List.set_cons_succ])
          refine wpAnyT_takeV (i := 5) (v := ?_) rfl (by kernel_rfl) (by kernel_rfl) (by kernel_rfl) (by decide) (fun _ _ _ h => h) (Or.inl ⟨by rfl, ?_⟩) (by assumption) ?_
          rotate_left
          · (intro w hSw; (try dsimp only at hSw); go_simp; (try with_reducible rfl))
          (try simp only [Act.put, List.setIfInBounds_toArray, List.set_cons_zero, List.set_cons_succ])
          refine wpAnyT_takeV (i := 8) (v := ?_) rfl (by kernel_rfl) (by kernel_rfl) (by kernel_rfl) (by decide) (fun _ _ _ h => h) (Or.inl ⟨by rfl, ?_⟩) (by assumption) ?_
          rotate_left
          · (intro w hSw; (try dsimp only at hSw); go_simp; (try with_reducible rfl))
          (try simp only [Act.put, List.setIfInBounds_toArray, List.set_cons_zero, List.set_cons_succ])
          refine wpAnyT_takeV (i := 9) (v := ?_) rfl (by kernel_rfl) (by kernel_rfl) (by kernel_rfl) (by decide) (fun _ _ _ h => h) (Or.inl ⟨by rfl, ?_⟩) (by assumption) ?_
          rotate_left
          · (intro w hSw; (try dsimp only at hSw); go_simp; (try with_reducible rfl))
          (try simp only [Act.put, List.setIfInBounds_toArray, List.set_cons_zero, List.set_cons_succ])
          refine wpAnyT_takeV (i := 10) (v := ?_) rfl (by kernel_rfl) (by kernel_rfl) (by kernel_rfl) (by decide) (fun _ _ _ h => h) (Or.inl ⟨by rfl, ?_⟩) (by assumption) ?_
          rotate_left
          · (intro w hSw; (try dsimp only at hSw); go_simp; (try with_reducible rfl))
          (try simp only [Act.put, List.setIfInBounds_toArray, List.set_cons_zero, List.set_cons_succ])
          refine wpAnyT_takeV (i := 11) (v := ?_) rfl (by kernel_rfl) (by kernel_rfl) (by kernel_rfl) (by decide) (fun _ _ _ h => h) (Or.inl ⟨by rfl, ?_⟩) (by assumption) ?_
          rotate_left
          · (intro w hSw; (try dsimp only at hSw); go_simp; (try with_reducible rfl))
          (try simp only [Act.put, List.setIfInBounds_toArray, List.set_cons_zero, List.set_cons_succ])
          refine wpAnyT_takeV (i := 12) (v := ?_) rfl (by kernel_rfl) (by kernel_rfl) (by kernel_rfl) (by decide) (fun _ _ _ h => h) (Or.inl ⟨by rfl, ?_⟩) (by assumption) ?_
          rotate_left
          · (intro w hSw; (try dsimp only at hSw); go_simp; (try with_reducible rfl))
          (try simp only [Act.put, List.setIfInBounds_toArray, List.set_cons_zero, List.set_cons_succ])
          refine wpAnyT_takeV (i := 15) (v := ?_) rfl (by kernel_rfl) (by kernel_rfl) (by kernel_rfl) (by decide) (fun _ _ _ h => h) (Or.inl ⟨by rfl, ?_⟩) (by assumption) ?_
          rotate_left
          · (intro w hSw; (try dsimp only at hSw); go_simp; (try with_reducible rfl))
          (try simp only [Act.put, List.setIfInBounds_toArray, List.set_cons_zero, List.set_cons_succ])
          refine wpAnyT_takeV (i := 16) (v := ?_) rfl (by kernel_rfl) (by kernel_rfl) (by kernel_rfl) (by decide) (fun _ _ _ h => h) (Or.inl ⟨by rfl, ?_⟩) (by assumption) ?_
          rotate_left
          · (intro w hSw; (try dsimp only at hSw); go_simp; (try with_reducible rfl))
          (try simp only [Act.put, List.setIfInBounds_toArray, List.set_cons_zero, List.set_cons_succ])
          refine wpAnyT_takeV (i := 17) (v := ?_) rfl (by kernel_rfl) (by kernel_rfl) (by kernel_rfl) (by decide) (fun _ _ _ h => h) (Or.inl ⟨by rfl, ?_⟩) (by assumption) ?_
          rotate_left
          · (intro w hSw; (try dsimp only at hSw); go_simp; (try with_reducible rfl))
          (try simp only [Act.put, List.setIfInBounds_toArray, List.set_cons_zero, List.set_cons_succ])
          refine wpAnyT_takeV (i := 18) (v := ?_) rfl (by kernel_rfl) (by kernel_rfl) (by kernel_rfl) (by decide) (fun _ _ _ h => h) (Or.inl ⟨by rfl, ?_⟩) (by assumption) ?_
          rotate_left
          · (intro w hSw; (try dsimp only at hSw); go_simp; (try with_reducible rfl))
          (try simp only [Act.put, List.setIfInBounds_toArray, List.set_cons_zero, List.set_cons_succ])
          refine wpAnyT_takeV (i := 19) (v := ?_) rfl (by kernel_rfl) (by kernel_rfl) (by kernel_rfl) (by decide) (fun _ _ _ h => h) (Or.inl ⟨by rfl, ?_⟩) (by assumption) ?_
          rotate_left
          · (intro w hSw; (try dsimp only at hSw); go_simp; (try with_reducible rfl))
          (try simp only [Act.put, List.setIfInBounds_toArray, List.set_cons_zero, List.set_cons_succ])
          refine wpAnyT_takeV (i := 20) (v := ?_) rfl (by kernel_rfl) (by kernel_rfl) (by kernel_rfl) (by decide) (fun _ _ _ h => h) (Or.inl ⟨by rfl, ?_⟩) (by assumption) ?_
          rotate_left
          · (intro w hSw; (try dsimp only at hSw); go_simp; (try with_reducible rfl))
          (try simp only [Act.put, List.setIfInBounds_toArray, List.set_cons_zero, List.set_cons_succ])
          refine wpAnyT_takeV (i := 21) (v := ?_) rfl (by kernel_rfl) (by kernel_rfl) (by kernel_rfl) (by decide) (fun _ _ _ h => h) (Or.inl ⟨by rfl, ?_⟩) (by assumption) ?_
          rotate_left
          · (intro w hSw; (try dsimp only at hSw); go_simp; (try with_reducible rfl))
          (try simp only [Act.put, List.setIfInBounds_toArray, List.set_cons_zero, List.set_cons_succ])
          refine wpAnyT_takeV (i := 22) (v := ?_) rfl (by kernel_rfl) (by kernel_rfl) (by kernel_rfl) (by decide) (fun _ _ _ h => h) (Or.inl ⟨by rfl, ?_⟩) (by assumption) ?_
          rotate_left
          · (intro w hSw; (try dsimp only at hSw); go_simp; (try with_reducible rfl))
          (try simp only [Act.put, List.setIfInBounds_toArray, List.set_cons_zero, List.set_cons_succ])
          refine wpAnyT_takeV (i := 23) (v := ?_) rfl (by kernel_rfl) (by kernel_rfl) (by kernel_rfl) (by decide) (fun _ _ _ h => h) (Or.inl ⟨by rfl, ?_⟩) (by assumption) ?_
          rotate_left
          · (intro w hSw; (try dsimp only at hSw); go_simp; (try with_reducible rfl))
          (try simp only [Act.put, List.setIfInBounds_toArray, List.set_cons_zero, List.set_cons_succ])
          refine wpAnyT_takeV (i := 24) (v := ?_) rfl (by kernel_rfl) (by kernel_rfl) (by kernel_rfl) (by decide) (fun _ _ _ h => h) (Or.inl ⟨by rfl, ?_⟩) (by assumption) ?_
          rotate_left
          · (intro w hSw; (try dsimp only at hSw); go_simp; (try with_reducible rfl))
          (try simp only [Act.put, List.setIfInBounds_toArray, List.set_cons_zero, List.set_cons_succ])
          refine wpAnyT_takeV (i := 25) (v := ?_) rfl (by kernel_rfl) (by kernel_rfl) (by kernel_rfl) (by decide) (fun _ _ _ h => h) (Or.inl ⟨by rfl, ?_⟩) (by assumption) ?_
          rotate_left
          · (intro w hSw; (try dsimp only at hSw); go_simp; (try with_reducible rfl))
          (try simp only [Act.put, List.setIfInBounds_toArray, List.set_cons_zero, List.set_cons_succ])
          refine wpAnyT_takeV (i := 26) (v := ?_) rfl (by kernel_rfl) (by kernel_rfl) (by kernel_rfl) (by decide) (fun _ _ _ h => h) (Or.inl ⟨by rfl, ?_⟩) (by assumption) ?_
          rotate_left
          · (intro w hSw; (try dsimp only at hSw); go_simp; (try with_reducible rfl))
          (try simp only [Act.put, List.setIfInBounds_toArray, List.set_cons_zero, List.set_cons_succ])
          clear hwq
          refine wpAnyT_all (rs := [6, 13]) (by kernel_rfl) (by simp) (AllT.consL (i := 6) rfl (fun K hK => ?_) (AllT.consL (i := 13) rfl (fun K hK => ?_) AllT.nil))
          · refine step_build_int rfl _ (by rfl) (k : Int) (by rfl) ?_
            intro b6 w6 y6 hg
            refine hK.out _ _ (cells7 hg hH) (fun hH => ?_)
            clear hK K
            (try simp only [Act.put, List.setIfInBounds_toArray, List.set_cons_zero, List.set_cons_succ])
            replace Hg := Lib.hid (Hg.out.trans hg)
            have Y6 := Lib.hid y6
            clear hg y6
            refine wpAnyT_all (rs := [7, 13]) (by kernel_rfl) (by simp) (AllT.consL (i := 7) rfl (fun K hK => ?_) (AllT.consL (i := 13) rfl (fun K hK => ?_) AllT.nil))
            · refine step_app_int rfl _ _ (by rfl) gs (Nat.lt_of_lt_of_le HlS.out Hg.out.below.size) p _ i _ _ (intL l) HlI.out (by omega) (HI.out.grew Hg.out) HP.out ?_ ?_ ?_ (by rfl) b6 (by rfl) (k : Int) Y6.out (by omega) ?_
              · rfl
              · rfl
              · rfl
              intro g7 c7 w7 hI7 hne7 hc7 hc7' hg
              refine hK.out _ _ (cells7 hg hH) (fun hH => ?_)
              clear hK K
              (try simp only [Act.put, List.setIfInBounds_toArray, List.set_cons_zero, List.set_cons_succ])
              replace Hg := Lib.hid (Hg.out.trans hg)
              have HG6 := Lib.hid hg
              have A7 := Lib.hid (show _ ∧ _ ∧ _ ∧ _ from ⟨hI7, hne7, hc7, hc7'⟩)
              clear hI7 hne7 hc7 hc7' hg
              refine wpAnyT_all (rs := [13]) (by kernel_rfl) (by simp) (AllT.consL (i := 13) rfl (fun K hK => ?_) AllT.nil)
              refine step_build_box rfl _ (by rfl) xa xb xc xd (by rfl) ?_
              intro b13 w13 y0 y1 y2 y3 hg
              refine hK.out _ _ (cells7 hg hH) (fun hH => ?_)
              clear hK K
              (try simp only [Act.put, List.setIfInBounds_toArray, List.set_cons_zero, List.set_cons_succ])
              replace Hg := Lib.hid (Hg.out.trans hg)
              replace HG6 := Lib.hid (HG6.out.trans hg)
              have HG7 := Lib.hid hg
              have Y13 := Lib.hid (show _ ∧ _ ∧ _ ∧ _ from ⟨y0, y1, y2, y3⟩)
              clear hg y0 y1 y2 y3
              refine wpAnyT_all (rs := [14]) (by kernel_rfl) (by simp) (AllT.consL (i := 14) rfl (fun K hK => ?_) AllT.nil)
              refine step_app_box rfl _ _ (by rfl) gs (Nat.lt_of_lt_of_le HlS.out Hg.out.below.size) q _ i _ _ (chL m l) HlC.out (by omega) (HC.out.grew Hg.out) HQ.out ?_ ?_ ?_ (by rfl) b13 (by rfl) xa xb xc xd Y13.out.1 Y13.out.2.1 Y13.out.2.2.1 Y13.out.2.2.2 ?_
              · rfl
              · rfl
              · rfl
              intro g14 c14 w14 hI14 hne14 hc14 hc14' hg
              refine hK.out _ _ (cells7 hg hH) (fun hH => ?_)
              clear hK K
              (try simp only [Act.put, List.setIfInBounds_toArray, List.set_cons_zero, List.set_cons_succ])
              replace Hg := Lib.hid (Hg.out.trans hg)
              replace HG6 := Lib.hid (HG6.out.trans hg)
              replace HG7 := Lib.hid (HG7.out.trans hg)
              have HG13 := Lib.hid hg
              have A14 := Lib.hid (show _ ∧ _ ∧ _ ∧ _ from ⟨hI14, hne14, hc14, hc14'⟩)
              clear hI14 hne14 hc14 hc14' hg
              refine wpAnyT_all (rs := [27]) (by kernel_rfl) (by simp) (AllT.consL (i := 27) rfl (fun K hK => ?_) AllT.nil)
              go_simp
              go_wp2_with (go_at_call 31; apply Calls.mono; (with_reducible exact Hrec.out _ _ _ _ _ Hg.out ⟨(A7.out.1.grew HG7.out), A7.out.2⟩ ⟨A14.out.1, A14.out.2⟩); rintro e w9 ⟨rfl, hgx9, f9, a9, z9, hS9, hSS9⟩)
              have H9 := Lib.hid (show GX gs w w9 ∧ Srch w9 gs gr rc (some ⟨b, o, none⟩) (some ⟨b2, o2, none⟩) cc cq m c f9 a9 z9 ∧ SS c m.length (Upt m (l ++ [k])) f9 a9 z9 from ⟨(HGx.out.over Hg.out).trans hgx9, hS9, hSS9⟩)
              refine hK.out _ _ ⟨hgx9.cellEq Hne.out.1 hH.1, hgx9.cellEq Hne.out.1 hH.2.1, hgx9.cellEq Hne.out.1 hH.2.2.1, hgx9.cellEq Hne.out.1 hH.2.2.2.1, (by rw [← HN.out]; exact hS9.c1), hgx9.cellEq Hne.out.2.1 hH.2.2.2.2.2.1, hgx9.cellEq Hne.out.2.2 hH.2.2.2.2.2.2⟩ (fun hH => ?_)
              clear hK K hgx9 hS9 hSS9
              (try simp only [Act.put, List.setIfInBounds_toArray, List.set_cons_zero, List.set_cons_succ])
              refine wpAnyT_done (by kernel_rfl) ?_ _
              clear hH
              go_wp2
              go_roundw
              case rel => exact ⟨k + 1, by omega, by go_num, H9.out.1, f9, a9, z9, H9.out.2.1, H9.out.2.2.congr (fun b => upt_snoc b)⟩
              case measure => simp [intOf]; omega
            · refine step_build_box rfl _ (by rfl) xa xb xc xd (by rfl) ?_
              intro b13 w13 y0 y1 y2 y3 hg
              refine hK.out _ _ (cells7 hg hH) (fun hH => ?_)
              clear hK K
              (try simp only [Act.put, List.setIfInBounds_toArray, List.set_cons_zero, List.set_cons_succ])
              replace Hg := Lib.hid (Hg.out.trans hg)
              have HG6 := Lib.hid hg
              have Y13 := Lib.hid (show _ ∧ _ ∧ _ ∧ _ from ⟨y0, y1, y2, y3⟩)
              clear hg y0 y1 y2 y3
              refine wpAnyT_all (rs := [7]) (by kernel_rfl) (by simp) (AllT.consL (i := 7) rfl (fun K hK => ?_) AllT.nil)
              refine step_app_int rfl _ _ (by rfl) gs (Nat.lt_of_lt_of_le HlS.out Hg.out.below.size) p _ i _ _ (intL l) HlI.out (by omega) (HI.out.grew Hg.out) HP.out ?_ ?_ ?_ (by rfl) b6 (by rfl) (k : Int) (Grew.cellEq HG6.out Y6.out) (by omega) ?_
              · rfl
              · rfl
              · rfl
              intro g7 c7 w7 hI7 hne7 hc7 hc7' hg
              refine hK.out _ _ (cells7 hg hH) (fun hH => ?_)
              clear hK K
              (try simp only [Act.put, List.setIfInBounds_toArray, List.set_cons_zero, List.set_cons_succ])
              replace Hg := Lib.hid (Hg.out.trans hg)
              replace HG6 := Lib.hid (HG6.out.trans hg)
              have HG13 := Lib.hid hg
              have A7 := Lib.hid (show _ ∧ _ ∧ _ ∧ _ from ⟨hI7, hne7, hc7, hc7'⟩)
              clear hI7 hne7 hc7 hc7' hg
              refine wpAnyT_all (rs := [14]) (by kernel_rfl) (by simp) (AllT.consL (i := 14) rfl (fun K hK => ?_) AllT.nil)
              refine step_app_box rfl _ _ (by rfl) gs (Nat.lt_of_lt_of_le HlS.out Hg.out.below.size) q _ i _ _ (chL m l) HlC.out (by omega) (HC.out.grew Hg.out) HQ.out ?_ ?_ ?_ (by rfl) b13 (by rfl) xa xb xc xd (Grew.cellEq HG13.out Y13.out.1) (Grew.cellEq HG13.out Y13.out.2.1) (Grew.cellEq HG13.out Y13.out.2.2.1) (Grew.cellEq HG13.out Y13.out.2.2.2) ?_
              · rfl
              · rfl
              · rfl
              intro g14 c14 w14 hI14 hne14 hc14 hc14' hg
              refine hK.out _ _ (cells7 hg hH) (fun hH => ?_)
              clear hK K
              (try simp only [Act.put, List.setIfInBounds_toArray, List.set_cons_zero, List.set_cons_succ])
              replace Hg := Lib.hid (Hg.out.trans hg)
              replace HG6 := Lib.hid (HG6.out.trans hg)
              replace HG13 := Lib.hid (HG13.out.trans hg)
              have HG7 := Lib.hid hg
              have A14 := Lib.hid (show _ ∧ _ ∧ _ ∧ _ from ⟨hI14, hne14, hc14, hc14'⟩)
              clear hI14 hne14 hc14 hc14' hg
              refine wpAnyT_all (rs := [27]) (by kernel_rfl) (by simp) (AllT.consL (i := 27) rfl (fun K hK => ?_) AllT.nil)
              go_simp
              go_wp2_with (go_at_call 31; apply Calls.mono; (with_reducible exact Hrec.out _ _ _ _ _ Hg.out ⟨(A7.out.1.grew HG7.out), A7.out.2⟩ ⟨A14.out.1, A14.out.2⟩); rintro e w9 ⟨rfl, hgx9, f9, a9, z9, hS9, hSS9⟩)
              have H9 := Lib.hid (show GX gs w w9 ∧ Srch w9 gs gr rc (some ⟨b, o, none⟩) (some ⟨b2, o2, none⟩) cc cq m c f9 a9 z9 ∧ SS c m.length (Upt m (l ++ [k])) f9 a9 z9 from ⟨(HGx.out.over Hg.out).trans hgx9, hS9, hSS9⟩)
              refine hK.out _ _ ⟨hgx9.cellEq Hne.out.1 hH.1, hgx9.cellEq Hne.out.1 hH.2.1, hgx9.cellEq Hne.out.1 hH.2.2.1, hgx9.cellEq Hne.out.1 hH.2.2.2.1, (by rw [← HN.out]; exact hS9.c1), hgx9.cellEq Hne.out.2.1 hH.2.2.2.2.2.1, hgx9.cellEq Hne.out.2.2 hH.2.2.2.2.2.2⟩ (fun hH => ?_)
              clear hK K hgx9 hS9 hSS9
              (try simp only [Act.put, List.setIfInBounds_toArray, List.set_cons_zero, List.set_cons_succ])
              refine wpAnyT_done (by kernel_rfl) ?_ _
              clear hH
              go_wp2
              go_roundw
              case rel => exact ⟨k + 1, by omega, by go_num, H9.out.1, f9, a9, z9, H9.out.2.1, H9.out.2.2.congr (fun b => upt_snoc b)⟩
              case measure => simp [intOf]; omega
          · refine step_build_box rfl _ (by rfl) xa xb xc xd (by rfl) ?_
            intro b13 w13 y0 y1 y2 y3 hg
            refine hK.out _ _ (cells7 hg hH) (fun hH => ?_)
            clear hK K
            (try simp only [Act.put, List.setIfInBounds_toArray, List.set_cons_zero, List.set_cons_succ])
            replace Hg := Lib.hid (Hg.out.trans hg)
            have Y13 := Lib.hid (show _ ∧ _ ∧ _ ∧ _ from ⟨y0, y1, y2, y3⟩)
            clear hg y0 y1 y2 y3
            refine wpAnyT_all (rs := [6]) (by kernel_rfl) (by simp) (AllT.consL (i := 6) rfl (fun K hK => ?_) AllT.nil)
            refine step_build_int rfl _ (by rfl) (k : Int) (by rfl) ?_
            intro b6 w6 y6 hg
            refine hK.out _ _ (cells7 hg hH) (fun hH => ?_)
            clear hK K
            (try simp only [Act.put, List.setIfInBounds_toArray, List.set_cons_zero, List.set_cons_succ])
            replace Hg := Lib.hid (Hg.out.trans hg)
            have HG13 := Lib.hid hg
            have Y6 := Lib.hid y6
            clear hg y6
            refine wpAnyT_all (rs := [7]) (by kernel_rfl) (by simp) (AllT.consL (i := 7) rfl (fun K hK => ?_) AllT.nil)
            refine step_app_int rfl _ _ (by rfl) gs (Nat.lt_of_lt_of_le HlS.out Hg.out.below.size) p _ i _ _ (intL l) HlI.out (by omega) (HI.out.grew Hg.out) HP.out ?_ ?_ ?_ (by rfl) b6 (by rfl) (k : Int) Y6.out (by omega) ?_
            · rfl
            · rfl
            · rfl
            intro g7 c7 w7 hI7 hne7 hc7 hc7' hg
            refine hK.out _ _ (cells7 hg hH) (fun hH => ?_)
            clear hK K
            (try simp only [Act.put, List.setIfInBounds_toArray, List.set_cons_zero, List.set_cons_succ])
            replace Hg := Lib.hid (Hg.out.trans hg)
            replace HG13 := Lib.hid (HG13.out.trans hg)
            have HG6 := Lib.hid hg
            have A7 := Lib.hid (show _ ∧ _ ∧ _ ∧ _ from ⟨hI7, hne7, hc7, hc7'⟩)
            clear hI7 hne7 hc7 hc7' hg
            refine wpAnyT_all (rs := [14]) (by kernel_rfl) (by simp) (AllT.consL (i := 14) rfl (fun K hK => ?_) AllT.nil)
            refine step_app_box rfl _ _ (by rfl) gs (Nat.lt_of_lt_of_le HlS.out Hg.out.below.size) q _ i _ _ (chL m l) HlC.out (by omega) (HC.out.grew Hg.out) HQ.out ?_ ?_ ?_ (by rfl) b13 (by rfl) xa xb xc xd (Grew.cellEq HG13.out Y13.out.1) (Grew.cellEq HG13.out Y13.out.2.1) (Grew.cellEq HG13.out Y13.out.2.2.1) (Grew.cellEq HG13.out Y13.out.2.2.2) ?_
            · rfl
            · rfl
            · rfl
            intro g14 c14 w14 hI14 hne14 hc14 hc14' hg
            refine hK.out _ _ (cells7 hg hH) (fun hH => ?_)
            clear hK K
            (try simp only [Act.put, List.setIfInBounds_toArray, List.set_cons_zero, List.set_cons_succ])
            replace Hg := Lib.hid (Hg.out.trans hg)
            replace HG13 := Lib.hid (HG13.out.trans hg)
            replace HG6 := Lib.hid (HG6.out.trans hg)
            have HG7 := Lib.hid hg
            have A14 := Lib.hid (show _ ∧ _ ∧ _ ∧ _ from ⟨hI14, hne14, hc14, hc14'⟩)
            clear hI14 hne14 hc14 hc14' hg
            refine wpAnyT_all (rs := [27]) (by kernel_rfl) (by simp) (AllT.consL (i := 27) rfl (fun K hK => ?_) AllT.nil)
            go_simp
            go_wp2_with (go_at_call 31; apply Calls.mono; (with_reducible exact Hrec.out _ _ _ _ _ Hg.out ⟨(A7.out.1.grew HG7.out), A7.out.2⟩ ⟨A14.out.1, A14.out.2⟩); rintro e w9 ⟨rfl, hgx9, f9, a9, z9, hS9, hSS9⟩)
            have H9 := Lib.hid (show GX gs w w9 ∧ Srch w9 gs gr rc (some ⟨b, o, none⟩) (some ⟨b2, o2, none⟩) cc cq m c f9 a9 z9 ∧ SS c m.length (Upt m (l ++ [k])) f9 a9 z9 from ⟨(HGx.out.over Hg.out).trans hgx9, hS9, hSS9⟩)
            refine hK.out _ _ ⟨hgx9.cellEq Hne.out.1 hH.1, hgx9.cellEq Hne.out.1 hH.2.1, hgx9.cellEq Hne.out.1 hH.2.2.1, hgx9.cellEq Hne.out.1 hH.2.2.2.1, (by rw [← HN.out]; exact hS9.c1), hgx9.cellEq Hne.out.2.1 hH.2.2.2.2.2.1, hgx9.cellEq Hne.out.2.2 hH.2.2.2.2.2.2⟩ (fun hH => ?_)
            clear hK K hgx9 hS9 hSS9
            (try simp only [Act.put, List.setIfInBounds_toArray, List.set_cons_zero, List.set_cons_succ])
            refine wpAnyT_done (by kernel_rfl) ?_ _
            clear hH
            go_wp2
            go_roundw
            case rel => exact ⟨k + 1, by omega, by go_num, H9.out.1, f9, a9, z9, H9.out.2.1, H9.out.2.2.congr (fun b => upt_snoc b)⟩
            case measure => simp [intOf]; omega
      · have hkL : k = L := by omega
        go_wp2
        ((try simp only [Exit.inBlock, Exit.then]); refine bodyPost_ret (results_none rfl _ _ _) rfl ?_)
        refine ⟨rfl, HGx.out.over (by (repeat (first | exact Grew.refl _ | refine Grew.over ?_ _ | refine Grew.alloc ?_ _ | refine Grew.drew ?_ | refine Grew.drewN ?_ _))), _, _, _, HS'.out.grew (by (repeat (first | exact Grew.refl _ | refine Grew.over ?_ _ | refine Grew.alloc ?_ _ | refine Grew.drew ?_ | refine Grew.drewN ?_ _))), HSS'.out.congr (fun b => ?_)⟩
        rw [hkL, ← HLe.out, ← Hi.out]
        exact bef_all HL.out b)
theorem from_p (gs gr rc : Nat) (pc qc : Option Addr) (cc cq : Nat) (m : List (List Bx)) (c : List (List Int)) (w0 : World) (hV : vL m c) (hM : BMat w0 pc m) (hC : Mat w0 qc c) (hs0 : w0.heap.size ≤ gs) :
    ∀ (d : Nat) (l : List Nat), l.length + d = m.length → ∀ (p : Option Addr) (cp : Nat) (q : Option Addr) (cq2 : Nat) (fnd : Bool) (a : List Nat) (z : Int) (w : World), FromPre gs gr rc pc qc cc cq m c w0 l p cp q cq2 fnd a z w →
      Calls Try.prog 31 #[.pointer (some ⟨gs, 0, none⟩), .slice p l.length cp, .slice q l.length cq2, .int .i64 (lco c l)] w (FromPost gs gr rc pc qc cc cq m c l w)
  | 0, l, hl, p, cp, q, cq2, fnd, a, z, w, H => from_leaf gs gr rc pc qc cc cq m c w0 hV l (by omega) p cp q cq2 fnd a z w H
  | d + 1, l, hl, p, cp, q, cq2, fnd, a, z, w, H => from_node gs gr rc pc qc cc cq m c w0 hV hM hC hs0 l (by omega) (fun k => from_p gs gr rc pc qc cc cq m c w0 hV hM hC hs0 d (l ++ [k]) (by rw [List.length_append]; simp; omega)) p cp q cq2 fnd a z w H
end Go.Proofs.Ytdenjldadlgniaa
