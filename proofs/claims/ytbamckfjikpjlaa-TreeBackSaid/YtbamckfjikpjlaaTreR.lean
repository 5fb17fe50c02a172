/- Names and Clusters of the program. -/
import Derived.Test.YtbamckfjikpjlaaTreQ
import Derived.Test.YtbamckfjikpjlaaTreD2
import Derived.Laws.EntriesVeiled
set_option linter.unusedSimpArgs false
set_option linter.unusedVariables false
namespace Go.Proofs.Ytbamckfjikpjlaa
open Go.RowKit
attribute [local go_sem ↓] Go.wp_at_zero Go.wp_at_succ

/-- The captured list of names. -/
def NI (w0 : World) (c B : Nat) (out : List ByteArray) (X : Nat → Prop) (W : World) : Prop :=
  ∃ v, W.cell? ⟨c, 0, none⟩ = some v ∧ W.frozen? ⟨c, 0, none⟩ = false ∧ w0.heap.size ≤ c ∧ c < B ∧ B ≤ W.heap.size ∧ OwnSl layStr rS W B v out ∧ (∀ k, X k ↔ k = c ∨ v.ownBlock = some k)
theorem NI.grew {w0 : World} {c B : Nat} {out : List ByteArray} {X : Nat → Prop} {W W' : World} (h : NI w0 c B out X W) (hg : Grew W W') : NI w0 c B out X W' := by
  obtain ⟨v, h1, h2, h3, h4, h5, h6, h7⟩ := h
  exact ⟨v, hg.cellEq h1, hg.frozenEq (by omega) h2, h3, h4, Nat.le_trans h5 hg.below.size, h6.grew hg, h7⟩
theorem NI.x {w0 : World} {c B : Nat} {out : List ByteArray} {X : Nat → Prop} {W : World} (h : NI w0 c B out X W) : ∀ k, X k → w0.heap.size ≤ k ∧ k < W.heap.size := fun k hk => by
  obtain ⟨v, h1, h2, h3, h4, h5, h6, h7⟩ := h
  rcases (h7 k).1 hk with rfl | h
  · omega
  · have := h6.lt h
    omega
/-- The list behind an append that is stored back. -/
theorem NI.put {w0 : World} {c B : Nat} {out out' : List ByteArray} {X : Nat → Prop} {W W1 w' : World} {v v' : Value} (hg : Grew W W1) (h1 : W.cell? ⟨c, 0, none⟩ = some v) (h2 : W.frozen? ⟨c, 0, none⟩ = false) (h3 : w0.heap.size ≤ c) (h4 : c < B) (h5 : B ≤ W.heap.size)
    (h6 : OwnSl layStr rS W B v out) (h7 : ∀ k, X k ↔ k = c ∨ v.ownBlock = some k) (hO : OwnSl layStr rS w' B v' out') (hgb : W1.grownBy w' v.ownBlock) (hx : ∀ k, v'.ownBlock = some k → v.ownBlock = some k ∨ W1.heap.size ≤ k) :
    (w'.cell? ⟨c, 0, none⟩ = some v ∧ w'.frozen? ⟨c, 0, none⟩ = false ∧ c < w'.heap.size) ∧
    ∀ wf, wf = w'.setCell ⟨c, 0, none⟩ v' → (∃ X', NI w0 c B out' X' wf ∧ Gr X W wf ∧ ∀ k, X' k → X k ∨ W.heap.size ≤ k) := by
  have hne : ∀ g, v.ownBlock = some g → g ≠ c := fun g hgv e => by have := (h6.lt hgv).1; omega
  have hs1 := hg.below.size
  have hs2 := hgb.size
  have f1 : w'.cell? ⟨c, 0, none⟩ = some v := by rw [grownBy_cell hgb 0 (by omega) hne]; exact hg.cellEq h1
  have f2 : w'.frozen? ⟨c, 0, none⟩ = false := by rw [grownBy_frozen hgb 0 (by omega) hne]; exact hg.frozenEq (by omega) h2
  refine ⟨⟨f1, f2, by omega⟩, ?_⟩
  rintro wf rfl
  have hgs : Gr (fun k => k = c) w' (w'.setCell ⟨c, 0, none⟩ v') := (Gr.refl (fun k => k = c) w').setCell (b := c) rfl v'
  have hsz : (w'.setCell ⟨c, 0, none⟩ v').heap.size = w'.heap.size := by simp [World.setCell]
  refine ⟨fun k => k = c ∨ v'.ownBlock = some k, ⟨v', by simp [go_sem, f1], by simp [go_sem, f2], h3, h4, by omega, hO.gr hgs (fun g hg2 e => by have := (hO.lt hg2).1; omega), fun k => Iff.rfl⟩, ?_, ?_⟩
  · have g1 : Gr X W W1 := Gr.of_grew X hg
    have g2 : Gr X W1 w' := (Gr.of_grownBy hgb).mono fun k _ e => (h7 k).2 (Or.inr e.symm)
    have g3 : Gr X w' (w'.setCell ⟨c, 0, none⟩ v') := hgs.mono fun k _ e => (h7 k).2 (Or.inl e)
    exact (g1.trans g2).trans g3
  · rintro k (rfl | hk)
    · exact Or.inl ((h7 _).2 (Or.inl rfl))
    · rcases hx k hk with h | h
      · exact Or.inl ((h7 k).2 (Or.inr h))
      · right; omega

theorem conts_e {p : Option Addr} {n c : Nat} {x : List ByteArray} {v : ByteArray} {w : World} {b : Bool} (hb : memB v x = b) (hx : Strs w p c x) (hn : x.length = n) : Calls Try.prog 27 #[.slice p n c, .string v] w fun e w' => e = .returned (.bool b) ∧ Grew w w' := hb ▸ contains_s p n c x v w hx hn
set_option maxHeartbeats 1000000 in
theorem put_p (w0 : World) (c B : Nat) (out : List ByteArray) (s : ByteArray) (X : Nat → Prop) (W : World) (hI : NI w0 c B out X W) (hs : s.size ≤ maxLen) (hl : out.length ≤ 100000) :
    Calls Try.prog 26 #[.string s, .pointer (some ⟨c, 0, none⟩)] W fun e w' => e = .returned (.tuple #[]) ∧ ∃ X', NI w0 c B (putN out s) X' w' ∧ Gr X W w' ∧ ∀ k, X' k → X k ∨ W.heap.size ≤ k := by
  have HI := Lib.hid hI
  obtain ⟨v, h1, h2, h3, h4, h5, h6, h7⟩ := hI
  obtain ⟨q, cp, rfl, hst⟩ := h6.slat
  have H6 := Lib.hid h6
  have H7 := Lib.hid h7
  have Hst := Lib.hid (strs_of hst)
  have Hs := Lib.hid hs
  clear h6 h7 hst hs
  cases hm : memB s out
  · rw [putN_n hm]
    have Hm := Lib.hid hm
    clear hm
    go_enter Try.func26, Try.ntmps26
    go_wp2_with (first
      | (go_at_call 27; apply Calls.mono; (with_reducible exact conts_e Hm.out Hst.out rfl); rintro e w1 ⟨rfl, hg1⟩; have Hg1 := Lib.hid hg1; have d1 := hg1.cellEq h1; have d2 := hg1.frozenEq (b := c) (by omega) h2; have d3 := hg1.below.size; clear hg1)
      | (at_builtin; refine wp_append_sl rfl layStr rS rS_one _ _ rfl B _ out [s] (H6.out.grew (Hg1.out.trans (by (repeat (first | exact Grew.refl _ | refine Grew.over ?_ _ | refine Grew.alloc ?_ _ | refine Grew.drew ?_ | refine Grew.drewN ?_ _))))) (by simp [go_sem]; omega) rfl _ _ _ rfl (slat_one [.string s] _ (by simp [cellsAt, go_sem]) rfl (by decide) ⟨rfl, Hs.out⟩) rfl (by simp [maxLen]; omega) (by simp [layStr]; omega) ?_; intro v' w' g1 g2 g3 g4; obtain ⟨q', cp', hv', -⟩ := g1.slat; subst hv'; obtain ⟨⟨e1, e2, e3⟩, hfin⟩ := NI.put (w0 := w0) (out := out) (out' := out ++ [s]) (X := X) (Hg1.out.trans (by (repeat (first | exact Grew.refl _ | refine Grew.over ?_ _ | refine Grew.alloc ?_ _ | refine Grew.drew ?_ | refine Grew.drewN ?_ _)))) h1 h2 h3 h4 h5 H6.out H7.out g1 g2 g4; have Hfin := Lib.hid hfin; clear hfin g1 g2 g3 g4))
    refine bodyPost_end (results_none rfl _ _ _) rfl ?_
    exact ⟨rfl, Hfin.out _ (by simp)⟩
  · rw [putN_y hm]
    have Hm := Lib.hid hm
    clear hm
    go_enter Try.func26, Try.ntmps26
    go_wp2_with (go_at_call 27; apply Calls.mono; (with_reducible exact conts_e Hm.out Hst.out rfl); rintro e w1 ⟨rfl, hg1⟩; have Hg1 := Lib.hid hg1; clear hg1)
    refine bodyPost_end (results_none rfl _ _ _) rfl ?_
    exact ⟨rfl, X, HI.out.grew Hg1.out, Gr.of_grew X Hg1.out, fun k hk => Or.inl hk⟩

/-- The captured list, and the closure that puts names into it. -/
def NI2 (w0 : World) (c c2 B : Nat) (out : List ByteArray) (X : Nat → Prop) (W : World) : Prop :=
  NI w0 c B out X W ∧ c2 < B ∧ c2 ≠ c ∧ W.cell? ⟨c2, 0, none⟩ = some (.func (.func 26) #[] #[.pointer (some ⟨c, 0, none⟩)])
theorem NI2.grew {w0 : World} {c c2 B : Nat} {out : List ByteArray} {X : Nat → Prop} {W W' : World} (h : NI2 w0 c c2 B out X W) (hg : Grew W W') : NI2 w0 c c2 B out X W' := ⟨h.1.grew hg, h.2.1, h.2.2.1, hg.cellEq h.2.2.2⟩
theorem NI2.ni {w0 : World} {c c2 B : Nat} {out : List ByteArray} {X : Nat → Prop} {W : World} (h : NI2 w0 c c2 B out X W) : NI w0 c B out X W := h.1
theorem NI2.cell {w0 : World} {c c2 B : Nat} {out : List ByteArray} {X : Nat → Prop} {W : World} (h : NI2 w0 c c2 B out X W) : W.cell? ⟨c2, 0, none⟩ = some (.func (.func 26) #[] #[.pointer (some ⟨c, 0, none⟩)]) := h.2.2.2
theorem NI2.out {w0 : World} {c c2 B : Nat} {out : List ByteArray} {X : Nat → Prop} {W : World} (h : NI2 w0 c c2 B out X W) : ¬ X c2 := by
  obtain ⟨⟨v, h1, h2, h3, h4, h5, h6, h7⟩, k1, k2, k3⟩ := h
  intro e
  rcases (h7 _).1 e with h | h
  · exact k2 h
  · have := (h6.lt h).1; omega
theorem NI2.next {w0 : World} {c c2 B : Nat} {out out' : List ByteArray} {X X' : Nat → Prop} {W W' : World} (h : NI2 w0 c c2 B out X W) (h' : NI w0 c B out' X' W') (hg : Gr X W W') : NI2 w0 c c2 B out' X' W' := ⟨h', h.2.1, h.2.2.1, hg.cellEq h.out h.2.2.2⟩
theorem fresh_next {X X' X2 : Nat → Prop} {W W' : World} (h : ∀ k, X' k → X k ∨ W.heap.size ≤ k) (h' : ∀ k, X2 k → X' k ∨ W'.heap.size ≤ k) (hs : W.heap.size ≤ W'.heap.size) : ∀ k, X2 k → X k ∨ W.heap.size ≤ k := comp_x h h' hs

set_option maxHeartbeats 4000000 in
theorem names2_p (w0 : World) (c c2 B : Nat) (out : List ByteArray) (k : Int) (nm : ByteArray) (rs ats : List P2) (bd : List St) (rp : Option Addr) (rc : Nat) (v3 v4 : Value) (lv : Nat) (X : Nat → Prop) (W : World)
    (hI : NI2 w0 c c2 B out X W) (hg0 : Grew w0 W) (hR : P2s w0 rp rc rs) (hrl : rs.length ≤ 40) (hn : nm.size ≤ maxLen) (hl : out.length ≤ 30000) :
    Calls Try.prog 29 #[.agg #[.int .i64 k, .string nm, .slice rp rs.length rc, v3, v4], .int .i64 lv, .pointer (some ⟨c2, 0, none⟩)] W fun e w' => e = .returned (.bool true) ∧ ∃ X', NI2 w0 c c2 B (nmF out (.mk k nm rs ats bd, lv)) X' w' ∧ Gr X W w' ∧ ∀ k, X' k → X k ∨ W.heap.size ≤ k := by
  have HI := Lib.hid hI
  have HR := Lib.hid hR
  have Hn := Lib.hid hn
  have Hg0 := Lib.hid hg0
  have hc2 := hI.2.2.2
  have hcs := World.block_lt_of_cell? W _ hc2
  have hnb : ¬ X W.heap.size := fun h => by have := (hI.1.x _ h).2; omega
  have Hnb := Lib.hid hnb
  have HBb := Lib.hid (Bx5.box W (.int .i64 k) (.string nm) (.slice rp rs.length rc) v3 v4 43)
  have HIb := Lib.hid (hI.grew (show Grew W (W.alloc (.cells #[.int .i64 k, .string nm, .slice rp rs.length rc, v3, v4] 43)) by (repeat (first | exact Grew.refl _ | refine Grew.over ?_ _ | refine Grew.alloc ?_ _ | refine Grew.drew ?_ | refine Grew.drewN ?_ _))))
  clear hI hR hn hnb hg0
  by_cases h1 : k = 1
  · subst h1
    have Ho : Hid (nmF out (.mk 1 nm rs ats bd, lv) = rsN (putN out nm) rs) := Lib.hid rfl
    have hol : (putN out nm).length ≤ 30001 := by have := putN_len out nm; omega
    obtain ⟨o1, hoo⟩ : ∃ o1, putN out nm = o1 := ⟨_, rfl⟩
    rw [hoo] at Ho hol
    have Hoo := Lib.hid hoo
    clear hoo
    go_enter Try.func29, Try.ntmps29
    go_wp2_with (go_at_call 26; apply Calls.mono; (with_reducible exact put_p w0 c B out nm X _ HIb.out.ni Hn.out (by omega)); rw [Hoo.out]; rintro e w4 ⟨rfl, X4, hi4, hg4, hx4⟩; have HI4 := Lib.hid (HIb.out.next hi4 hg4); have HG4 := Lib.hid (Gr.trans (Gr.of_grew X (show Grew W _ by (repeat (first | exact Grew.refl _ | refine Grew.over ?_ _ | refine Grew.alloc ?_ _ | refine Grew.drew ?_ | refine Grew.drewN ?_ _)))) hg4); have HX4 := Lib.hid (comp_x (fun k hk => Or.inl hk) hx4 (show Grew W _ by (repeat (first | exact Grew.refl _ | refine Grew.over ?_ _ | refine Grew.alloc ?_ _ | refine Grew.drew ?_ | refine Grew.drewN ?_ _))).below.size : ∀ k, X4 k → X k ∨ W.heap.size ≤ k); have Hnb4 := Lib.hid (fun h => (hx4 _ h).elim Hnb.out (fun h2 => by simp [go_sem] at h2; omega)); have HB4 := Lib.hid (HBb.out.gr hg4 Hnb.out); obtain ⟨t0, t1, t2, t3, t4, t5⟩ := HB4.out; have q2 := HI4.out.cell; have Hgw4 := Lib.hid (Hg0.out.gr (fun k hk => (HI.out.ni.x k hk).1) HG4.out); clear hi4 hg4 hx4)
    clear t0 t1 t2 t3 t4 t5 q2
    go_loopw [18] (fun i wv => ∃ u : Nat, u ≤ rs.length ∧ i = .int .i64 u ∧ ∃ X', NI2 w0 c c2 B (rsN o1 (rs.take u)) X' wv ∧ Gr X4 w4 wv ∧ ∀ k, X' k → X4 k ∨ w4.heap.size ≤ k) (fun i _ => rs.length - (intOf i).toNat)
    case atStart => exact ⟨0, Nat.zero_le _, rfl, X4, HI4.out.grew (by (repeat (first | exact Grew.refl _ | refine Grew.over ?_ _ | refine Grew.alloc ?_ _ | refine Grew.drew ?_ | refine Grew.drewN ?_ _))), Gr.of_grew X4 (by (repeat (first | exact Grew.refl _ | refine Grew.over ?_ _ | refine Grew.alloc ?_ _ | refine Grew.drew ?_ | refine Grew.drewN ?_ _))), fun k hk => Or.inl hk⟩
    case round =>
      obtain ⟨u, hu, rfl, X5, hi5, hg5, hx5⟩ := hrel
      have HI5 := Lib.hid hi5
      have HG5 := Lib.hid hg5
      have HX5 := Lib.hid hx5
      obtain ⟨t0, t1, t2, t3, t4, t5⟩ := HB4.out.gr hg5 Hnb4.out
      have q2 := HI5.out.cell
      have q3 := World.block_lt_of_cell? _ _ q2
      have Hgv := Lib.hid (Hgw4.out.gr (fun k hk => (HI4.out.ni.x k hk).1) hg5)
      obtain ⟨ys, hys⟩ : ∃ ys, rsN o1 (rs.take u) = ys := ⟨_, rfl⟩
      have hyl : ys.length ≤ 40000 := by rw [← hys]; have := rsN_len o1 (rs.take u); have : (rs.take u).length ≤ rs.length := by simp; omega
                                         omega
      rw [hys] at HI5
      have Hys := Lib.hid hys
      clear hi5 hg5 hx5 hys
      by_cases hult : u < rs.length
      · obtain ⟨bb, oo, s1, y1, rfl, hbb, e1, hs1, -, f1, f2⟩ := p2_el (HR.out.grew stable_p2 Hgv.out) hult
        have Hs1 := Lib.hid hs1
        have Hn1 := Lib.hid (show rsN o1 (rs.take (u + 1)) = putN ys s1 by rw [take_snoc' e1, rsN_snoc, Hys.out])
        clear e1 hs1
        go_wp2_with (go_at_call 26; apply Calls.mono; (with_reducible exact put_p w0 c B ys s1 X5 _ (HI5.out.grew (by (repeat (first | exact Grew.refl _ | refine Grew.over ?_ _ | refine Grew.alloc ?_ _ | refine Grew.drew ?_ | refine Grew.drewN ?_ _)))).ni Hs1.out (by omega)); rintro e w6 ⟨rfl, X6, hi6, hg6, hx6⟩; have HI6 := Lib.hid ((HI5.out.grew (by (repeat (first | exact Grew.refl _ | refine Grew.over ?_ _ | refine Grew.alloc ?_ _ | refine Grew.drew ?_ | refine Grew.drewN ?_ _)))).next hi6 hg6); have HG6 := Lib.hid (Gr.comp (Gr.over HG5.out (by (repeat (first | exact Grew.refl _ | refine Grew.over ?_ _ | refine Grew.alloc ?_ _ | refine Grew.drew ?_ | refine Grew.drewN ?_ _)))) HX5.out hg6); have HX6 := Lib.hid (comp_x HX5.out hx6 (Nat.le_trans HG5.out.size (show Grew _ _ by (repeat (first | exact Grew.refl _ | refine Grew.over ?_ _ | refine Grew.alloc ?_ _ | refine Grew.drew ?_ | refine Grew.drewN ?_ _))).below.size)); clear hi6 hg6 hx6)
        go_roundw
        case rel => exact ⟨u + 1, hult, by go_num, X6, by rw [Hn1.out]; exact HI6.out, HG6.out, HX6.out⟩
        case measure => simp [intOf]; omega
      · have ht : rs.take u = rs := List.take_of_length_le (by omega)
        rw [ht] at Hys
        have Hf := Lib.hid (show NI2 w0 c c2 B (nmF out (.mk _ nm rs ats bd, lv)) X5 _ by rw [Ho.out, Hys.out]; exact HI5.out)
        have HGf := Lib.hid (Gr.comp HG4.out HX4.out HG5.out)
        have HXf := Lib.hid (comp_x HX4.out HX5.out HG4.out.size)
        go_wp2
        go_ret
        exact ⟨rfl, X5, Hf.out.grew (by (repeat (first | exact Grew.refl _ | refine Grew.over ?_ _ | refine Grew.alloc ?_ _ | refine Grew.drew ?_ | refine Grew.drewN ?_ _))), Gr.over HGf.out (by (repeat (first | exact Grew.refl _ | refine Grew.over ?_ _ | refine Grew.alloc ?_ _ | refine Grew.drew ?_ | refine Grew.drewN ?_ _))), HXf.out⟩
  · have Ho : Hid (nmF out (.mk k nm rs ats bd, lv) = rsN out rs) := Lib.hid (by simp only [nmF, if_neg h1])
    have hol : out.length ≤ 30001 := by omega
    obtain ⟨o1, hoo⟩ : ∃ o1, out = o1 := ⟨_, rfl⟩
    have Ho' : Hid (nmF out (.mk k nm rs ats bd, lv) = rsN o1 rs) := Lib.hid (by rw [Ho.out, hoo])
    clear Ho
    have Ho := Lib.hid Ho'.out
    obtain ⟨w4, hw4⟩ : ∃ w4, W.alloc (.cells #[.int .i64 k, .string nm, .slice rp rs.length rc, v3, v4] 43) = w4 := ⟨_, rfl⟩
    have HG4 := Lib.hid (show Gr X W w4 by rw [← hw4]; exact Gr.of_grew X (by (repeat (first | exact Grew.refl _ | refine Grew.over ?_ _ | refine Grew.alloc ?_ _ | refine Grew.drew ?_ | refine Grew.drewN ?_ _))))
    have HI4 := Lib.hid (show NI2 w0 c c2 B o1 X w4 by rw [← hw4, ← hoo]; exact HIb.out)
    have HX4 := Lib.hid (show ∀ k, X k → X k ∨ W.heap.size ≤ k from fun k hk => Or.inl hk)
    have HB4 := Lib.hid (show Bx5 w4 W.heap.size _ _ _ _ _ by rw [← hw4]; exact HBb.out)
    have Hnb4 := Lib.hid Hnb.out
    have Hgw4 := Lib.hid (Hg0.out.gr (fun k hk => (HI.out.ni.x k hk).1) HG4.out)
    obtain ⟨X4, hX4⟩ : ∃ X4, X = X4 := ⟨_, rfl⟩
    rw [hX4] at HI4
    have HX4' := Lib.hid (show ∀ k, X4 k → X k ∨ W.heap.size ≤ k by rw [← hX4]; exact HX4.out)
    have Hnb4' := Lib.hid (show ¬ X4 W.heap.size by rw [← hX4]; exact Hnb.out)
    clear HX4 Hnb4
    have HX4 := Lib.hid HX4'.out
    have Hnb4 := Lib.hid Hnb4'.out
    rw [hoo] at hol
    clear hoo hX4 Ho' HX4' Hnb4'
    obtain ⟨t0, t1, t2, t3, t4, t5⟩ := HB4.out
    have q2 := HI4.out.cell
    go_enter Try.func29, Try.ntmps29
    go_wp2
    clear t0 t1 t2 t3 t4 t5 q2 hw4
    go_loopw [18] (fun i wv => ∃ u : Nat, u ≤ rs.length ∧ i = .int .i64 u ∧ ∃ X', NI2 w0 c c2 B (rsN o1 (rs.take u)) X' wv ∧ Gr X4 w4 wv ∧ ∀ k, X' k → X4 k ∨ w4.heap.size ≤ k) (fun i _ => rs.length - (intOf i).toNat)
    case atStart => exact ⟨0, Nat.zero_le _, rfl, X4, HI4.out.grew (by (repeat (first | exact Grew.refl _ | refine Grew.over ?_ _ | refine Grew.alloc ?_ _ | refine Grew.drew ?_ | refine Grew.drewN ?_ _))), Gr.of_grew X4 (by (repeat (first | exact Grew.refl _ | refine Grew.over ?_ _ | refine Grew.alloc ?_ _ | refine Grew.drew ?_ | refine Grew.drewN ?_ _))), fun k hk => Or.inl hk⟩
    case round =>
      obtain ⟨u, hu, rfl, X5, hi5, hg5, hx5⟩ := hrel
      have HI5 := Lib.hid hi5
      have HG5 := Lib.hid hg5
      have HX5 := Lib.hid hx5
      obtain ⟨t0, t1, t2, t3, t4, t5⟩ := HB4.out.gr hg5 Hnb4.out
      have q2 := HI5.out.cell
      have q3 := World.block_lt_of_cell? _ _ q2
      have Hgv := Lib.hid (Hgw4.out.gr (fun k hk => (HI4.out.ni.x k hk).1) hg5)
      obtain ⟨ys, hys⟩ : ∃ ys, rsN o1 (rs.take u) = ys := ⟨_, rfl⟩
      have hyl : ys.length ≤ 40000 := by rw [← hys]; have := rsN_len o1 (rs.take u); have : (rs.take u).length ≤ rs.length := by simp; omega
                                         omega
      rw [hys] at HI5
      have Hys := Lib.hid hys
      clear hi5 hg5 hx5 hys
      by_cases hult : u < rs.length
      · obtain ⟨bb, oo, s1, y1, rfl, hbb, e1, hs1, -, f1, f2⟩ := p2_el (HR.out.grew stable_p2 Hgv.out) hult
        have Hs1 := Lib.hid hs1
        have Hn1 := Lib.hid (show rsN o1 (rs.take (u + 1)) = putN ys s1 by rw [take_snoc' e1, rsN_snoc, Hys.out])
        clear e1 hs1
        go_wp2_with (go_at_call 26; apply Calls.mono; (with_reducible exact put_p w0 c B ys s1 X5 _ (HI5.out.grew (by (repeat (first | exact Grew.refl _ | refine Grew.over ?_ _ | refine Grew.alloc ?_ _ | refine Grew.drew ?_ | refine Grew.drewN ?_ _)))).ni Hs1.out (by omega)); rintro e w6 ⟨rfl, X6, hi6, hg6, hx6⟩; have HI6 := Lib.hid ((HI5.out.grew (by (repeat (first | exact Grew.refl _ | refine Grew.over ?_ _ | refine Grew.alloc ?_ _ | refine Grew.drew ?_ | refine Grew.drewN ?_ _)))).next hi6 hg6); have HG6 := Lib.hid (Gr.comp (Gr.over HG5.out (by (repeat (first | exact Grew.refl _ | refine Grew.over ?_ _ | refine Grew.alloc ?_ _ | refine Grew.drew ?_ | refine Grew.drewN ?_ _)))) HX5.out hg6); have HX6 := Lib.hid (comp_x HX5.out hx6 (Nat.le_trans HG5.out.size (show Grew _ _ by (repeat (first | exact Grew.refl _ | refine Grew.over ?_ _ | refine Grew.alloc ?_ _ | refine Grew.drew ?_ | refine Grew.drewN ?_ _))).below.size)); clear hi6 hg6 hx6)
        go_roundw
        case rel => exact ⟨u + 1, hult, by go_num, X6, by rw [Hn1.out]; exact HI6.out, HG6.out, HX6.out⟩
        case measure => simp [intOf]; omega
      · have ht : rs.take u = rs := List.take_of_length_le (by omega)
        rw [ht] at Hys
        have Hf := Lib.hid (show NI2 w0 c c2 B (nmF out (.mk _ nm rs ats bd, lv)) X5 _ by rw [Ho.out, Hys.out]; exact HI5.out)
        have HGf := Lib.hid (Gr.comp HG4.out HX4.out HG5.out)
        have HXf := Lib.hid (comp_x HX4.out HX5.out HG4.out.size)
        go_wp2
        go_ret
        exact ⟨rfl, X5, Hf.out.grew (by (repeat (first | exact Grew.refl _ | refine Grew.over ?_ _ | refine Grew.alloc ?_ _ | refine Grew.drew ?_ | refine Grew.drewN ?_ _))), Gr.over HGf.out (by (repeat (first | exact Grew.refl _ | refine Grew.over ?_ _ | refine Grew.alloc ?_ _ | refine Grew.drew ?_ | refine Grew.drewN ?_ _))), HXf.out⟩

theorem validp_e {name : ByteArray} {dir : Bool} {p : Option Addr} {n cap : Nat} {l : List St} {w0 w : World} {e0 : Int} (he : vlE name l = e0) (hS : Sts 20 w0 p cap l) (hg : Grew w0 w) (hn : l.length = n) (hc : cntL l ≤ 600) :
    Calls Try.prog 18 #[.agg #[.string name, .bool dir, .slice p n cap]] w fun e w' => e = .returned (.int .i64 e0) ∧ Grew w w' := he ▸ valid_p name dir p n cap l w (hS.grew (stable_st _) hg) hn hc

set_option maxHeartbeats 2000000 in
theorem names_p (name : ByteArray) (dir : Bool) (p : Option Addr) (n cap : Nat) (l : List St) (w : World) (hS : Sts 20 w p cap l) (hn : l.length = n) (hc : cntL l ≤ 600) (hsm : smL l) :
    Calls Try.prog 11 #[.agg #[.string name, .bool dir, .slice p n cap]] w fun e w' => (∃ q c, e = .returned (.slice q (namesL name l).length c) ∧ Strs w' q c (namesL name l)) ∧ Grew w w' := by
  have HS := Lib.hid hS
  clear hS
  obtain ⟨e0, he⟩ : ∃ e, vlE name l = e := ⟨_, rfl⟩
  have He := Lib.hid he
  clear he
  by_cases h0 : e0 = 0
  case neg =>
    have hN : namesL name l = [] := if_neg (by rw [He.out]; exact h0)
    rw [hN]
    clear hN
    have h0' : (e0 == 0) = false := beq_eq_false_iff_ne.2 h0
    have h0'' : (e0 != 0) = true := bne_iff_ne.2 h0
    go_enter Try.func11, Try.ntmps11
    go_wp2_with (go_at_call 18; apply Calls.mono; (with_reducible exact validp_e He.out HS.out (by (repeat (first | exact Grew.refl _ | refine Grew.over ?_ _ | refine Grew.alloc ?_ _ | refine Grew.drew ?_ | refine Grew.drewN ?_ _))) hn hc); rintro e w1 ⟨rfl, hg1⟩; have Hg1 := Lib.hid (show Grew w w1 from Grew.trans (by (repeat (first | exact Grew.refl _ | refine Grew.over ?_ _ | refine Grew.alloc ?_ _ | refine Grew.drew ?_ | refine Grew.drewN ?_ _))) hg1); clear hg1)
    go_ret
    exact ⟨⟨_, _, rfl, by simp, Nat.zero_le _, fun _ => rfl, fun i x hx => by simp at hx⟩, Hg1.out⟩
  subst h0
  have hN : namesL name l = nmsL (pre l 0) := if_pos He.out
  rw [hN]
  clear hN
  have hlen := cnt_pre l 0
  have Hsm := Lib.hid (pre_sm l 0 hsm)
  have hp : Hid (∀ (w1 : World), Grew w w1 → ∀ (W : World), Grew w1 W → W.heap.size = w1.heap.size + 2 → W.cell? ⟨w1.heap.size, 0, none⟩ = some (.slice none 0 0) → W.frozen? ⟨w1.heap.size, 0, none⟩ = false →
      W.cell? ⟨w1.heap.size + 1, 0, none⟩ = some (.func (.func 26) #[] #[.pointer (some ⟨w1.heap.size, 0, none⟩)]) →
      Calls Try.prog 28 #[.slice p n cap, .int .i64 0, .func (.func 29) #[] #[.pointer (some ⟨w1.heap.size + 1, 0, none⟩)]] W fun e w' => (∃ b, e = .returned (.bool b)) ∧
        (∃ q c, w'.cell? ⟨w1.heap.size, 0, none⟩ = some (.slice q (nmsL (pre l 0)).length c) ∧ Strs w' q c (nmsL (pre l 0))) ∧ Grew w w') := Lib.hid (by
    intro w1 hgw W hg hs hc0 hf0 hc1
    have := visit2_names (.pointer (some ⟨w1.heap.size + 1, 0, none⟩)) w1 (fun done X W => NI2 w1 w1.heap.size (w1.heap.size + 1) (w1.heap.size + 2) (nmsL done) X W) (fun _ _ => False) (pre l 0)
      (fun done X W W' h hg => NI2.grew h hg) (fun done X W h => NI.x h.1)
      (fun done X W m lv k nm rs ats bd rp rc ap ac bp bc hlv hpre hI hg _ hnm hR _ _ => by
        have hlt := pre_le hpre
        have hsub : ∀ x ∈ done, (rsS x.1).length ≤ 40 := fun x hx => Hsm.out x (hpre.subset (by simp [hx]))
        have hl41 := nmsL_len hsub
        have hrs : rs.length ≤ 40 := Hsm.out (.mk k nm rs ats bd, lv) (hpre.subset (by simp))
        refine (names2_p w1 _ _ _ (nmsL done) k nm rs ats bd rp rc _ _ lv X W hI hg hR hrs hnm (by omega)).mono ?_
        rintro e w' ⟨rfl, X', h1, h2, h3⟩
        exact Or.inl ⟨rfl, X', by simp only [nmsL_snoc]; exact h1, h2, h3⟩)
      20 p n cap l 0 [] (fun k => k = w1.heap.size) W (HS.out.grew (stable_st _) hgw) hn (by omega) (by simp) hg
      ⟨⟨.slice none 0 0, hc0, hf0, Nat.le_refl _, by omega, by omega, OwnSl.none layStr rS W _, fun k => by simp [Value.ownBlock]⟩, by omega, by omega, hc1⟩
    refine this.mono ?_
    rintro e w' (⟨rfl, X', hI', h2, h3⟩ | ⟨rfl, ⟨_, _, _, _, _, h⟩, _⟩)
    · obtain ⟨⟨v, i1, i2, i3, i4, i5, i6, i7⟩, -⟩ := hI'
      obtain ⟨q, c, rfl, hst⟩ := i6.slat
      exact ⟨⟨true, rfl⟩, ⟨q, c, i1, hst⟩, (hgw.trans hg).gr (fun k hk => by have := hgw.below.size; omega) h2⟩
    · exact h.elim)
  go_enter Try.func11, Try.ntmps11
  go_wp2_with (first
    | (go_at_call 28; apply Calls.mono; (with_reducible exact hp.out w1 Hg1.out _ (by (repeat (first | exact Grew.refl _ | refine Grew.over ?_ _ | refine Grew.alloc ?_ _ | refine Grew.drew ?_ | refine Grew.drewN ?_ _))) (by simp [go_sem]) (by simp [go_sem]) (by simp [go_sem]) (by simp [go_sem])); rintro e w2 ⟨⟨b, rfl⟩, ⟨q, c, hc2, hst⟩, hg2⟩; have Hst := Lib.hid hst; clear hst)
    | (go_at_call 18; apply Calls.mono; (with_reducible exact validp_e He.out HS.out (by (repeat (first | exact Grew.refl _ | refine Grew.over ?_ _ | refine Grew.alloc ?_ _ | refine Grew.drew ?_ | refine Grew.drewN ?_ _))) hn hc); rintro e w1 ⟨rfl, hg1⟩; have Hg1 := Lib.hid (show Grew w w1 from Grew.trans (by (repeat (first | exact Grew.refl _ | refine Grew.over ?_ _ | refine Grew.alloc ?_ _ | refine Grew.drew ?_ | refine Grew.drewN ?_ _))) hg1); have y2 := hg1.cellEq (b := w.heap.size) (i := 2) (v := .slice p n cap) (by simp [go_sem]); have y3 : w.heap.size < w1.heap.size := Nat.lt_of_lt_of_le (by simp [go_sem]) hg1.below.size; clear hg1))
  go_ret
  exact ⟨⟨q, c, rfl, Hst.out⟩, hg2⟩

/-! ### Clusters -/
set_option maxHeartbeats 1000000 in
theorem clusters1_p (w0 : World) (c B : Nat) (out : List ByteArray) (k : Int) (nm : ByteArray) (rs ats : List P2) (bd : List St) (v2 v3 v4 lvv : Value) (lv : Nat) (X : Nat → Prop) (W : World) (hI : NI w0 c B out X W) (hs : nm.size ≤ maxLen) (hl : out.length ≤ 100000) :
    Calls Try.prog 32 #[.agg #[.int .i64 k, .string nm, v2, v3, v4], lvv, .pointer (some ⟨c, 0, none⟩)] W fun e w' => e = .returned (.bool true) ∧ ∃ X', NI w0 c B (clF out (.mk k nm rs ats bd, lv)) X' w' ∧ Gr X W w' ∧ ∀ k, X' k → X k ∨ W.heap.size ≤ k := by
  have HI := Lib.hid hI
  obtain ⟨v, h1, h2, h3, h4, h5, h6, h7⟩ := hI
  obtain ⟨q, cp, rfl, hst⟩ := h6.slat
  have H6 := Lib.hid h6
  have H7 := Lib.hid h7
  have Hs := Lib.hid hs
  clear h6 h7 hst hs
  by_cases h5' : k = 5
  case neg =>
    have H : Hid (clF out (.mk k nm rs ats bd, lv) = out) := Lib.hid (if_neg h5')
    have h5f : (k == 5) = false := beq_eq_false_iff_ne.2 h5'
    go_enter Try.func32, Try.ntmps32
    go_wp2
    go_ret
    exact ⟨rfl, X, by rw [H.out]; exact HI.out.grew (by (repeat (first | exact Grew.refl _ | refine Grew.over ?_ _ | refine Grew.alloc ?_ _ | refine Grew.drew ?_ | refine Grew.drewN ?_ _))), Gr.of_grew X (by (repeat (first | exact Grew.refl _ | refine Grew.over ?_ _ | refine Grew.alloc ?_ _ | refine Grew.drew ?_ | refine Grew.drewN ?_ _))), fun k hk => Or.inl hk⟩
  subst h5'
  have H : Hid (clF out (.mk 5 nm rs ats bd, lv) = out ++ [nm]) := Lib.hid rfl
  go_enter Try.func32, Try.ntmps32
  go_wp2_with (at_builtin; refine wp_append_sl rfl layStr rS rS_one _ _ rfl B _ out [nm] (H6.out.grew (by (repeat (first | exact Grew.refl _ | refine Grew.over ?_ _ | refine Grew.alloc ?_ _ | refine Grew.drew ?_ | refine Grew.drewN ?_ _)))) (by simp [go_sem]; omega) rfl _ _ _ rfl (slat_one [.string nm] _ (by simp [cellsAt, go_sem]) rfl (by decide) ⟨rfl, Hs.out⟩) rfl (by simp [maxLen]; omega) (by simp [layStr]; omega) ?_; intro v' w' g1 g2 g3 g4; obtain ⟨q', cp', hv', -⟩ := g1.slat; subst hv'; obtain ⟨⟨e1, e2, e3⟩, hfin⟩ := NI.put (w0 := w0) (W := W) (out := out) (out' := out ++ [nm]) (X := X) (by (repeat (first | exact Grew.refl _ | refine Grew.over ?_ _ | refine Grew.alloc ?_ _ | refine Grew.drew ?_ | refine Grew.drewN ?_ _))) h1 h2 h3 h4 h5 H6.out H7.out g1 g2 g4; have Hfin := Lib.hid hfin; clear hfin g1 g2 g3 g4)
  go_ret
  exact ⟨rfl, by rw [H.out]; exact Hfin.out _ (by simp)⟩
set_option maxHeartbeats 2000000 in
theorem clusters_p (name : ByteArray) (dir : Bool) (p : Option Addr) (n cap : Nat) (l : List St) (w : World) (hS : Sts 20 w p cap l) (hn : l.length = n) (hc : cntL l ≤ 600) :
    Calls Try.prog 13 #[.agg #[.string name, .bool dir, .slice p n cap]] w fun e w' => (∃ q c, e = .returned (.slice q (clustL name l).length c) ∧ Strs w' q c (clustL name l)) ∧ Grew w w' := by
  have HS := Lib.hid hS
  clear hS
  obtain ⟨e0, he⟩ : ∃ e, vlE name l = e := ⟨_, rfl⟩
  have He := Lib.hid he
  clear he
  by_cases h0 : e0 = 0
  case neg =>
    have hN : clustL name l = [] := if_neg (by rw [He.out]; exact h0)
    rw [hN]
    clear hN
    have h0' : (e0 == 0) = false := beq_eq_false_iff_ne.2 h0
    have h0'' : (e0 != 0) = true := bne_iff_ne.2 h0
    go_enter Try.func13, Try.ntmps13
    go_wp2_with (go_at_call 18; apply Calls.mono; (with_reducible exact validp_e He.out HS.out (by (repeat (first | exact Grew.refl _ | refine Grew.over ?_ _ | refine Grew.alloc ?_ _ | refine Grew.drew ?_ | refine Grew.drewN ?_ _))) hn hc); rintro e w1 ⟨rfl, hg1⟩; have Hg1 := Lib.hid (show Grew w w1 from Grew.trans (by (repeat (first | exact Grew.refl _ | refine Grew.over ?_ _ | refine Grew.alloc ?_ _ | refine Grew.drew ?_ | refine Grew.drewN ?_ _))) hg1); clear hg1)
    go_ret
    exact ⟨⟨_, _, rfl, by simp, Nat.zero_le _, fun _ => rfl, fun i x hx => by simp at hx⟩, Hg1.out⟩
  subst h0
  have hN : clustL name l = clsL (pre l 0) := if_pos He.out
  rw [hN]
  clear hN
  have hlen := cnt_pre l 0
  have hp : Hid (∀ (w1 : World), Grew w w1 → ∀ (W : World), Grew w1 W → W.heap.size = w1.heap.size + 1 → W.cell? ⟨w1.heap.size, 0, none⟩ = some (.slice none 0 0) → W.frozen? ⟨w1.heap.size, 0, none⟩ = false →
      Calls Try.prog 28 #[.slice p n cap, .int .i64 0, .func (.func 32) #[] #[.pointer (some ⟨w1.heap.size, 0, none⟩)]] W fun e w' => (∃ b, e = .returned (.bool b)) ∧
        (∃ q c, w'.cell? ⟨w1.heap.size, 0, none⟩ = some (.slice q (clsL (pre l 0)).length c) ∧ Strs w' q c (clsL (pre l 0))) ∧ Grew w w') := Lib.hid (by
    intro w1 hgw W hg hs hc0 hf0
    have := visit2_clusters (.pointer (some ⟨w1.heap.size, 0, none⟩)) w1 (fun done X W => NI w1 w1.heap.size (w1.heap.size + 1) (clsL done) X W) (fun _ _ => False) (pre l 0)
      (fun done X W W' h hg => NI.grew h hg) (fun done X W h => NI.x h)
      (fun done X W m lv k nm rs ats bd rp rc ap ac bp bc hlv hpre hI hg _ hnm hR _ _ => by
        have hlt := pre_le hpre
        have hl41 := clsL_len done
        refine (clusters1_p w1 _ _ (clsL done) k nm rs ats bd _ _ _ _ lv X W hI hnm (by omega)).mono ?_
        rintro e w' ⟨rfl, X', h1, h2, h3⟩
        exact Or.inl ⟨rfl, X', by simp only [clsL_snoc]; exact h1, h2, h3⟩)
      20 p n cap l 0 [] (fun k => k = w1.heap.size) W (HS.out.grew (stable_st _) hgw) hn (by omega) (by simp) hg
      ⟨.slice none 0 0, hc0, hf0, Nat.le_refl _, by omega, by omega, OwnSl.none layStr rS W _, fun k => by simp [Value.ownBlock]⟩
    refine this.mono ?_
    rintro e w' (⟨rfl, X', hI', h2, h3⟩ | ⟨rfl, ⟨_, _, _, _, _, h⟩, _⟩)
    · obtain ⟨v, i1, i2, i3, i4, i5, i6, i7⟩ := hI'
      obtain ⟨q, c, rfl, hst⟩ := i6.slat
      exact ⟨⟨true, rfl⟩, ⟨q, c, i1, hst⟩, (hgw.trans hg).gr (fun k hk => by have := hgw.below.size; omega) h2⟩
    · exact h.elim)
  go_enter Try.func13, Try.ntmps13
  go_wp2_with (first
    | (go_at_call 28; apply Calls.mono; (with_reducible exact hp.out w1 Hg1.out _ (by (repeat (first | exact Grew.refl _ | refine Grew.over ?_ _ | refine Grew.alloc ?_ _ | refine Grew.drew ?_ | refine Grew.drewN ?_ _))) (by simp [go_sem]) (by simp [go_sem]) (by simp [go_sem])); rintro e w2 ⟨⟨b, rfl⟩, ⟨q, c, hc2, hst⟩, hg2⟩; have Hst := Lib.hid hst; clear hst)
    | (go_at_call 18; apply Calls.mono; (with_reducible exact validp_e He.out HS.out (by (repeat (first | exact Grew.refl _ | refine Grew.over ?_ _ | refine Grew.alloc ?_ _ | refine Grew.drew ?_ | refine Grew.drewN ?_ _))) hn hc); rintro e w1 ⟨rfl, hg1⟩; have Hg1 := Lib.hid (show Grew w w1 from Grew.trans (by (repeat (first | exact Grew.refl _ | refine Grew.over ?_ _ | refine Grew.alloc ?_ _ | refine Grew.drew ?_ | refine Grew.drewN ?_ _))) hg1); have y2 := hg1.cellEq (b := w.heap.size) (i := 2) (v := .slice p n cap) (by simp [go_sem]); have y3 : w.heap.size < w1.heap.size := Nat.lt_of_lt_of_le (by simp [go_sem]) hg1.below.size; clear hg1))
  go_ret
  exact ⟨⟨q, c, rfl, Hst.out⟩, hg2⟩

end Go.Proofs.Ytbamckfjikpjlaa
