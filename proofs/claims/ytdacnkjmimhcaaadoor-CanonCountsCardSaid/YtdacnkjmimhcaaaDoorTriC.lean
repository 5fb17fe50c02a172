/- simple of the program. -/
import Derived.Test.YtdacnkjmimhcaaaDoorTriB
import Derived.Maps.Own
import Derived.Maps.OwnOps
import Derived.Maps.Views
import Derived.DeepKeys4
import Derived.MapViews
set_option linter.unusedSimpArgs false
set_option linter.unusedVariables false
namespace Go.Proofs.YtdacnkjmimhcaaaDoor
open Go.RowKit
open Go.WideMaps (KeyLaw)
open Go.Maps (Keyed IsMap)
attribute [local go_sem ↓] Go.wp_at_zero Go.wp_at_succ

theorem arc_law : Keyed Tryd.prog 39 := Keyed.of_law (deep_law_laid (by kernel_rfl) (m := 2) (by omega) (of_decide_eq_true (by kernel_rfl)) (by kernel_rfl) (by rw [Tryd.underlying39]))
theorem zero_bool (w : World) : (zeroValue 4).run Tryd.prog w = .ok (.bool false) w := by kernel_rfl
def arcV (a : Int × Int) : Value := .agg #[.int .i64 a.1, .int .i64 a.2]
theorem arc_keyT : Tryd.prog.keyType 39 = true := by kernel_rfl
theorem arc_cells : Tryd.prog.cellsOf 39 = 2 := by kernel_rfl
theorem int_cells : Tryd.prog.cellsOf 3 = 1 := by kernel_rfl
theorem types_pos : ∃ m, Tryd.prog.types.size = m + 1 := ⟨Tryd.prog.types.size - 1, by have : 0 < Tryd.prog.types.size := of_decide_eq_true (by kernel_rfl); omega⟩
theorem arc_key (a : Int × Int) (h1 : (Lit.int .i64 a.1).wf = true) (h2 : (Lit.int .i64 a.2).wf = true) : ∃ kl, keyOf Tryd.prog 39 (arcV a) = some kl := by
  obtain ⟨m, hm⟩ := types_pos
  have hf : (arcV a).formed Tryd.prog 39 = true := by unfold arcV; simp [Value.formed, Tryd.underlying39, arc_cells]
  unfold keyOf
  rw [Tryd.underlying39]
  simp only [arc_keyT, hf, Bool.and_self, if_true, hm]
  unfold Program.keyLits
  rw [Tryd.underlying39]
  simp [arcV, Value.cells, arc_cells, int_cells, Program.keyLits, Tryd.underlying3, h1, h2]
noncomputable def klA (a : Int × Int) : Lit := (keyOf Tryd.prog 39 (arcV a)).getD (.bool false)
def ok64 (a : Int × Int) : Prop := (Lit.int .i64 a.1).wf = true ∧ (Lit.int .i64 a.2).wf = true
theorem klA_eq {a : Int × Int} (h : ok64 a) : keyOf Tryd.prog 39 (arcV a) = some (klA a) := by
  obtain ⟨kl, hk⟩ := arc_key a h.1 h.2
  unfold klA; rw [hk]; rfl
theorem klA_inj {a b : Int × Int} (ha : ok64 a) (hb : ok64 b) (h : klA a = klA b) : a = b := by
  have h1 := klA_eq ha
  rw [h] at h1
  have := arc_law.inj h1 (klA_eq hb)
  unfold arcV at this
  injection this with e
  simp at e
  exact Prod.ext e.1 e.2
theorem ok_small {a : Int × Int} (h : (0 ≤ a.1 ∧ a.1 ≤ 1000000) ∧ 0 ≤ a.2 ∧ a.2 ≤ 1000000) : ok64 a := by
  have hw : ∀ x : Int, 0 ≤ x → x ≤ 1000000 → (Lit.int .i64 x).wf = true := fun x h0 h1 => by
    have e1 : IntKind.i64.min = -9223372036854775808 := rfl
    have e2 : IntKind.i64.max = 9223372036854775807 := rfl
    simp only [Lit.wf, e1, e2]
    simp; omega
  exact ⟨hw _ h.1.1 h.1.2, hw _ h.2.1 h.2.2⟩

/-! ### Worlds with a map of the call's own -/
theorem cell?_alloc_map (w : World) (es : Array MapEntry) (c n i : Nat) : (w.alloc (.map es c)).cell? ⟨n, i, none⟩ = if n < w.heap.size then w.cell? ⟨n, i, none⟩ else none := by
  unfold World.cell?
  rw [show (Addr.mk n i none).block = n from rfl, heap_alloc_if]
  by_cases h1 : n < w.heap.size
  · simp only [if_pos h1]
  · simp only [if_neg h1]
    by_cases h2 : n = w.heap.size
    · simp [h2]
    · simp [h2]

theorem wpList_lookup_run {P : Program} {w : World} {ops : Array Oper} {rest : List Oper} {o : Oper} {a : Act} {Q : Exit → Act → World → Prop}
    (hg : o.guard = none) (m x : Operand) (t : TypeId) (hop : o.op = Op.lookup t m x false) (mv kv v : Value) (hm : a.eval m = mv) (hx : a.eval x = kv) (hrun : (Instr.lookup t mv kv false).run P w = .ok v w)
    (hK : wpList P ops Q rest (a.put o.dst v) w) : wpList P ops Q (o :: rest) a w := by
  refine wpList_plain hg fun K' hK' => ?_
  unfold Oper.wp
  simp [execOp, hop, hm, hx, hrun, Result.andThen]
  exact hK' _ _ hK
theorem ownsMap_grew {w w' : World} {b n : Nat} {k : TypeId} {R : Value → Option (DataW Unit × List MemPlace)} {D : DataW Unit} (h : w.ownsMap Tryd.prog k R b n D) (hg : Grew w w') : w'.ownsMap Tryd.prog k R b n D := by
  have hlt := h.lt
  obtain ⟨es, clock, hb, F, hs, hD⟩ := h
  exact ⟨es, clock, (hg.below.block b hlt).trans hb, F, hs, hD⟩
/-- An edge with its lesser end first. -/
def nrm (a : Int × Int) : Int × Int := if a.1 < a.2 then a else (a.2, a.1)
theorem jn_nrm {x y : Int} {a : Int × Int} (h : x ≠ y) : jn x y a = true ↔ nrm a = nrm (x, y) := by
  obtain ⟨p, q⟩ := a
  unfold jn nrm
  simp only [Bool.or_eq_true, Bool.and_eq_true, beq_iff_eq]
  split <;> split <;> simp only [Prod.mk.injEq] <;> omega
theorem join_nrm {L : List (Int × Int)} {x y : Int} (h : x ≠ y) : joinB L x y = true ↔ nrm (x, y) ∈ L.map nrm := by
  unfold joinB
  rw [List.any_eq_true, List.mem_map]
  exact ⟨fun ⟨a, ha, hj⟩ => ⟨a, ha, (jn_nrm h).1 hj⟩, fun ⟨a, ha, hj⟩ => ⟨a, ha, (jn_nrm h).2 hj⟩⟩

/-- The map holds just the arcs of L. -/
def MetA (D : DataW Unit) (L : List (Int × Int)) : Prop := IsMap D ∧ ∀ a, ok64 a → D.atKey (klA a) (.lit (.bool false)) = .lit (.bool (decide (a ∈ L)))
theorem MetA.nil : MetA (.map []) [] := ⟨⟨[], rfl⟩, fun a _ => by simp [DataW.atKey]⟩
theorem MetA.put {D : DataW Unit} {L : List (Int × Int)} (h : MetA D L) {b : Int × Int} (hb : ok64 b) : MetA (D.put (klA b) (.lit (.bool true))) (L ++ [b]) := by
  refine ⟨h.1.put _ _, fun a ha => ?_⟩
  by_cases e : a = b
  · subst e
    rw [Maps.atKey_put_same h.1 (arc_law.key (klA_eq ha))]
    simp
  · rw [Maps.atKey_put_other (fun k => e (klA_inj ha hb k)), h.2 a ha]
    simp [e]

/-- What the look-up of an arc gives. -/
theorem MetA.look {w : World} {b n : Nat} {D : DataW Unit} {L : List (Int × Int)} (h : MetA D L) (hO : w.ownsMap Tryd.prog 39 (plainElem Tryd.prog 4) b n D) {a : Int × Int} (ha : ok64 a) :
    (Instr.lookup 69 (.map (some b)) (.agg #[.int .i64 a.1, .int .i64 a.2]) false).run Tryd.prog w = .ok (.bool (decide (a ∈ L))) w := by
  obtain ⟨v, ps, hrun, hv⟩ := hO.lookup (t := 69) arc_law Tryd.underlying69 (zero_bool w) (plainElem_bool Tryd.underlying4 false) (klA_eq ha)
  rw [h.2 a ha] at hv
  have : v = .bool (decide (a ∈ L)) := by
    unfold plainElem at hv
    rw [Tryd.underlying4] at hv
    cases v <;> simp at hv
    rw [hv.1]
  rw [← this]
  exact hrun

set_option maxRecDepth 4000 in
set_option maxHeartbeats 4000000 in
theorem simple_p (N : Int) (pE pA : Option Addr) (nE nA cE cA : Nat) (E : List (Int × Int)) (w : World) (hE : Prs w pE E) (he1 : E.length ≤ 100) (hnE : E.length = nE) (hN : N ≤ 16384) (hed : ∀ i, i < E.length → okEdge N (pr E i)) :
    Calls Tryd.prog 51 #[.agg #[.int .i64 N, .slice pE nE cE, .slice pA nA cA]] w fun e w' => e = .returned (.bool (simB E)) ∧ Grew w w' := by
  subst hnE
  have HE := Lib.hid hE
  have Hed := Lib.hid hed
  clear hE hed
  have hmm := @run_makeMap Tryd.prog
  go_enter Tryd.func51, Tryd.ntmps51
  go_wp2
  have h1 : ((w.alloc (.cells #[.int .i64 N, .slice pE E.length cE, .slice pA nA cA] 25)).alloc (.map #[] 0)).cell? ⟨w.heap.size, 1, none⟩ = some (.slice pE E.length cE) := by rw [cell?_alloc_map, if_pos (by simp)]; simp [go_sem]
  go_wp2
  have Hg0 : Hid (Grew w (w.alloc (.cells #[.int .i64 N, .slice pE E.length cE, .slice pA nA cA] 25))) := Lib.hid ((Grew.refl w).alloc _)
  go_loopw [10] (fun i wr => ∃ j : Nat, j ≤ E.length ∧ i = .int .i64 j ∧ (∀ t, t < j → joinB (E.take t) (pr E t).1 (pr E t).2 = false) ∧ Grew (w.alloc (.cells #[.int .i64 N, .slice pE E.length cE, .slice pA nA cA] 25)) wr ∧ ∃ D : DataW Unit, MetA D ((E.take j).map nrm) ∧ wr.ownsMap Tryd.prog 39 (plainElem Tryd.prog 4) (w.heap.size + 1) j D) (fun i _ => E.length - (intOf i).toNat)
  case atStart => exact ⟨0, Nat.zero_le _, rfl, fun t ht => absurd ht (Nat.not_lt_zero _), (Grew.refl _).alloc _, .map [], MetA.nil, (by have h := World.ownsMap_made (H := Unit) (w.alloc (.cells #[.int .i64 N, .slice pE E.length cE, .slice pA nA cA] 25)) Tryd.prog 39 (plainElem Tryd.prog 4); rw [World.size_alloc] at h; exact h)⟩
  case round =>
    obtain ⟨j, hj, rfl, hok, hg, D, hD, hO⟩ := hrel
    clear h1
    have Hok := Lib.hid hok
    have Hg := Lib.hid hg
    have HD := Lib.hid hD
    have HO := Lib.hid hO
    have hszr := hg.below.size
    simp at hszr
    have hblt := hO.lt
    have Hgw : Hid (Grew w wr) := Lib.hid (Hg0.out.trans hg)
    have b1 : wr.cell? ⟨w.heap.size, 1, none⟩ = some (.slice pE E.length cE) := hg.cellEq (by first | (go_simp; done) | (simp [go_sem, ↓IntWalk.iteOmega, *]; done))
    clear hok hg hD hO
    by_cases hlt : j < E.length
    · obtain ⟨bE, oE, rfl, lE, cE'⟩ := HE.out.cells (by omega)
      obtain ⟨c1, c2⟩ := cE' wr Hgw.out j hlt
      clear cE'
      have hok := Hed.out j hlt
      unfold okEdge at hok
      obtain ⟨x, hx⟩ : ∃ x, (pr E j).1 = x := ⟨_, rfl⟩
      obtain ⟨y, hy⟩ : ∃ y, (pr E j).2 = y := ⟨_, rfl⟩
      obtain ⟨lo, hlo⟩ : ∃ lo, (nrm (x, y)).1 = lo := ⟨_, rfl⟩
      obtain ⟨hi, hhi⟩ : ∃ hi, (nrm (x, y)).2 = hi := ⟨_, rfl⟩
      obtain ⟨t, ht⟩ : ∃ t, joinB (E.take j) x y = t := ⟨_, rfl⟩
      have hnr : nrm (x, y) = (lo, hi) := Prod.ext hlo hhi
      rw [hx] at c1 hok; rw [hy] at c2 hok
      have hmin : (if y < x then y else x) = lo ∧ (if x < y then y else x) = hi := by
        rw [← hlo, ← hhi]; unfold nrm
        rcases Int.lt_trichotomy x y with h | h | h
        · rw [if_neg (by omega), if_pos h, if_pos h]; exact ⟨rfl, rfl⟩
        · omega
        · rw [if_pos h, if_neg (by omega), if_neg (by omega)]; exact ⟨rfl, rfl⟩
      have hb : (0 ≤ lo ∧ lo ≤ 1000000) ∧ 0 ≤ hi ∧ hi ≤ 1000000 := by
        obtain ⟨q1, q2⟩ := hmin
        split at q1 <;> split at q2 <;> omega
      have Hokb : Hid (ok64 (lo, hi)) := Lib.hid (ok_small hb)
      have hdec : decide ((lo, hi) ∈ (E.take j).map nrm) = t := by
        rw [← ht, ← hnr, Bool.eq_iff_iff, decide_eq_true_iff, join_nrm hok.2.2.2.2]
      have HLK : Hid (∀ W1, Grew wr W1 → (Instr.lookup 69 (.map (some (w.heap.size + 1))) (.agg #[.int .i64 lo, .int .i64 hi]) false).run Tryd.prog W1 = .ok (.bool t) W1) := Lib.hid (fun W1 hg1 => by
        have h := HD.out.look (ownsMap_grew HO.out hg1) Hokb.out
        rw [hdec] at h
        exact h)
      have Ht : Hid (joinB (E.take j) (pr E j).1 (pr E j).2 = t) := Lib.hid (by rw [hx, hy]; exact ht)
      have Hnx : Hid ((E.take (j + 1)).map nrm = (E.take j).map nrm ++ [(lo, hi)]) := Lib.hid (by
        rw [List.take_succ_eq_append_getElem hlt, ← pr_eq E hlt, List.map_append, List.map_cons, List.map_nil, ← hnr, ← hx, ← hy])
      obtain ⟨hm1, hm2⟩ := hmin
      clear hlo hhi hnr hx hy ht hdec hb hok
      cases t
      case false =>
        have Hnj : Hid (∀ t, t < j + 1 → joinB (E.take t) (pr E t).1 (pr E t).2 = false) := Lib.hid (fun t ht => by
          by_cases e : t = j
          · subst e; exact Ht.out
          · exact Hok.out t (by omega))
        go_wp2_with (first
          | (at_lookup; refine wpList_lookup_run rfl _ _ _ rfl _ _ (.bool false) rfl rfl (HLK.out _ (by (repeat (first | exact Grew.refl _ | refine Grew.over ?_ _ | refine Grew.alloc ?_ _ | refine Grew.drew ?_ | refine Grew.drewN ?_ _)))) ?_)
          | (at_mapUpdate; refine wpList_mapUpdate_own _ rfl _ _ _ 69 rfl 39 4 arc_law Tryd.underlying69 (plainElem Tryd.prog 4) (w.heap.size + 1) j D rfl (ownsMap_grew HO.out (by (repeat (first | exact Grew.refl _ | refine Grew.over ?_ _ | refine Grew.alloc ?_ _ | refine Grew.drew ?_ | refine Grew.drewN ?_ _)))) (by simp only [maxLen]; omega) _ _ (klA (lo, hi)) rfl rfl (klA_eq Hokb.out) (.lit (.bool true)) [] (plainElem_bool Tryd.underlying4 true) ?_; intro w1 hO1 hg1))
        go_roundw
        case rel => exact ⟨j + 1, by omega, by go_num, Hnj.out, (Grew.grownBy (w0 := w.alloc (.cells #[.int .i64 N, .slice (some ⟨bE, oE, none⟩) E.length cE, .slice pA nA cA] 25)) (Hg.out.trans (by (repeat (first | exact Grew.refl _ | refine Grew.over ?_ _ | refine Grew.alloc ?_ _ | refine Grew.drew ?_ | refine Grew.drewN ?_ _)))) hg1 (fun k h => by have := Option.some.inj h; simp; omega)), D.put (klA (lo, hi)) (.lit (.bool true)), (by rw [Hnx.out]; exact HD.out.put Hokb.out), hO1⟩
        case measure => simp [intOf]; omega
      case true =>
        have Hf : Hid (simB E = false) := Lib.hid (sim_bad hlt Ht.out)
        go_wp2_with (first
          | (at_lookup; refine wpList_lookup_run rfl _ _ _ rfl _ _ (.bool true) rfl rfl (HLK.out _ (by (repeat (first | exact Grew.refl _ | refine Grew.over ?_ _ | refine Grew.alloc ?_ _ | refine Grew.drew ?_ | refine Grew.drewN ?_ _)))) ?_))
        go_ret
        exact ⟨by rw [Hf.out]; rfl, Hgw.out.trans (by (repeat (first | exact Grew.refl _ | refine Grew.over ?_ _ | refine Grew.alloc ?_ _ | refine Grew.drew ?_ | refine Grew.drewN ?_ _)))⟩
    · have Hf : Hid (simB E = true) := Lib.hid (sim_all fun i hi => Hok.out i (by omega))
      go_wp2
      go_ret
      exact ⟨by rw [Hf.out]; rfl, Hgw.out.trans (by (repeat (first | exact Grew.refl _ | refine Grew.over ?_ _ | refine Grew.alloc ?_ _ | refine Grew.drew ?_ | refine Grew.drewN ?_ _)))⟩

end Go.Proofs.YtdacnkjmimhcaaaDoor
