/- connected of the program. -/
import Derived.Test.YtdacnkjmimhcaaaDoorTriC
import Derived.Test.YtdacnkjmimhcaaaDoorRotQ
set_option linter.unusedSimpArgs false
set_option linter.unusedVariables false
namespace Go.Proofs.YtdacnkjmimhcaaaDoor
open Go.RowKit
attribute [local go_sem ↓] Go.wp_at_zero Go.wp_at_succ

theorem sub_len : ∀ {L l : List Int}, L.Nodup → (∀ x ∈ L, x ∈ l) → L.length ≤ l.length
  | [], _, _, _ => Nat.zero_le _
  | x :: L, l, hn, hs => by
    obtain ⟨h1, h2⟩ := List.nodup_cons.1 hn
    have hx := hs x (List.mem_cons_self ..)
    have := sub_len (L := L) (l := l.erase x) h2 (fun y hy => (List.mem_erase_of_ne (fun e => h1 (by rw [← e]; exact hy))).2 (hs y (List.mem_cons_of_mem _ hy)))
    rw [List.length_erase_of_mem hx] at this
    have h0 : 0 < l.length := List.length_pos_of_mem hx
    rw [List.length_cons]
    omega
theorem idL_nodup (N : Nat) : (idL N).Nodup := by
  unfold idL
  rw [List.nodup_iff_pairwise_ne, List.pairwise_map]
  exact (List.nodup_range (n := N)).imp (fun h e => h (by omega))
theorem mem_idL {N : Nat} {x : Int} : x ∈ idL N ↔ 0 ≤ x ∧ x < N := by
  unfold idL
  rw [List.mem_map]
  exact ⟨fun ⟨v, hv, e⟩ => by have := List.mem_range.1 hv; omega, fun ⟨h0, h1⟩ => ⟨x.toNat, List.mem_range.2 (by omega), by omega⟩⟩
/-- One component: all vertices are reached from the first one. -/
theorem one_comp {E : List (Int × Int)} {N : Nat} (hN : 0 < N) : cntL E N = 1 ↔ ∀ v : Nat, v < N → Cn E E.length 0 v := by
  have h0 : isL E E.length ((0 : Nat) : Int) := fun u h1 h2 => by omega
  constructor
  · intro hc v
    induction v using Nat.strongRecOn with
    | _ v ih =>
      intro hv
      by_cases e : v = 0
      · subst e; exact Cn.refl _
      · by_cases hL : isL E E.length (v : Int)
        · exfalso
          unfold cntL at hc
          have h1 := cntP_drop (p := fun v : Nat => isL E E.length v) (q := fun u : Nat => isL E E.length u ∧ u ≠ v) (x := v) hL (fun h => h.2 rfl) hv (fun u _ hu => ⟨fun h => ⟨h, hu⟩, fun h => h.1⟩)
          have h2 := cntP_drop (p := fun u : Nat => isL E E.length u ∧ u ≠ v) (q := fun u : Nat => (isL E E.length u ∧ u ≠ v) ∧ u ≠ 0) (x := 0) ⟨h0, by omega⟩ (fun h => h.2 rfl) hN (fun u _ hu => ⟨fun h => ⟨h, hu⟩, fun h => h.1⟩)
          omega
        · obtain ⟨u, h1, h2, h3⟩ : ∃ u : Int, 0 ≤ u ∧ u < v ∧ Cn E E.length u v := by
            apply Classical.byContradiction
            intro hn
            exact hL (fun u h1 h2 h3 => hn ⟨u, h1, h2, h3⟩)
          have := ih u.toNat (by omega) (by omega)
          rw [show ((u.toNat : Nat) : Int) = u by omega] at this
          exact this.trans h3
  · intro hall
    unfold cntL
    rw [cntP_congr (q := fun v : Nat => v = 0) (fun v hv => ⟨fun h => by
      by_cases e : v = 0
      · exact e
      · exact absurd (hall v hv) (h 0 (by omega) (by omega)), fun h => by rw [h]; exact h0⟩)]
    obtain ⟨n, rfl⟩ : ∃ n, N = n + 1 := ⟨N - 1, by omega⟩
    clear hN hall
    induction n with
    | zero => simp [cntP]
    | succ n ih => rw [cntP, ih]; simp
theorem bfs_one {E : List (Int × Int)} {N : Nat} {S : List Int} (hN : 0 < N) (h : Bfs E N 0 S []) : decide (S.length = N) = decide (cntL E N = 1) := by
  have hS := h.done
  rw [decide_eq_decide, one_comp hN]
  constructor
  · intro hl v hv
    have hv' : (v : Int) ∈ S := by
      apply Classical.byContradiction
      intro hn
      have h1 : Met N (S ++ [(v : Int)]) := h.met.snoc (by omega) (by omega) hn
      have := h1.len
      rw [List.length_append] at this
      simp at this; omega
    obtain ⟨u, h1, h2, h3⟩ := (hS _).1 hv'
    have : u = 0 := by omega
    subst this; exact h3
  · intro hall
    have h1 := h.met.len
    have h2 := sub_len (idL_nodup N) (l := S) (fun x hx => by
      obtain ⟨q0, q1⟩ := mem_idL.1 hx
      have := hall x.toNat (by omega)
      rw [show ((x.toNat : Nat) : Int) = x by omega] at this
      exact (hS x).2 ⟨0, by omega, by omega, this⟩)
    rw [idL_len] at h2
    omega

theorem own_form {w : World} {B : Nat} {rs : List Row} {k sz n : Nat} {v : Value} {e : TypeId} {vs : List Value} (h : Owns w B rs) (hk : rs[k]? = some ⟨v, e, sz, n, vs⟩) : ∃ p c, v = .slice p n c := by
  rcases (h.get hk).2 with ⟨g1, g2⟩ | ⟨g, cap, g1, _⟩
  · exact ⟨none, 0, by rw [g1, g2]⟩
  · exact ⟨_, _, g1⟩
theorem own_nil {w : World} {B : Nat} {rs : List Row} {k n c sz : Nat} {e : TypeId} {vs : List Value} {pl : Option Addr} (h : Owns w B rs) (hk : rs[k]? = some ⟨.slice pl n c, e, sz, n, vs⟩) : pl = none → n = 0 ∧ c = 0 := by
  intro hp
  subst hp
  rcases (h.get hk).2 with ⟨g1, g2⟩ | ⟨g, cap, g1, _⟩
  · simp only [Value.slice.injEq, true_and] at g1
    exact ⟨g2, g1.2⟩
  · simp only [Value.slice.injEq] at g1
    cases g1.1
theorem own_c0 {w : World} {B n g : Nat} {e : TypeId} (h : Owns w B [⟨.slice (some ⟨g, 0, none⟩) n n, e, 1, n, List.replicate n (.bool false)⟩]) (hn : 0 < n) :
    w.cell? ⟨g, 0, none⟩ = some (.bool false) ∧ w.frozen? ⟨g, 0, none⟩ = false := by
  obtain ⟨g', c, e1, _, _, _, _, h1, h2⟩ := h.some (k := 0) rfl hn
  cases e1
  exact ⟨h2 0 _ (by simp [hn]), h1 0⟩
theorem tail_sum (E : List (Int × Int)) (m : Nat) : (pr E (m / 2)).1 + (pr E (m / 2)).2 - tailE E m = tailE E (oth m) := by
  rcases Nat.mod_two_eq_zero_or_one m with h | h
  · have e1 : oth (m : Int) = m + 1 := by unfold oth; rw [if_pos (by omega)]
    have e2 : tailE E m = (pr E (m / 2)).1 := by unfold tailE; rw [if_pos (by omega), show ((m : Int) / 2).toNat = m / 2 by omega]
    have e3 : tailE E ((m : Int) + 1) = (pr E (m / 2)).2 := by unfold tailE; rw [if_neg (by omega), show (((m : Int) + 1) / 2).toNat = m / 2 by omega]
    rw [e1, e2, e3]; omega
  · have e1 : oth (m : Int) = m - 1 := by unfold oth; rw [if_neg (by omega)]
    have e2 : tailE E m = (pr E (m / 2)).2 := by unfold tailE; rw [if_neg (by omega), show ((m : Int) / 2).toNat = m / 2 by omega]
    have e3 : tailE E ((m : Int) - 1) = (pr E (m / 2)).1 := by unfold tailE; rw [if_pos (by omega), show (((m : Int) - 1) / 2).toNat = m / 2 by omega]
    rw [e1, e2, e3]; omega
noncomputable def connB (E : List (Int × Int)) (A : List (List Int)) : Bool := decide (cntL E A.length = 1)

set_option maxRecDepth 8000 in
set_option maxHeartbeats 16000000 in
theorem connected_p (N : Int) (pE pA : Option Addr) (nE nA cE cA : Nat) (E : List (Int × Int)) (A : List (List Int)) (w : World) (hR : RotAt w pE pA E A) (hV : vRot N E A) (hnE : E.length = nE) (hnA : A.length = nA) :
    Calls Tryd.prog 50 #[.agg #[.int .i64 N, .slice pE nE cE, .slice pA nA cA]] w fun e w' => e = .returned (.bool (connB E A)) ∧ Grew w w' := by
  subst hnE hnA
  have he1 := hR.e1
  have ha1 := hR.a1
  have hN : N = A.length := hV.al.symm
  subst hN
  have HR := Lib.hid hR
  have HL := Lib.hid hR.r1
  have HV := Lib.hid hV
  have Hed := Lib.hid hV.ed
  clear hR hV
  by_cases hA0 : A.length = 0
  · have Hf : Hid (connB E A = false) := Lib.hid (by unfold connB cntL; rw [hA0]; simp [cntP])
    go_enter Tryd.func50, Tryd.ntmps50
    rw [hA0]
    go_wp2
    go_ret
    exact ⟨by rw [Hf.out]; rfl, by (repeat (first | exact Grew.refl _ | refine Grew.over ?_ _ | refine Grew.alloc ?_ _ | refine Grew.drew ?_ | refine Grew.drewN ?_ _))⟩
  have hApos : 0 < A.length := by omega
  have hAi : ¬ ((A.length : Int) = 0) := by omega
  go_enter Tryd.func50, Tryd.ntmps50
  go_wp2_with (refine wp_make_owns rfl _ _ 58 rfl 4 1 (.bool false) Tryd.underlying58 Tryd.infoBool rfl .i64 .i64 _ _ A.length rfl rfl rfl rfl (by omega) (by simp only [maxLen]; omega) (w.heap.size + 1) [] (Owns.nil _ _) (by simp) ?_; intro w4 hO hg4 hs4; have HO4 := Lib.hid hO; have Hg4 := Lib.hid hg4; have hsz4 := hg4.below.size; (have ⟨hc4, hf4⟩ := own_c0 hO hApos); rw [World.size_alloc] at hc4 hf4; clear hO hg4)
  simp at hs4 hsz4
  have HwB : Hid (Grew w (w.alloc (.cells #[.int .i64 A.length, .slice pE E.length cE, .slice pA A.length cA] 25))) := Lib.hid ((Grew.refl w).alloc _)
  have Hc0 : Hid ((w.alloc (.cells #[.int .i64 A.length, .slice pE E.length cE, .slice pA A.length cA] 25)).cell? ⟨w.heap.size, 0, none⟩ = some (.int .i64 A.length)) := Lib.hid (by simp [go_sem])
  have Hc1 : Hid ((w.alloc (.cells #[.int .i64 A.length, .slice pE E.length cE, .slice pA A.length cA] 25)).cell? ⟨w.heap.size, 1, none⟩ = some (.slice pE E.length cE)) := Lib.hid (by simp [go_sem])
  have Hc2 : Hid ((w.alloc (.cells #[.int .i64 A.length, .slice pE E.length cE, .slice pA A.length cA] 25)).cell? ⟨w.heap.size, 2, none⟩ = some (.slice pA A.length cA)) := Lib.hid (by simp [go_sem])
  have hsB : (w.alloc (.cells #[.int .i64 A.length, .slice pE E.length cE, .slice pA A.length cA] 25)).heap.size = w.heap.size + 1 := by simp
  obtain ⟨wB, hwB⟩ : ∃ wB, w.alloc (.cells #[.int .i64 A.length, .slice pE E.length cE, .slice pA A.length cA] 25) = wB := ⟨_, rfl⟩
  rw [hwB] at Hg4 HwB Hc0 Hc1 Hc2 hsB HO4
  clear hwB
  rw [hsB] at HO4
  have HO5 : Hid (Owns (w4.setCell ⟨w.heap.size + 1, 0, none⟩ (.bool true)) (w.heap.size + 1) [⟨.slice (some ⟨w.heap.size + 1, 0, none⟩) A.length A.length, 4, 1, A.length, bls A.length [0]⟩]) := Lib.hid (by
    have h := HO4.out.set (k := 0) rfl 0 (.bool true)
    have e := bls_set [] hApos
    rw [bls_nil] at e
    replace h : Owns (w4.setCell ⟨w.heap.size + 1, 0, none⟩ (.bool true)) (w.heap.size + 1) [⟨.slice (some ⟨w.heap.size + 1, 0, none⟩) A.length A.length, 4, 1, A.length, (List.replicate A.length (.bool false)).set 0 (.bool true)⟩] := h
    rw [e] at h
    exact h)
  have Hg5 := Lib.hid (Hg4.out.setCell (show wB.heap.size ≤ (⟨w.heap.size + 1, 0, none⟩ : Addr).block by dsimp only; omega) (.bool true))
  clear hc4 hf4
  go_loopw [4, 5] (fun vQ iv wr => ∃ (i : Nat) (S : List Int), i ≤ S.length ∧ iv = .int .i64 i ∧ Bfs E A.length 0 S (S.drop i) ∧ Grew wB wr ∧ Owns wr (w.heap.size + 1) [⟨.slice (some ⟨w.heap.size + 1, 0, none⟩) A.length A.length, 4, 1, A.length, bls A.length S⟩, ⟨vQ, 3, 1, S.length, intVs S⟩]) (fun _ iv _ => 101 - (intOf iv).toNat)
  case atStart =>
    refine ⟨0, [0], Nat.zero_le _, rfl, ?_, Hg5.out.trans (by (repeat (first | exact Grew.refl _ | refine Grew.over ?_ _ | refine Grew.alloc ?_ _ | refine Grew.drew ?_ | refine Grew.drewN ?_ _))), ?_⟩
    · have h := Bfs.start (E := E) (N := A.length) (v := 0) (S := []) ⟨List.nodup_nil, fun _ h => by cases h⟩ (fun x => ⟨fun h => (by cases h), fun h => (by obtain ⟨u, h1, h2, _⟩ := h; omega)⟩) hApos (by simp)
      exact h
    · exact (HO5.out.made (by simp; omega) #[.int .i64 0] 3 1 1 _ rfl (by decide) (by simp)).perm (List.Perm.swap _ _ _)
  case round =>
    clear HO4 HO5 Hg4 Hg5
    obtain ⟨i, S, hi, rfl, hB, hgB, hO⟩ := hrel
    have hSl := hB.met.len
    have hszr := hgB.below.size
    rw [hsB] at hszr
    obtain ⟨pQ, cQ, rfl⟩ := own_form hO (k := 1) rfl
    have hQn := own_nil hO (k := 1) rfl
    have Hgw : Hid (Grew w wr) := Lib.hid (HwB.out.trans hgB)
    have q0 := hgB.cellEq Hc0.out
    have q2 := hgB.cellEq Hc2.out
    by_cases hlt : i < S.length
    · obtain ⟨gQ, cQ', eQ, kQ, lQ, _, _, nQ, mQ⟩ := hO.some (k := 1) rfl (by omega)
      cases eQ
      have hxS : ge S i ∈ S := by rw [ge_eq S hlt]; exact List.getElem_mem hlt
      have hxr := hB.met.2 _ hxS
      obtain ⟨x, hx⟩ := Int.eq_ofNat_of_zero_le hxr.1
      have hxl : x < A.length := by omega
      have hxi : (x : Int) < (A.length : Int) := by omega
      have e0 := mQ i (.int .i64 (x : Int)) (by rw [intVs_get S hlt, hx])
      obtain ⟨bA, oA, rp, rc, rfl, lA, cA'⟩ := HR.out.hA.rows (by omega)
      obtain ⟨a1, _⟩ := cA' wr Hgw.out x hxl
      obtain ⟨_, a2⟩ := cA' w (Grew.refl _) x hxl
      obtain ⟨rv, hrv⟩ : ∃ rv, rp x = rv := ⟨_, rfl⟩
      rw [hrv] at a1 a2
      have Ha2 := Lib.hid a2
      have hrl := HL.out x hxl
      have HB0 := Lib.hid hB
      have HgB := Lib.hid hgB
      have HO := Lib.hid hO
      have Hx := Lib.hid hx
      have hii : (i : Int) < (S.length : Int) := by omega
      clear cA' a2 hrv hB hgB hO hQn nQ mQ hxr hx hxS
      go_wp2
      go_region
      go_wp2
      clear q0 q2 e0 a1
      go_loopw [4, 34] (fun vQ iv wk => ∃ k2 : Nat, k2 ≤ (rowOf A x).length ∧ iv = .int .i64 k2 ∧ ∃ S : List Int, i < S.length ∧ ge S i = (x : Int) ∧ Bfs E A.length 0 S (S.drop i) ∧ (∀ t, t < k2 → tailE E (oth (ge (rowOf A x) t)) ∈ S) ∧ Grew wB wk ∧
        Owns wk (w.heap.size + 1) [⟨.slice (some ⟨w.heap.size + 1, 0, none⟩) A.length A.length, 4, 1, A.length, bls A.length S⟩, ⟨vQ, 3, 1, S.length, intVs S⟩]) (fun _ iv _ => (rowOf A x).length - (intOf iv).toNat)
      case atStart => exact ⟨0, Nat.zero_le _, rfl, S, hlt, Hx.out, HB0.out, fun t ht => by omega, HgB.out.trans (by (repeat (first | exact Grew.refl _ | refine Grew.over ?_ _ | refine Grew.alloc ?_ _ | refine Grew.drew ?_ | refine Grew.drewN ?_ _))), HO.out.grew (by (repeat (first | exact Grew.refl _ | refine Grew.over ?_ _ | refine Grew.alloc ?_ _ | refine Grew.drew ?_ | refine Grew.drewN ?_ _)))⟩
      case round =>
        clear HB0 HgB HO Hx hSl hi hlt hii hszr Hgw lQ
        obtain ⟨k2, hk2, rfl, S, hlt, hx, hB, hhd, hgB, hO⟩ := hrel
        have hSl := hB.met.len
        have hszr := hgB.below.size
        rw [hsB] at hszr
        have Hgw : Hid (Grew w wr) := Lib.hid (HwB.out.trans hgB)
        have q1 := hgB.cellEq Hc1.out
        obtain ⟨gQ, cQ', rfl, kQ, lQ, _, _, nQ, mQ⟩ := hO.some (k := 1) rfl (by omega)
        have e0 := mQ i (.int .i64 (x : Int)) (by rw [intVs_get S hlt, hx])
        have hxS : (x : Int) ∈ S := by rw [← hx, ge_eq S hlt]; exact List.getElem_mem hlt
        have HxS := Lib.hid hxS
        have HB0 := Lib.hid hB
        have HgB := Lib.hid hgB
        have HO := Lib.hid hO
        have Hhd := Lib.hid hhd
        have Hx := Lib.hid hx
        have hii : (i : Int) < (S.length : Int) := by omega
        clear hB hgB hhd hx hxS nQ mQ
        by_cases hlk : k2 < (rowOf A x).length
        · obtain ⟨bR, oR, rfl, lR, cR⟩ := Ha2.out.cells (by omega)
          have e1 := cR wr Hgw.out k2 hlk
          have hok := dart_of HV.out hxl hlk
          obtain ⟨m, hm0⟩ : ∃ m : Nat, ge (rowOf A x) k2 = (m : Int) := ⟨(ge (rowOf A x) k2).toNat, by have := hok.1; omega⟩
          have hm : m < 2 * E.length := by have := hok.2.1; omega
          rw [hm0] at e1 hok
          have hti := tail_in HV.out (d := oth (m : Int)) (oth_in (d := (m : Int)) (M := E.length) (by omega) (by omega)).1 (oth_in (d := (m : Int)) (M := E.length) (by omega) (by omega)).2
          have hnb := nbr_dart (E := E) (d := (m : Int)) (by omega) (by omega)
          rw [hok.2.2] at hnb
          obtain ⟨y, hy⟩ : ∃ y : Nat, tailE E (oth m) = (y : Int) := ⟨(tailE E (oth m)).toNat, by omega⟩
          have hyl : y < A.length := by omega
          have hyi : (y : Int) < (A.length : Int) := by omega
          rw [hy] at hnb
          have Hnb := Lib.hid hnb
          have Hhy : Hid (tailE E (oth (ge (rowOf A x) k2)) = (y : Int)) := Lib.hid (by rw [hm0, hy])
          have hsum : (pr E (m / 2)).1 + (pr E (m / 2)).2 - (x : Int) = (y : Int) := by rw [← hy, ← hok.2.2]; exact tail_sum E m
          have hm2 : m / 2 < E.length := by omega
          have hm2i : (m : Int) / 2 < (E.length : Int) := by omega
          have hoke := Hed.out (m / 2) hm2
          unfold okEdge at hoke
          obtain ⟨bE, oE, rfl, lE, cE'⟩ := HR.out.hE.cells (by omega)
          obtain ⟨c1, c2⟩ := cE' wr Hgw.out (m / 2) (by omega)
          obtain ⟨p1, hp1⟩ : ∃ p1, (pr E (m / 2)).1 = p1 := ⟨_, rfl⟩
          obtain ⟨p2, hp2⟩ : ∃ p2, (pr E (m / 2)).2 = p2 := ⟨_, rfl⟩
          rw [hp1] at c1 hsum hoke
          rw [hp2] at c2 hsum hoke
          obtain ⟨gM, cM, eM, _, kM, _, _, nM, mM⟩ := hO.some (k := 0) rfl (by omega)
          cases eM
          have x1 := mM y _ (bls_get _ hyl)
          have x2 := nM y
          clear cR hok hm0 hti hnb hy cE' nM mM hp1 hp2 hO
          by_cases hin : (y : Int) ∈ S
          · rw [decide_eq_true hin] at x1
            have Hin := Lib.hid hin
            clear hin
            go_wp2
            go_region
            go_wp2
            go_roundw
            case rel => exact ⟨k2 + 1, by omega, by go_num, S, hlt, Hx.out, HB0.out, fun t ht => (by
              by_cases e : t = k2
              · rw [e, Hhy.out]; exact Hin.out
              · exact Hhd.out t (by omega)), HgB.out.trans (by (repeat (first | exact Grew.refl _ | refine Grew.over ?_ _ | refine Grew.alloc ?_ _ | refine Grew.drew ?_ | refine Grew.drewN ?_ _))), HO.out.grew (by (repeat (first | exact Grew.refl _ | refine Grew.over ?_ _ | refine Grew.alloc ?_ _ | refine Grew.drew ?_ | refine Grew.drewN ?_ _)))⟩
            case measure => simp [intOf]; omega
          · have HB2 : Hid (Bfs E A.length 0 (S ++ [(y : Int)]) ((S ++ [(y : Int)]).drop i)) := Lib.hid (by
              rw [List.drop_append_of_le_length (by omega)]
              exact HB0.out.add HxS.out Hnb.out hin (by omega) (by omega))
            have hS2l := HB2.out.met.len
            simp only [List.length_append, List.length_cons, List.length_nil] at hS2l
            rw [decide_eq_false hin] at x1
            clear hin
            go_wp2
            go_region
            go_wp2_with (at_builtin; refine wp_append_owns rfl _ _ 26 rfl 3 1 8 (.int .i64 0) Tryd.underlying26 Tryd.infoInt rfl (by decide) (w.heap.size + 1) _ 1 _ S.length (intVs S) ((HO.out.grew (by (repeat (first | exact Grew.refl _ | refine Grew.over ?_ _ | refine Grew.alloc ?_ _ | refine Grew.drew ?_ | refine Grew.drewN ?_ _)))).set (k := 0) rfl y (.bool true) |>.grew (by (repeat (first | exact Grew.refl _ | refine Grew.over ?_ _ | refine Grew.alloc ?_ _ | refine Grew.drew ?_ | refine Grew.drewN ?_ _)))) rfl rfl _ 1 1 rfl [.int .i64 (y : Int)] rfl (by simp) (by intro b hb j u hj; cases hb; match j, hj with | 0, hj => (simp at hj; subst hj; (simp [go_sem, ↓IntWalk.iteOmega])) | j + 1, hj => (simp at hj)) (by simp [Value.oneCell']) (by simp only [maxLen]; omega) (by omega) (by first | rfl | omega | (simp <;> omega)) ?_; intro v1 w1 hO1 hg1 hb1 hb2; have HO1 := Lib.hid hO1; clear hO1 hb2)
            have Hg1 := Lib.hid (Grew.grownBy (w0 := wB) ((HgB.out.setCell (show wB.heap.size ≤ (⟨w.heap.size + 1, y, none⟩ : Addr).block by dsimp only; omega) (.bool true)).trans (by (repeat (first | exact Grew.refl _ | refine Grew.over ?_ _ | refine Grew.alloc ?_ _ | refine Grew.drew ?_ | refine Grew.drewN ?_ _)))) hg1 (fun k h => by have := hb1 k h; omega))
            clear hg1 hb1
            go_roundw
            case rel =>
              refine ⟨k2 + 1, by omega, by go_num, S ++ [(y : Int)], by simp; omega, ?_, HB2.out, fun t ht => ?_, Hg1.out.trans (by (repeat (first | exact Grew.refl _ | refine Grew.over ?_ _ | refine Grew.alloc ?_ _ | refine Grew.drew ?_ | refine Grew.drewN ?_ _))), ?_⟩
              · have := Hx.out
                rw [ge_eq S hlt] at this
                rw [ge_eq _ (by simp; omega), List.getElem_append_left hlt, this]
              · by_cases e : t = k2
                · rw [e, Hhy.out]; simp
                · exact List.mem_append_left _ (Hhd.out t (by omega))
              · have h := HO1.out
                rw [bls_set _ hyl] at h
                rw [intVs_app', List.length_append]
                exact h.grew (by (repeat (first | exact Grew.refl _ | refine Grew.over ?_ _ | refine Grew.alloc ?_ _ | refine Grew.drew ?_ | refine Grew.drewN ?_ _)))
            case measure => simp [intOf]; omega
        · have hke : k2 = (rowOf A x).length := by omega
          have HBc : Hid (Bfs E A.length 0 S (S.drop (i + 1))) := Lib.hid (by
            have h := HB0.out
            rw [List.drop_eq_getElem_cons hlt, ← ge_eq S hlt, Hx.out] at h
            exact h.cut (nbr_all HV.out (fun t ht => Hhd.out t (by omega))))
          go_wp2
          go_roundw
          case rel => exact ⟨i + 1, S, by omega, by go_num, HBc.out, HgB.out.trans (by (repeat (first | exact Grew.refl _ | refine Grew.over ?_ _ | refine Grew.alloc ?_ _ | refine Grew.drew ?_ | refine Grew.drewN ?_ _))), HO.out.grew (by (repeat (first | exact Grew.refl _ | refine Grew.over ?_ _ | refine Grew.alloc ?_ _ | refine Grew.drew ?_ | refine Grew.drewN ?_ _)))⟩
          case measure => simp [intOf]; omega
    · have hie : i = S.length := by omega
      have Hf : Hid (decide ((S.length : Int) = (A.length : Int)) = connB E A) := Lib.hid (by
        rw [hie, List.drop_length] at hB
        unfold connB
        rw [← bfs_one hApos hB, decide_eq_decide]
        omega)
      have HgB := Lib.hid hgB
      clear hB hgB hO hQn
      subst hie
      go_wp2
      go_ret
      exact ⟨by rw [← Hf.out]; rfl, Hgw.out.trans (by (repeat (first | exact Grew.refl _ | refine Grew.over ?_ _ | refine Grew.alloc ?_ _ | refine Grew.drew ?_ | refine Grew.drewN ?_ _)))⟩

end Go.Proofs.YtdacnkjmimhcaaaDoor
