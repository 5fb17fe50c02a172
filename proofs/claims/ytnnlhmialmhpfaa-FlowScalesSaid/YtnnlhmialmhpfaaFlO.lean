/- The residual network of the reference. -/
import Derived.Test.YtnnlhmialmhpfaaFlN
set_option linter.unusedSimpArgs false
set_option linter.unusedVariables false
namespace Go.Proofs.Ytnnlhmialmhpfaa
open Go.RowKit
attribute [local go_sem ↓] Go.wp_at_zero Go.wp_at_succ

theorem Try.infoStepR : (Try.prog.info? 50).map (fun i => (i.zero, i.size, i.bytes)) = some (some (.agg #[.int .i64 0, .bool false, .int .i64 0, .int .i64 0, .int .i64 0, .int .i64 0]), 6, 48) := by kernel_rfl
def st2 (A : List Ark) (f : List Int) (i : Nat) (b : Bool) : List Value := [.int .i64 (i : Int), .bool b, .int .i64 (sF A i b : Int), .int .i64 (sT A i b : Int), .int .i64 (sC A i b), .int .i64 (sR A f i b)]
def stRs (A : List Ark) (f : List Int) (L : List (Nat × Bool)) : List Value := L.flatMap fun x => st2 A f x.1 x.2
theorem stRs_app (A : List Ark) (f : List Int) (L M : List (Nat × Bool)) : stRs A f (L ++ M) = stRs A f L ++ stRs A f M := by simp [stRs]
theorem stRs_get (A : List Ark) (f : List Int) : ∀ {L : List (Nat × Bool)} {t i : Nat} {b : Bool}, L[t]? = some (i, b) → ∀ k, k < 6 → (stRs A f L)[t * 6 + k]? = (st2 A f i b)[k]?
  | [], t, i, b, h, _, _ => by simp at h
  | x :: L, 0, i, b, h, k, hk => by
    simp at h
    subst h
    show (st2 A f i b ++ stRs A f L)[0 * 6 + k]? = _
    rw [Nat.zero_mul, Nat.zero_add, List.getElem?_append_left (by simp [st2]; exact hk)]
  | x :: L, t + 1, i, b, h, k, hk => by
    simp at h
    show (st2 A f x.1 x.2 ++ stRs A f L)[(t + 1) * 6 + k]? = _
    rw [List.getElem?_append_right (by simp [st2]; omega)]
    have e : (t + 1) * 6 + k - (st2 A f x.1 x.2).length = t * 6 + k := by simp [st2]; omega
    rw [e]
    exact stRs_get A f h k hk
theorem cell_lt {w : World} {b i : Nat} {v : Value} (h : w.cell? ⟨b, i, none⟩ = some v) : b < w.heap.size := by
  rcases Nat.lt_or_ge b w.heap.size with h' | h'
  · exact h'
  · exfalso
    simp only [World.cell?] at h
    rw [Array.getElem?_eq_none h'] at h
    cases h
abbrev srRow (v : Value) (A : List Ark) (f : List Int) (L : List (Nat × Bool)) : Row := ⟨v, 50, 6, L.length, stRs A f L⟩
/-- The steps of the reference in memory. -/
def StpR (w : World) (p : Option Addr) (A : List Ark) (f : List Int) (L : List (Nat × Bool)) : Prop :=
  ∃ g, (0 < L.length → p = some ⟨g, 0, none⟩ ∧ g < w.heap.size) ∧ ∀ (t i : Nat) (b : Bool), L[t]? = some (i, b) → w.cell? ⟨g, t * 6, none⟩ = some (.int .i64 (i : Int)) ∧ w.cell? ⟨g, t * 6 + 1, none⟩ = some (.bool b) ∧
    w.cell? ⟨g, t * 6 + 2, none⟩ = some (.int .i64 (sF A i b : Int)) ∧ w.cell? ⟨g, t * 6 + 3, none⟩ = some (.int .i64 (sT A i b : Int)) ∧ w.cell? ⟨g, t * 6 + 4, none⟩ = some (.int .i64 (sC A i b)) ∧ w.cell? ⟨g, t * 6 + 5, none⟩ = some (.int .i64 (sR A f i b))
theorem StpR.grew {w w' : World} {p : Option Addr} {A : List Ark} {f : List Int} {L : List (Nat × Bool)} (h : StpR w p A f L) (hg : Grew w w') : StpR w' p A f L := by
  obtain ⟨g, h1, h2⟩ := h
  refine ⟨g, fun h0 => ⟨(h1 h0).1, Nat.lt_of_lt_of_le (h1 h0).2 hg.below.size⟩, fun t i b ht => ?_⟩
  obtain ⟨a, b, c, d, e, f⟩ := h2 t i b ht
  exact ⟨hg.cellEq a, hg.cellEq b, hg.cellEq c, hg.cellEq d, hg.cellEq e, hg.cellEq f⟩
theorem own_stpr {w : World} {B : Nat} {rs : List Row} {k : Nat} {v : Value} {A : List Ark} {f : List Int} {L : List (Nat × Bool)} (h : Owns w B rs) (hk : rs[k]? = some (srRow v A f L)) : ∃ p c, v = .slice p L.length c ∧ StpR w p A f L := by
  rcases (h.get hk).2 with ⟨g1, g2⟩ | ⟨g, cap, g1, g2, g3, g4, _, _, g6⟩
  · refine ⟨none, 0, by rw [g1, g2], 0, fun h0 => by omega, fun t i b ht => ?_⟩
    have := (List.getElem?_eq_some_iff.1 ht).1
    omega
  · refine ⟨_, cap, g1, g, fun _ => ⟨rfl, g3⟩, fun t i b ht => ?_⟩
    have key : ∀ j x, j < 6 → (st2 A f i b)[j]? = some x → w.cell? ⟨g, t * 6 + j, none⟩ = some x := fun j x hj hx => g6 (t * 6 + j) x (by rw [stRs_get A f ht j hj]; exact hx)
    exact ⟨key 0 _ (by omega) rfl, key 1 _ (by omega) rfl, key 2 _ (by omega) rfl, key 3 _ (by omega) rfl, key 4 _ (by omega) rfl, key 5 _ (by omega) rfl⟩

set_option maxHeartbeats 16000000 in
theorem residual_r (p q r : Option Addr) (n cp m cq k cr : Nat) (s : List Int) (A : List Ark) (f : List Int) (w : World) (hA : Arks w q A) (hF : Ints w r f) (hm : A.length = m) (hk : f.length = k) (hV : vN s A) (hfit : Fit A f) :
    Calls Try.prog 27 #[.agg #[.slice p n cp, .slice q m cq], .slice r k cr] w fun e w' => Grew w w' ∧ ∃ v, e = .returned v ∧ Owns w' w.heap.size [srRow v A f (resL A f m)] := by
  subst hm hk
  have HA := Lib.hid hA
  have HF := Lib.hid hF
  have HV := Lib.hid hV
  have Hfit := Lib.hid hfit
  have h2048 := hV.m
  have Hl := Lib.hid hfit.l
  have ham := hA.1
  have hfm := hF.1
  clear hA hF hV hfit
  go_enter Try.func27, Try.ntmps27
  go_wp2
  obtain ⟨w0, hw0⟩ : ∃ w0, w.alloc (.cells #[.slice p n cp, .slice q A.length cq] 25) = w0 := ⟨_, rfl⟩
  have x1 : w0.cell? ⟨w.heap.size, 1, none⟩ = some (.slice q A.length cq) := by rw [← hw0]; simp [go_sem]
  have Hg0 : Hid (Grew w w0) := Lib.hid (by rw [← hw0]; (repeat (first | exact Grew.refl _ | refine Grew.over ?_ _ | refine Grew.alloc ?_ _ | refine Grew.drew ?_ | refine Grew.drewN ?_ _)))
  have HO0 : Hid (Owns w0 (w.heap.size + 1) [srRow (.slice none 0 0) A f (resL A f 0)]) := Lib.hid (Owns.none (Owns.nil _ _) _ _)
  rw [hw0]
  have hbw0 : w.heap.size < w0.heap.size := by rw [← hw0]; simp
  clear hw0
  go_loopw [5, 6] (fun v5 v6 wr => ∃ (j : Nat) (pv : Option Addr) (cv : Nat), j ≤ A.length ∧ v6 = .int .i64 j ∧ v5 = .slice pv (resL A f j).length cv ∧ Owns wr (w.heap.size + 1) [srRow (.slice pv (resL A f j).length cv) A f (resL A f j)] ∧ Grew w wr ∧ wr.cell? ⟨w.heap.size, 1, none⟩ = some (.slice q A.length cq)) (fun _ v6 _ => A.length - (intOf v6).toNat)
  case atStart => exact ⟨0, none, 0, Nat.zero_le _, rfl, rfl, HO0.out, Hg0.out, x1⟩
  case round =>
    clear HO0 Hg0 x1 hbw0
    obtain ⟨j, pv, cv, hj, rfl, rfl, hO, hg, x1⟩ := hrel
    have HO := Lib.hid hO
    have Hg := Lib.hid hg
    clear hO hg
    have hbw := cell_lt x1
    by_cases hlt : j < A.length
    · obtain ⟨b2, o2, h2a, hb20, _⟩ := HA.out.open hlt
      subst h2a
      obtain ⟨b2', o2', h2b, hb2, c0, c1, c2, c3⟩ := (HA.out.grew Hg.out).open hlt
      simp only [Option.some.injEq, Addr.mk.injEq, and_true] at h2b
      obtain ⟨rfl, rfl⟩ := h2b
      have hjf : j < f.length := by have := Hl.out; omega
      obtain ⟨bf, of, hf3, hf4⟩ := HF.out.open
      obtain ⟨rfl, hbf0⟩ := hf3 (by omega)
      have df0 := Lib.hid (hf4 j hjf)
      have hfb := Hfit.out.b j hlt
      have hcb := (HV.out.a j hlt).2.2
      have hcap : (aK A j).cap = cap A j := rfl
      have hcos : (aK A j).cost = cst A j := rfl
      rw [HV.out.fr hlt] at c0
      rw [HV.out.ed hlt] at c1
      rw [hcap] at c2
      rw [hcos] at c3
      have Hlen := Lib.hid (resL_len A f j)
      have Hnx : Hid (resL A f (j + 1) = resL A f j ++ ((if ge f j < cap A j then [(j, false)] else []) ++ (if 0 < ge f j then [(j, true)] else []))) := Lib.hid rfl
      obtain ⟨L, hL⟩ : ∃ L, resL A f j = L := ⟨_, rfl⟩
      rw [hL] at HO Hlen Hnx
      obtain ⟨fj, hfj⟩ : ∃ x, ge f j = x := ⟨_, rfl⟩
      obtain ⟨cj, hcj⟩ : ∃ x, cap A j = x := ⟨_, rfl⟩
      obtain ⟨kj, hkj⟩ : ∃ x, cst A j = x := ⟨_, rfl⟩
      obtain ⟨u, hu⟩ : ∃ x, vF A j = x := ⟨_, rfl⟩
      obtain ⟨v, hv⟩ : ∃ x, vT A j = x := ⟨_, rfl⟩
      rw [hu] at c0
      rw [hv] at c1
      rw [hcj] at c2 hfb hcb
      rw [hkj] at c3 hcb
      rw [hfj] at df0 hfb
      have Hst0 : Hid (st2 A f j false = [.int .i64 (j : Int), .bool false, .int .i64 (u : Int), .int .i64 (v : Int), .int .i64 kj, .int .i64 (cj - fj)]) := Lib.hid (by simp [st2, sF, sT, sR, sC, hu, hv, hkj, hcj, hfj])
      have Hst1 : Hid (st2 A f j true = [.int .i64 (j : Int), .bool true, .int .i64 (v : Int), .int .i64 (u : Int), .int .i64 (-kj), .int .i64 fj]) := Lib.hid (by simp [st2, sF, sT, sR, sC, hu, hv, hkj, hcj, hfj])
      rw [hfj, hcj] at Hnx
      have HL := Lib.hid hL
      clear hL hfj hcj hkj hu hv hf3 hf4 hcap hcos
      have hwr : IntKind.i64.wrap (cj - fj) = cj - fj := IntWalk.i64_in _ ⟨by omega, by omega⟩
      have HO00 := Lib.hid (show Owns wr (w.heap.size + 1) [srRow (.slice pv L.length cv) A f L] from HO.out)
      rw [HL.out]
      go_upto_region 6 with fail
      obtain ⟨w3, hw3⟩ : ∃ w3, wr.alloc (.cells #[.int .i64 (u : Int), .int .i64 (v : Int), .int .i64 cj, .int .i64 kj] 36) = w3 := ⟨_, rfl⟩
      obtain ⟨aw, haw⟩ : ∃ aw, wr.heap.size = aw := ⟨_, rfl⟩
      have hg3 : Grew wr w3 := by rw [← hw3]; (repeat (first | exact Grew.refl _ | refine Grew.over ?_ _ | refine Grew.alloc ?_ _ | refine Grew.drew ?_ | refine Grew.drewN ?_ _))
      have HO3 : Hid (Owns w3 (w.heap.size + 1) [⟨.slice (some ⟨aw, 0, none⟩) 4 4, 36, 1, 4, [.int .i64 (u : Int), .int .i64 (v : Int), .int .i64 cj, .int .i64 kj]⟩, srRow (.slice pv L.length cv) A f L]) := Lib.hid (by rw [← hw3]; exact HO00.out.made (by omega) #[.int .i64 (u : Int), .int .i64 (v : Int), .int .i64 cj, .int .i64 kj] 36 1 4 aw rfl (by decide) haw.symm)
      have Hg3 := Lib.hid (Hg.out.trans hg3)
      have df := Hg3.out.cellEq df0.out
      have hbf3 := Nat.lt_of_lt_of_le hbf0 Hg3.out.below.size
      replace x1 := hg3.cellEq x1
      rw [hw3, haw]
      clear hw3 haw hg3 c0 c1 c2 c3 HO Hg hb2 HO00 hbw
      have hbz := own_blk HO3.out (j := 0) rfl
      have z0 := hbz.2.2.2.2 0 _ rfl
      have z1 := hbz.2.2.2.2 1 _ rfl
      have z2 := hbz.2.2.2.2 2 _ rfl
      have z3 := hbz.2.2.2.2 3 _ rfl
      have ha3 := hbz.2.2.1
      clear hbz
      refine wp_region_over (by kernel_rfl) (by kernel_rfl) ?_; (repeat (go_big_quiet_step (fail))); refine wpQuiet_nil ?_; intro w4 hW; replace hW : Grew _ w4 := hW
      have HO4 := Lib.hid (HO3.out.grew hW)
      have Hg4 := Lib.hid (Hg3.out.trans hW)
      replace z0 := hW.cellEq z0
      replace z1 := hW.cellEq z1
      replace z2 := hW.cellEq z2
      replace z3 := hW.cellEq z3
      replace df := hW.cellEq df
      replace x1 := hW.cellEq x1
      have ha4 := Nat.lt_of_lt_of_le ha3 hW.below.size
      have hbf4 := Nat.lt_of_lt_of_le hbf3 hW.below.size
      have hbw4 := cell_lt x1
      clear hW HO3 Hg3 ha3 hbf3
      go_upto_if 26 with fail
      go_cut [5] (fun v5 wx => ∃ (pv' : Option Addr) (cv' : Nat), v5 = .slice pv' (L ++ (if fj < cj then [(j, false)] else [])).length cv' ∧ Owns wx (w.heap.size + 1) [⟨.slice (some ⟨aw, 0, none⟩) 4 4, 36, 1, 4, [.int .i64 (u : Int), .int .i64 (v : Int), .int .i64 cj, .int .i64 kj]⟩, srRow (.slice pv' (L ++ (if fj < cj then [(j, false)] else [])).length cv') A f (L ++ (if fj < cj then [(j, false)] else []))] ∧ Grew w wx ∧ wx.cell? ⟨w.heap.size, 1, none⟩ = some (.slice (some ⟨b2, o2, none⟩) A.length cq))
      case first =>
        by_cases hfc : fj < cj
        · have hfc0 := hfc
          have hLl := Hlen.out
          have hsw := Hg4.out.below.size
          go_upto_region 7 with fail
          refine wp_region_T (s := 18) (S := fun w' => w'.cell? ⟨aw, 0, none⟩ = some (.int .i64 (u : Int)) ∧ w'.cell? ⟨aw, 1, none⟩ = some (.int .i64 (v : Int)) ∧ w'.cell? ⟨aw, 2, none⟩ = some (.int .i64 cj) ∧ w'.cell? ⟨aw, 3, none⟩ = some (.int .i64 kj) ∧ w'.cell? ⟨bf, of + j, none⟩ = some (.int .i64 fj)) (by kernel_rfl) ⟨z0, z1, z2, z3, df⟩ (fun hH => ?_)
          refine wpAnyT_takeL (i := 0) (v := ?_) rfl (by kernel_rfl) (by kernel_rfl) (by kernel_rfl) (by kernel_rfl) (fun _ _ _ h => h) (Or.inl ⟨by rfl, ?_⟩) (by assumption) ?_
          rotate_left
          · (intro w hSw; (try dsimp only at hSw); go_simp; (try with_reducible rfl))
          (try simp only [Act.put, List.setIfInBounds_toArray, List.set_cons_zero, List.set_cons_succ])
          refine wpAnyT_takeL (i := 1) (v := ?_) rfl (by kernel_rfl) (by kernel_rfl) (by kernel_rfl) (by kernel_rfl) (fun _ _ _ h => h) (Or.inl ⟨by rfl, ?_⟩) (by assumption) ?_
          rotate_left
          · (intro w hSw; (try dsimp only at hSw); go_simp; (try with_reducible rfl))
          (try simp only [Act.put, List.setIfInBounds_toArray, List.set_cons_zero, List.set_cons_succ])
          refine wpAnyT_takeL (i := 2) (v := ?_) rfl (by kernel_rfl) (by kernel_rfl) (by kernel_rfl) (by kernel_rfl) (fun _ _ _ h => h) (Or.inl ⟨by rfl, ?_⟩) (by assumption) ?_
          rotate_left
          · (intro w hSw; (try dsimp only at hSw); go_simp; (try with_reducible rfl))
          (try simp only [Act.put, List.setIfInBounds_toArray, List.set_cons_zero, List.set_cons_succ])
          refine wpAnyT_takeL (i := 3) (v := ?_) rfl (by kernel_rfl) (by kernel_rfl) (by kernel_rfl) (by kernel_rfl) (fun _ _ _ h => h) (Or.inl ⟨by rfl, ?_⟩) (by assumption) ?_
          rotate_left
          · (intro w hSw; (try dsimp only at hSw); go_simp; (try with_reducible rfl))
          (try simp only [Act.put, List.setIfInBounds_toArray, List.set_cons_zero, List.set_cons_succ])
          refine wpAnyT_takeL (i := 4) (v := ?_) rfl (by kernel_rfl) (by kernel_rfl) (by kernel_rfl) (by kernel_rfl) (fun _ _ _ h => h) (Or.inl ⟨by rfl, ?_⟩) (by assumption) ?_
          rotate_left
          · (intro w hSw; (try dsimp only at hSw); go_simp; (try with_reducible rfl))
          (try simp only [Act.put, List.setIfInBounds_toArray, List.set_cons_zero, List.set_cons_succ])
          refine wpAnyT_takeL (i := 5) (v := ?_) rfl (by kernel_rfl) (by kernel_rfl) (by kernel_rfl) (by kernel_rfl) (fun _ _ _ h => h) (Or.inl ⟨by rfl, ?_⟩) (by assumption) ?_
          rotate_left
          · (intro w hSw; (try dsimp only at hSw); go_simp; (try with_reducible rfl))
          (try simp only [Act.put, List.setIfInBounds_toArray, List.set_cons_zero, List.set_cons_succ])
          refine wpAnyT_takeL (i := 6) (v := ?_) rfl (by kernel_rfl) (by kernel_rfl) (by kernel_rfl) (by kernel_rfl) (fun _ _ _ h => h) (Or.inl ⟨by rfl, ?_⟩) (by assumption) ?_
          rotate_left
          · (intro w hSw; (try dsimp only at hSw); go_simp; (try with_reducible rfl))
          (try simp only [Act.put, List.setIfInBounds_toArray, List.set_cons_zero, List.set_cons_succ])
          refine wpAnyT_takeL (i := 7) (v := ?_) rfl (by kernel_rfl) (by kernel_rfl) (by kernel_rfl) (by kernel_rfl) (fun _ _ _ h => h) (Or.inl ⟨by rfl, ?_⟩) (by assumption) ?_
          rotate_left
          · (intro w hSw; (try dsimp only at hSw); go_simp; (try with_reducible rfl))
          (try simp only [Act.put, List.setIfInBounds_toArray, List.set_cons_zero, List.set_cons_succ])
          refine wpAnyT_takeL (i := 8) (v := ?_) rfl (by kernel_rfl) (by kernel_rfl) (by kernel_rfl) (by kernel_rfl) (fun _ _ _ h => h) (Or.inl ⟨by rfl, ?_⟩) (by assumption) ?_
          rotate_left
          · (intro w hSw; (try dsimp only at hSw); go_simp; (try with_reducible rfl))
          (try simp only [Act.put, List.setIfInBounds_toArray, List.set_cons_zero, List.set_cons_succ])
          refine wpAnyT_takeL (i := 9) (v := ?_) rfl (by kernel_rfl) (by kernel_rfl) (by kernel_rfl) (by kernel_rfl) (fun _ _ _ h => h) (Or.inl ⟨by rfl, ?_⟩) (by assumption) ?_
          rotate_left
          · (intro w hSw; (try dsimp only at hSw); go_simp; (try with_reducible rfl))
          (try simp only [Act.put, List.setIfInBounds_toArray, List.set_cons_zero, List.set_cons_succ])
          refine wpAnyT_takeL (i := 10) (v := ?_) rfl (by kernel_rfl) (by kernel_rfl) (by kernel_rfl) (by kernel_rfl) (fun _ _ _ h => h) (Or.inl ⟨by rfl, ?_⟩) (by assumption) ?_
          rotate_left
          · (intro w hSw; (try dsimp only at hSw); go_simp; (try with_reducible rfl))
          (try simp only [Act.put, List.setIfInBounds_toArray, List.set_cons_zero, List.set_cons_succ])
          refine wpAnyT_takeL (i := 11) (v := ?_) rfl (by kernel_rfl) (by kernel_rfl) (by kernel_rfl) (by kernel_rfl) (fun _ _ _ h => h) (Or.inl ⟨by rfl, ?_⟩) (by assumption) ?_
          rotate_left
          · (intro w hSw; (try dsimp only at hSw); go_simp; (try with_reducible rfl))
          (try simp only [Act.put, List.setIfInBounds_toArray, List.set_cons_zero, List.set_cons_succ])
          refine wpAnyT_takeL (i := 12) (v := ?_) rfl (by kernel_rfl) (by kernel_rfl) (by kernel_rfl) (by kernel_rfl) (fun _ _ _ h => h) (Or.inl ⟨by rfl, ?_⟩) (by assumption) ?_
          rotate_left
          · (intro w hSw; (try dsimp only at hSw); go_simp; (try with_reducible rfl))
          (try simp only [Act.put, List.setIfInBounds_toArray, List.set_cons_zero, List.set_cons_succ])
          refine wpAnyT_takeL (i := 13) (v := ?_) rfl (by kernel_rfl) (by kernel_rfl) (by kernel_rfl) (by kernel_rfl) (fun _ _ _ h => h) (Or.inl ⟨by rfl, ?_⟩) (by assumption) ?_
          rotate_left
          · (intro w hSw; (try dsimp only at hSw); go_simp; (try with_reducible rfl))
          (try simp only [Act.put, List.setIfInBounds_toArray, List.set_cons_zero, List.set_cons_succ])
          refine wpAnyT_takeL (i := 14) (v := ?_) rfl (by kernel_rfl) (by kernel_rfl) (by kernel_rfl) (by kernel_rfl) (fun _ _ _ h => h) (Or.inl ⟨by rfl, ?_⟩) (by assumption) ?_
          rotate_left
          · (intro w hSw; (try dsimp only at hSw); go_simp; (try with_reducible rfl))
          (try simp only [Act.put, List.setIfInBounds_toArray, List.set_cons_zero, List.set_cons_succ])
          refine wpAnyT_takeL (i := 15) (v := ?_) rfl (by kernel_rfl) (by kernel_rfl) (by kernel_rfl) (by kernel_rfl) (fun _ _ _ h => h) (Or.inl ⟨by rfl, ?_⟩) (by assumption) ?_
          rotate_left
          · (intro w hSw; (try dsimp only at hSw); go_simp; (try with_reducible rfl))
          (try simp only [Act.put, List.setIfInBounds_toArray, List.set_cons_zero, List.set_cons_succ])
          refine wpAnyT_all (rs := [16]) (by kernel_rfl) (by simp) (AllT.consL (i := 16) rfl (fun K hK => ?_) AllT.nil)
          go_simp
          refine hK.out _ _ ?_ (fun hH => ?_)
          · (first | (simp [go_sem, ↓IntWalk.iteOmega, *]; done) | go_keep)
          clear hK K
          (try simp only [Act.put, List.setIfInBounds_toArray, List.set_cons_zero, List.set_cons_succ])
          refine wpAnyT_all (rs := [17]) (by kernel_rfl) (by simp) (AllT.consL (i := 17) rfl (fun K hK => ?_) AllT.nil)
          refine step_append_owns rfl _ _ 47 (by rfl) 50 6 48 (.agg #[.int .i64 0, .bool false, .int .i64 0, .int .i64 0, .int .i64 0, .int .i64 0]) Try.underlying47 Try.infoStepR rfl (by decide) (w.heap.size + 1) _ 1 _ _ _ (HO4.out.grew (by (repeat (first | exact Grew.refl _ | refine Grew.over ?_ _ | refine Grew.alloc ?_ _ | refine Grew.drew ?_ | refine Grew.drewN ?_ _)))) rfl (by rfl) _ 1 1 (by rfl) [.int .i64 (j : Int), .bool false, .int .i64 (u : Int), .int .i64 (v : Int), .int .i64 kj, .int .i64 (cj - fj)] rfl (fun h => by cases h) (six_news (by (simp [go_sem, ↓IntWalk.iteOmega])) (by (simp [go_sem, ↓IntWalk.iteOmega])) (by (simp [go_sem, ↓IntWalk.iteOmega])) (by (simp [go_sem, ↓IntWalk.iteOmega])) (by (simp [go_sem, ↓IntWalk.iteOmega])) (by (simp [go_sem, ↓IntWalk.iteOmega]))) (by simp [Value.oneCell']) (by simp only [maxLen]; omega) (by omega) (by first | rfl | omega | (simp <;> omega)) ?_
          intro v1 w6 hO1 hg1 hb1 _
          obtain ⟨p1, c1, rfl⟩ := own_form hO1 (k := 1) rfl
          have hba := own_blk hO1 (j := 0) rfl
          have q0 := hba.2.2.2.2 0 _ rfl
          have q1 := hba.2.2.2.2 1 _ rfl
          have q2 := hba.2.2.2.2 2 _ rfl
          have q3 := hba.2.2.2.2 3 _ rfl
          have hold : ∀ (b i : Nat) x, b < w.heap.size + 1 → w4.cell? ⟨b, i, none⟩ = some x → w6.cell? ⟨b, i, none⟩ = some x := fun b i x hb h => by
            rw [grownBy_cell hg1 i (by simp; omega) (fun g hg e => by have := hb1 g hg; omega)]
            exact Grew.cellEq (by (repeat (first | exact Grew.refl _ | refine Grew.over ?_ _ | refine Grew.alloc ?_ _ | refine Grew.drew ?_ | refine Grew.drewN ?_ _))) h
          have q4 := hold _ _ _ (by omega) df
          have q5 := hold _ _ _ (by omega) x1
          refine hK.out _ _ ⟨q0, q1, q2, q3, q4⟩ (fun hH => ?_)
          clear hK K
          (try simp only [Act.put, List.setIfInBounds_toArray, List.set_cons_zero, List.set_cons_succ])
          have Hg6 := Lib.hid (Grew.grownBy (w0 := w) (Hg4.out.trans (by (repeat (first | exact Grew.refl _ | refine Grew.over ?_ _ | refine Grew.alloc ?_ _ | refine Grew.drew ?_ | refine Grew.drewN ?_ _)))) hg1 (fun k hk => by have := hb1 k hk; omega))
          have HO6 := Lib.hid hO1
          have Hq5 := Lib.hid q5
          clear hO1 hg1 hb1 hba hold
          refine wpAnyT_all (rs := [18]) (by kernel_rfl) (by simp) (AllT.lastL rfl (fun K hK => ?_))
          go_simp
          refine hK.out _ _ ?_
          clear hK K
          (try simp only [Act.put, List.setIfInBounds_toArray, List.set_cons_zero, List.set_cons_succ])
          refine wpAnyT_done (by kernel_rfl) ?_ _
          have hlA : (L ++ [(j, false)]).length = L.length + 1 := by rw [List.length_append, List.length_singleton]
          have hsA : stRs A f (L ++ [(j, false)]) = stRs A f L ++ [.int .i64 (j : Int), .bool false, .int .i64 (u : Int), .int .i64 (v : Int), .int .i64 kj, .int .i64 (cj - fj)] := by rw [stRs_app]; show _ ++ (st2 A f j false ++ []) = _; rw [List.append_nil, Hst0.out]
          have HlA := Lib.hid hlA
          have HsA := Lib.hid hsA
          clear hlA hsA
          go_wp2_with fail
          go_meet
          have e : L ++ (if fj < cj then [(j, false)] else []) = L ++ [(j, false)] := by rw [if_pos hfc]
          rw [e, HlA.out]
          refine ⟨p1, c1, rfl, ?_, Hg6.out, Hq5.out⟩
          have h := HO6.out
          unfold srRow
          rw [HsA.out, HlA.out]
          exact h
        · go_wp2_with fail
          go_meet
          have e : L ++ (if fj < cj then [(j, false)] else []) = L := by rw [if_neg (by omega), List.append_nil]
          rw [e]
          exact ⟨pv, cv, rfl, HO4.out, Hg4.out, x1⟩
      case rest =>
        clear z0 z1 z2 z3 df ha4 hbf4 HO4 Hg4 x1 hbw4
        obtain ⟨pv2, cv2, rfl, hO5, hg5, x1⟩ := hcut
        obtain ⟨L2, hL2⟩ : ∃ L2, L ++ (if fj < cj then [(j, false)] else []) = L2 := ⟨_, rfl⟩
        rw [hL2] at hO5 ⊢
        have HL2 : Hid (resL A f (j + 1) = L2 ++ (if 0 < fj then [(j, true)] else [])) := Lib.hid (by rw [Hnx.out, ← hL2, List.append_assoc])
        replace Hlen : Hid (L2.length ≤ 2 * j + 1) := Lib.hid (by
          have := Hlen.out
          rw [← hL2, List.length_append]
          split <;> simp <;> omega)
        have HO5 := Lib.hid hO5
        have Hg5 := Lib.hid hg5
        clear hL2 hO5 hg5
        have df := Hg5.out.cellEq df0.out
        have hbf5 := Nat.lt_of_lt_of_le hbf0 Hg5.out.below.size
        have hba5 := own_blk HO5.out (j := 0) rfl
        have ha5 := hba5.2.2.1
        have z0 := hba5.2.2.2.2 0 _ rfl
        have z1 := hba5.2.2.2.2 1 _ rfl
        have z3 := hba5.2.2.2.2 3 _ rfl
        have hbw5 := cell_lt x1
        clear hba5
        by_cases hf0 : 0 < fj
        · have hf00 := hf0
          have hLl := Hlen.out
          have hsw := Hg5.out.below.size
          have hwn : IntKind.i64.wrap (-kj) = -kj := IntWalk.i64_in _ ⟨by omega, by omega⟩
          go_upto_region 9 with fail
          refine wp_region_T (s := 16) (S := fun w' => w'.cell? ⟨aw, 0, none⟩ = some (.int .i64 (u : Int)) ∧ w'.cell? ⟨aw, 1, none⟩ = some (.int .i64 (v : Int)) ∧ w'.cell? ⟨aw, 3, none⟩ = some (.int .i64 kj) ∧ w'.cell? ⟨bf, of + j, none⟩ = some (.int .i64 fj)) (by kernel_rfl) ⟨z0, z1, z3, df⟩ (fun hH => ?_)
          refine wpAnyT_takeL (i := 0) (v := ?_) rfl (by kernel_rfl) (by kernel_rfl) (by kernel_rfl) (by kernel_rfl) (fun _ _ _ h => h) (Or.inl ⟨by rfl, ?_⟩) (by assumption) ?_
          rotate_left
          · (intro w hSw; (try dsimp only at hSw); go_simp; (try with_reducible rfl))
          (try simp only [Act.put, List.setIfInBounds_toArray, List.set_cons_zero, List.set_cons_succ])
          refine wpAnyT_takeL (i := 1) (v := ?_) rfl (by kernel_rfl) (by kernel_rfl) (by kernel_rfl) (by kernel_rfl) (fun _ _ _ h => h) (Or.inl ⟨by rfl, ?_⟩) (by assumption) ?_
          rotate_left
          · (intro w hSw; (try dsimp only at hSw); go_simp; (try with_reducible rfl))
          (try simp only [Act.put, List.setIfInBounds_toArray, List.set_cons_zero, List.set_cons_succ])
          refine wpAnyT_takeL (i := 2) (v := ?_) rfl (by kernel_rfl) (by kernel_rfl) (by kernel_rfl) (by kernel_rfl) (fun _ _ _ h => h) (Or.inl ⟨by rfl, ?_⟩) (by assumption) ?_
          rotate_left
          · (intro w hSw; (try dsimp only at hSw); go_simp; (try with_reducible rfl))
          (try simp only [Act.put, List.setIfInBounds_toArray, List.set_cons_zero, List.set_cons_succ])
          refine wpAnyT_takeL (i := 3) (v := ?_) rfl (by kernel_rfl) (by kernel_rfl) (by kernel_rfl) (by kernel_rfl) (fun _ _ _ h => h) (Or.inl ⟨by rfl, ?_⟩) (by assumption) ?_
          rotate_left
          · (intro w hSw; (try dsimp only at hSw); go_simp; (try with_reducible rfl))
          (try simp only [Act.put, List.setIfInBounds_toArray, List.set_cons_zero, List.set_cons_succ])
          refine wpAnyT_takeL (i := 4) (v := ?_) rfl (by kernel_rfl) (by kernel_rfl) (by kernel_rfl) (by kernel_rfl) (fun _ _ _ h => h) (Or.inl ⟨by rfl, ?_⟩) (by assumption) ?_
          rotate_left
          · (intro w hSw; (try dsimp only at hSw); go_simp; (try with_reducible rfl))
          (try simp only [Act.put, List.setIfInBounds_toArray, List.set_cons_zero, List.set_cons_succ])
          refine wpAnyT_takeL (i := 5) (v := ?_) rfl (by kernel_rfl) (by kernel_rfl) (by kernel_rfl) (by kernel_rfl) (fun _ _ _ h => h) (Or.inl ⟨by rfl, ?_⟩) (by assumption) ?_
          rotate_left
          · (intro w hSw; (try dsimp only at hSw); go_simp; (try with_reducible rfl))
          (try simp only [Act.put, List.setIfInBounds_toArray, List.set_cons_zero, List.set_cons_succ])
          refine wpAnyT_takeL (i := 6) (v := ?_) rfl (by kernel_rfl) (by kernel_rfl) (by kernel_rfl) (by kernel_rfl) (fun _ _ _ h => h) (Or.inl ⟨by rfl, ?_⟩) (by assumption) ?_
          rotate_left
          · (intro w hSw; (try dsimp only at hSw); go_simp; (try with_reducible rfl))
          (try simp only [Act.put, List.setIfInBounds_toArray, List.set_cons_zero, List.set_cons_succ])
          refine wpAnyT_takeL (i := 7) (v := ?_) rfl (by kernel_rfl) (by kernel_rfl) (by kernel_rfl) (by kernel_rfl) (fun _ _ _ h => h) (Or.inl ⟨by rfl, ?_⟩) (by assumption) ?_
          rotate_left
          · (intro w hSw; (try dsimp only at hSw); go_simp; (try with_reducible rfl))
          (try simp only [Act.put, List.setIfInBounds_toArray, List.set_cons_zero, List.set_cons_succ])
          refine wpAnyT_takeL (i := 8) (v := ?_) rfl (by kernel_rfl) (by kernel_rfl) (by kernel_rfl) (by kernel_rfl) (fun _ _ _ h => h) (Or.inl ⟨by rfl, ?_⟩) (by assumption) ?_
          rotate_left
          · (intro w hSw; (try dsimp only at hSw); go_simp; (try with_reducible rfl))
          (try simp only [Act.put, List.setIfInBounds_toArray, List.set_cons_zero, List.set_cons_succ])
          refine wpAnyT_takeL (i := 9) (v := ?_) rfl (by kernel_rfl) (by kernel_rfl) (by kernel_rfl) (by kernel_rfl) (fun _ _ _ h => h) (Or.inl ⟨by rfl, ?_⟩) (by assumption) ?_
          rotate_left
          · (intro w hSw; (try dsimp only at hSw); go_simp; (try with_reducible rfl))
          (try simp only [Act.put, List.setIfInBounds_toArray, List.set_cons_zero, List.set_cons_succ])
          refine wpAnyT_takeL (i := 10) (v := ?_) rfl (by kernel_rfl) (by kernel_rfl) (by kernel_rfl) (by kernel_rfl) (fun _ _ _ h => h) (Or.inl ⟨by rfl, ?_⟩) (by assumption) ?_
          rotate_left
          · (intro w hSw; (try dsimp only at hSw); go_simp; (try with_reducible rfl))
          (try simp only [Act.put, List.setIfInBounds_toArray, List.set_cons_zero, List.set_cons_succ])
          refine wpAnyT_takeL (i := 11) (v := ?_) rfl (by kernel_rfl) (by kernel_rfl) (by kernel_rfl) (by kernel_rfl) (fun _ _ _ h => h) (Or.inl ⟨by rfl, ?_⟩) (by assumption) ?_
          rotate_left
          · (intro w hSw; (try dsimp only at hSw); go_simp; (try with_reducible rfl))
          (try simp only [Act.put, List.setIfInBounds_toArray, List.set_cons_zero, List.set_cons_succ])
          refine wpAnyT_takeL (i := 12) (v := ?_) rfl (by kernel_rfl) (by kernel_rfl) (by kernel_rfl) (by kernel_rfl) (fun _ _ _ h => h) (Or.inl ⟨by rfl, ?_⟩) (by assumption) ?_
          rotate_left
          · (intro w hSw; (try dsimp only at hSw); go_simp; (try with_reducible rfl))
          (try simp only [Act.put, List.setIfInBounds_toArray, List.set_cons_zero, List.set_cons_succ])
          refine wpAnyT_takeL (i := 13) (v := ?_) rfl (by kernel_rfl) (by kernel_rfl) (by kernel_rfl) (by kernel_rfl) (fun _ _ _ h => h) (Or.inl ⟨by rfl, ?_⟩) (by assumption) ?_
          rotate_left
          · (intro w hSw; (try dsimp only at hSw); go_simp; (try with_reducible rfl))
          (try simp only [Act.put, List.setIfInBounds_toArray, List.set_cons_zero, List.set_cons_succ])
          refine wpAnyT_all (rs := [14]) (by kernel_rfl) (by simp) (AllT.consL (i := 14) rfl (fun K hK => ?_) AllT.nil)
          go_simp
          refine hK.out _ _ ?_ (fun hH => ?_)
          · (first | (simp [go_sem, ↓IntWalk.iteOmega, *]; done) | go_keep)
          clear hK K
          (try simp only [Act.put, List.setIfInBounds_toArray, List.set_cons_zero, List.set_cons_succ])
          refine wpAnyT_all (rs := [15]) (by kernel_rfl) (by simp) (AllT.consL (i := 15) rfl (fun K hK => ?_) AllT.nil)
          refine step_append_owns rfl _ _ 47 (by rfl) 50 6 48 (.agg #[.int .i64 0, .bool false, .int .i64 0, .int .i64 0, .int .i64 0, .int .i64 0]) Try.underlying47 Try.infoStepR rfl (by decide) (w.heap.size + 1) _ 1 _ _ _ (HO5.out.grew (by (repeat (first | exact Grew.refl _ | refine Grew.over ?_ _ | refine Grew.alloc ?_ _ | refine Grew.drew ?_ | refine Grew.drewN ?_ _)))) rfl (by rfl) _ 1 1 (by rfl) [.int .i64 (j : Int), .bool true, .int .i64 (v : Int), .int .i64 (u : Int), .int .i64 (-kj), .int .i64 fj] rfl (fun h => by cases h) (six_news (by (simp [go_sem, ↓IntWalk.iteOmega])) (by (simp [go_sem, ↓IntWalk.iteOmega])) (by (simp [go_sem, ↓IntWalk.iteOmega])) (by (simp [go_sem, ↓IntWalk.iteOmega])) (by (simp [go_sem, ↓IntWalk.iteOmega])) (by (simp [go_sem, ↓IntWalk.iteOmega]))) (by simp [Value.oneCell']) (by simp only [maxLen]; omega) (by omega) (by first | rfl | omega | (simp <;> omega)) ?_
          intro v1 w6 hO1 hg1 hb1 _
          obtain ⟨p1, c1, rfl⟩ := own_form hO1 (k := 1) rfl
          have hba := own_blk hO1 (j := 0) rfl
          have q0 := hba.2.2.2.2 0 _ rfl
          have q1 := hba.2.2.2.2 1 _ rfl
          have q3 := hba.2.2.2.2 3 _ rfl
          have hold : ∀ (b i : Nat) x, b < w.heap.size + 1 → wc.cell? ⟨b, i, none⟩ = some x → w6.cell? ⟨b, i, none⟩ = some x := fun b i x hb h => by
            rw [grownBy_cell hg1 i (by simp; omega) (fun g hg e => by have := hb1 g hg; omega)]
            exact Grew.cellEq (by (repeat (first | exact Grew.refl _ | refine Grew.over ?_ _ | refine Grew.alloc ?_ _ | refine Grew.drew ?_ | refine Grew.drewN ?_ _))) h
          have q4 := hold _ _ _ (by omega) df
          have q5 := hold _ _ _ (by omega) x1
          refine hK.out _ _ ⟨q0, q1, q3, q4⟩ (fun hH => ?_)
          clear hK K
          (try simp only [Act.put, List.setIfInBounds_toArray, List.set_cons_zero, List.set_cons_succ])
          have Hg6 := Lib.hid (Grew.grownBy (w0 := w) (Hg5.out.trans (by (repeat (first | exact Grew.refl _ | refine Grew.over ?_ _ | refine Grew.alloc ?_ _ | refine Grew.drew ?_ | refine Grew.drewN ?_ _)))) hg1 (fun k hk => by have := hb1 k hk; omega))
          have HO6 := Lib.hid hO1
          have Hq5 := Lib.hid q5
          clear hO1 hg1 hb1 hba hold
          refine wpAnyT_all (rs := [16]) (by kernel_rfl) (by simp) (AllT.lastL rfl (fun K hK => ?_))
          go_simp
          refine hK.out _ _ ?_
          clear hK K
          (try simp only [Act.put, List.setIfInBounds_toArray, List.set_cons_zero, List.set_cons_succ])
          refine wpAnyT_done (by kernel_rfl) ?_ _
          have hlA : (L2 ++ [(j, true)]).length = L2.length + 1 := by rw [List.length_append, List.length_singleton]
          have hsA : stRs A f (L2 ++ [(j, true)]) = stRs A f L2 ++ [.int .i64 (j : Int), .bool true, .int .i64 (v : Int), .int .i64 (u : Int), .int .i64 (-kj), .int .i64 fj] := by rw [stRs_app]; show _ ++ (st2 A f j true ++ []) = _; rw [List.append_nil, Hst1.out]
          have HlA := Lib.hid hlA
          have HsA := Lib.hid hsA
          clear hlA hsA
          go_wp2
          go_roundw
          case rel =>
            have e : resL A f (j + 1) = L2 ++ [(j, true)] := by rw [HL2.out, if_pos hf0]
            refine ⟨j + 1, p1, c1, by omega, by go_num, ?_, ?_, Hg6.out, Hq5.out⟩
            · rw [e, HlA.out]
            · have h := HO6.out.tail
              rw [e]
              unfold srRow
              rw [HsA.out, HlA.out]
              exact h
          case measure => simp [intOf]; omega
        · have e : resL A f (j + 1) = L2 := by rw [HL2.out, if_neg hf0, List.append_nil]
          have He := Lib.hid e
          clear e
          go_wp2
          go_roundw
          case rel =>
            refine ⟨j + 1, pv2, cv2, by omega, by go_num, by rw [He.out], ?_, Hg5.out, x1⟩
            rw [He.out]
            exact HO5.out.tail
          case measure => simp [intOf]; omega
    · have hje : j = A.length := by omega
      subst hje
      go_wp2
      go_ret
      exact ⟨Hg.out, _, rfl, HO.out.base (Nat.le_succ _)⟩
end Go.Proofs.Ytnnlhmialmhpfaa
