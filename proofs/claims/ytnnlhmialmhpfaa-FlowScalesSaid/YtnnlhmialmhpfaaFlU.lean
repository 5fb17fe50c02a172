/- Solve of the program. -/
import Derived.Test.YtnnlhmialmhpfaaFlT
set_option linter.unusedSimpArgs false
set_option linter.unusedVariables false
namespace Go.Proofs.Ytnnlhmialmhpfaa
open Go.RowKit
attribute [local go_sem ↓] Go.wp_at_zero Go.wp_at_succ

abbrev lR (v : Value) (n : Nat) (xs : List Int) : Row := ⟨v, 3, 1, n, intVs xs⟩
theorem ints_mem {xs : List Int} {n : Nat} {lo hi : Int} (hl : xs.length = n) (h : ∀ v, v < n → lo ≤ ge xs v ∧ ge xs v ≤ hi) (h1 : -9223372036854775808 ≤ lo) (h2 : hi ≤ 9223372036854775807) : ∀ x ∈ xs, -9223372036854775808 ≤ x ∧ x ≤ 9223372036854775807 := by
  intro x hx
  obtain ⟨i, hi', rfl⟩ := List.mem_iff_getElem.1 hx
  have := h i (by omega)
  rw [ge_eq xs hi'] at this
  omega
theorem own_intsG {w : World} {B : Nat} {rs : List Row} {k n c : Nat} {pl : Option Addr} {xs : List Int} (h : Owns w B rs) (hk : rs[k]? = some (lR (.slice pl n c) n xs)) (hl : xs.length = n)
    (hm : n ≤ 100000) (hw : ∀ x ∈ xs, -9223372036854775808 ≤ x ∧ x ≤ 9223372036854775807) : Ints w pl xs := by
  rcases (h.get hk).2 with ⟨g1, g2⟩ | ⟨g, cap, g1, g2, g3, g4, g5, g6, g7⟩
  · have : xs = [] := List.eq_nil_of_length_eq_zero (by omega)
    subst this
    exact Ints.nil _ _
  · simp only [Value.slice.injEq, true_and] at g1
    obtain ⟨rfl, _⟩ := g1
    refine ⟨by omega, hw, g, 0, fun _ => ⟨rfl, g3⟩, fun i hi => ?_⟩
    rw [Nat.zero_add]
    exact g7 i _ (intVs_get xs hi)
theorem own_some {w : World} {B : Nat} {rs : List Row} {k n c : Nat} {pl : Option Addr} {xs : List Int} (h : Owns w B rs) (hk : rs[k]? = some (lR (.slice pl n c) n xs)) (h0 : 0 < n) : ∃ g, pl = some ⟨g, 0, none⟩ ∧ B ≤ g ∧ g < w.heap.size := by
  obtain ⟨g, c', h1, h2, h3, _⟩ := h.some hk h0
  simp only [Value.slice.injEq] at h1
  exact ⟨g, h1.1, h2, h3⟩

theorem own_blk6g {w : World} {B : Nat} {rs : List Row} {k g n cap : Nat} {A : List Ark} {f : List Int} {L : List (Nat × Bool)} (h : Owns w B rs) (hk : rs[k]? = some (stRn g n cap A f L)) :
    g < w.heap.size ∧ ∀ i u, (stVs A f L)[i]? = some u → w.cell? ⟨g, i, none⟩ = some u := by
  obtain ⟨h1, h2⟩ := h.get hk
  rcases h2 with ⟨h2, _⟩ | ⟨g', cap', hv, h3, h4, _, _, h5, h6⟩
  · cases h2
  · have hg : g' = g := by
      simp only [Value.slice.injEq, Option.some.injEq, Addr.mk.injEq] at hv
      exact hv.1.1.symm
    subst hg
    exact ⟨h4, h6⟩
theorem own_step6 {w : World} {B : Nat} {rs : List Row} {k g n cap : Nat} {A : List Ark} {f : List Int} {L : List (Nat × Bool)} (h : Owns w B rs) (hk : rs[k]? = some (stRn g n cap A f L)) {t i : Nat} {b : Bool} (ht : L[t]? = some (i, b)) :
    w.cell? ⟨g, t * 6, none⟩ = some (.int .i64 (sF A i b : Int)) ∧ w.cell? ⟨g, t * 6 + 1, none⟩ = some (.int .i64 (sT A i b : Int)) ∧ w.cell? ⟨g, t * 6 + 2, none⟩ = some (.int .i64 (cst A i)) ∧ w.cell? ⟨g, t * 6 + 3, none⟩ = some (.int .i64 (sR A f i b)) ∧
      w.cell? ⟨g, t * 6 + 4, none⟩ = some (.int .i64 (i : Int)) ∧ w.cell? ⟨g, t * 6 + 5, none⟩ = some (.bool b) := by
  obtain ⟨_, h6⟩ := own_blk6g h hk
  have key : ∀ j x, j < 6 → (st1 A f i b)[j]? = some x → w.cell? ⟨g, t * 6 + j, none⟩ = some x := fun j x hj hx => h6 (t * 6 + j) x (by rw [stVs_get A f ht j hj]; exact hx)
  exact ⟨key 0 _ (by omega) rfl, key 1 _ (by omega) rfl, key 2 _ (by omega) rfl, key 3 _ (by omega) rfl, key 4 _ (by omega) rfl, key 5 _ (by omega) rfl⟩
theorem way_head {A : List Ark} {P : List (Nat × Bool)} {a t : Nat} (h : Way A P a t) (h0 : 0 < P.length) : ∃ i b, P[0]? = some (i, b) ∧ sF A i b = a := by
  cases P with
  | nil => simp at h0
  | cons x P => exact ⟨x.1, x.2, rfl, h.1⟩
theorem way_last {A : List Ark} : ∀ {P : List (Nat × Bool)} {a t np : Nat}, Way A P a t → P.length = np + 1 → ∃ i b, P[np]? = some (i, b) ∧ sT A i b = t
  | [], _, _, _, _, h0 => by simp at h0
  | [x], a, t, np, h, h0 => by
    have : np = 0 := by simpa using h0.symm
    subst this
    exact ⟨x.1, x.2, rfl, h.2⟩
  | x :: y :: P, a, t, np, h, h0 => by
    cases np with
    | zero => simp at h0
    | succ np =>
      obtain ⟨i, b, h1, h2⟩ := way_last (np := np) h.2 (by simpa using h0)
      exact ⟨i, b, by simpa using h1, h2⟩
theorem addP_bd {s : List Int} {A : List Ark} (hV : vN s A) {f : List Int} (hf : Fit A f) {P : List (Nat × Bool)} (hp : P.Pairwise fun x y => x.1 ≠ y.1) (hm : ∀ x ∈ P, x.1 < A.length) {k : Int} (h0 : 0 < k) (hk : k ≤ 2148532224) (j : Nat) {i : Nat} (hi : i < A.length) :
    -2148532224 ≤ ge (addP f k (P.take j)) i ∧ ge (addP f k (P.take j)) i ≤ 2150000000 := by
  rw [ge_addP k (P.take j) f (hp.sublist (List.take_sublist j P)) (fun x hx => by rw [hf.l]; exact hm x (List.mem_of_mem_take hx))]
  have h1 := hf.b i hi
  have h2 := (hV.a i hi).2.2.1.2
  split
  · omega
  · split <;> omega
theorem route_q (pv r : Option Addr) (nl cv V cr : Nat) (s xs : List Int) (A : List Ark) (f : List Int) (π : Nat → Int) (w : World) (hV : vN s A) (hp : Pot A f π) (hS : Stps w pv A f (resL A f A.length)) (hX : Ints w r xs) (hl : (resL A f A.length).length = nl) (hn : s.length = V) (hx : xs.length = V) :
    Calls Try.prog 30 #[.agg #[.slice pv nl cv, .func (.func 32) #[] #[]], .slice r V cr] w fun e w' => Grew w w' ∧ ∃ lp ln lc, e = .returned (.slice lp ln lc) ∧ ((ln = 0 ∧ NoWay V farP (fun v => 0 < ge xs v) A (resL A f A.length) xs) ∨
      ∃ g P, lp = some ⟨g, 0, none⟩ ∧ P.length = ln ∧ 0 < ln ∧ Owns w' w.heap.size [stRn g ln lc A f P] ∧ WayTo V farP (fun v => 0 < ge xs v) A (resL A f A.length) xs P) := by
  apply Calls.mono
  with_reducible exact route_p pv r nl cv V cr s xs A f π w hV hp hS hX hl hn hx
  rintro e w' ⟨hg, ⟨h1, h2⟩ | ⟨g, n, c, P, h1, h2, h3, h4, h5⟩⟩
  · exact ⟨hg, none, 0, 0, h1, Or.inl ⟨rfl, h2⟩⟩
  · exact ⟨hg, _, n, c, h1, Or.inr ⟨g, P, rfl, h2, h3, h4, h5⟩⟩

set_option maxRecDepth 8000 in
set_option maxHeartbeats 16000000 in
theorem solve_p (p q : Option Addr) (n cp m cq : Nat) (s : List Int) (A : List Ark) (w : World) (hS : Ints w p s) (hA : Arks w q A) (hn : s.length = n) (hm : A.length = m) (hnil : p = none → n = 0 ∧ cp = 0) :
    Calls Try.prog 18 #[.agg #[.slice p n cp, .slice q m cq]] w fun e w' => Grew w w' ∧ ((¬ vN s A ∧ e = .returned (.tuple #[.slice none 0 0, .int .i64 1])) ∨ (vN s A ∧ Cut s A ∧ e = .returned (.tuple #[.slice none 0 0, .int .i64 15])) ∨
      (vN s A ∧ ∃ g f, isFlow s A f ∧ (∃ π, Pot A f π) ∧ e = .returned (.tuple #[.slice (some ⟨g, 0, none⟩) m m, .int .i64 0]) ∧ Owns w' w.heap.size [rI g m f])) := by
  have Hval := Lib.hid (fun (W : World) (hg : Grew w W) => valid_p p q n cp m cq s A W (hS.grew hg) (hA.grew hg) hn hm)
  subst hn hm
  have HS := Lib.hid hS
  have HA := Lib.hid hA
  have Hnil := Lib.hid hnil
  have ham := hA.1
  clear hS hA hnil
  cases hv : nB s A
  · have Hno : Hid (¬ vN s A) := Lib.hid (fun h => by rw [nB_iff.2 h] at hv; cases hv)
    rw [hv] at Hval
    clear hv
    go_enter Try.func18, Try.ntmps18
    go_wp2_with ((go_at_call 10; apply Calls.mono; (with_reducible exact Hval.out _ (by (repeat (first | exact Grew.refl _ | refine Grew.over ?_ _ | refine Grew.alloc ?_ _ | refine Grew.drew ?_ | refine Grew.drewN ?_ _)))); rintro e w' ⟨rfl, x, rfl⟩))
    go_ret2
    exact ⟨by (repeat (first | exact Grew.refl _ | refine Grew.over ?_ _ | refine Grew.alloc ?_ _ | refine Grew.drew ?_ | refine Grew.drewN ?_ _)), Or.inl ⟨Hno.out, rfl⟩⟩
  have HV := Lib.hid (nB_iff.1 hv)
  have h256 := HV.out.n
  have h2048 := HV.out.m
  rw [hv] at Hval
  clear hv
  go_enter Try.func18, Try.ntmps18
  go_upto_region 1 with fail
  obtain ⟨wz, hwz⟩ : ∃ wz, w.alloc (.cells #[.slice p s.length cp, .slice q A.length cq] 25) = wz := ⟨_, rfl⟩
  have x0 : wz.cell? ⟨w.heap.size, 0, none⟩ = some (.slice p s.length cp) := by rw [← hwz]; simp [go_sem]
  have x1 : wz.cell? ⟨w.heap.size, 1, none⟩ = some (.slice q A.length cq) := by rw [← hwz]; simp [go_sem]
  have Hgz : Hid (Grew w wz) := Lib.hid (by rw [← hwz]; (repeat (first | exact Grew.refl _ | refine Grew.over ?_ _ | refine Grew.alloc ?_ _ | refine Grew.drew ?_ | refine Grew.drewN ?_ _)))
  have hbz : w.heap.size < wz.heap.size := by rw [← hwz]; simp
  have hmk := make_ints A.length (by omega)
  rw [hwz]
  clear hwz
  go_upto_region 3 with (go_at_call 10; apply Calls.mono; (with_reducible exact Hval.out _ Hgz.out); rintro e wa ⟨rfl, hga⟩; have Hga := Lib.hid hga; replace x0 := hga.cellEq x0; replace x1 := hga.cellEq x1; have hbz := Nat.lt_of_lt_of_le hbz hga.below.size; clear hga)
  obtain ⟨g4, hg4⟩ : ∃ g4, wa.heap.size = g4 := ⟨_, rfl⟩
  go_upto_region 4 with fail
  obtain ⟨wb, hwb⟩ : ∃ wb, wa.alloc (.cells (Array.replicate A.length (.int .i64 0)) 3) = wb := ⟨_, rfl⟩
  have HOb : Hid (Owns wb wa.heap.size [rI g4 A.length (List.replicate A.length 0)]) := Lib.hid (by rw [← hwb]; exact own_newI (Owns.nil _ _) (Nat.le_refl _) A.length _ (by omega) hg4.symm)
  have Hgb : Hid (Grew wa wb) := Lib.hid (by rw [← hwb]; (repeat (first | exact Grew.refl _ | refine Grew.over ?_ _ | refine Grew.alloc ?_ _ | refine Grew.drew ?_ | refine Grew.drewN ?_ _)))
  have hab : wa.heap.size ≤ wb.heap.size := Hgb.out.below.size
  rw [hwb]
  clear hwb hg4 hmk
  have Hx0 := Lib.hid x0
  have Hx1 := Lib.hid x1
  have x0b := Hgb.out.cellEq x0
  have x1b := Hgb.out.cellEq x1
  clear x0 x1
  have hbz2 := Nat.lt_of_lt_of_le hbz hab
  go_upto_region 5 with (go_at_call 23; apply Calls.mono; (with_reducible exact clone_g p s.length cp s _ (HS.out.grew (Hgz.out.trans (Hga.out.trans Hgb.out))) rfl (by omega) Hnil.out); rintro e w1 ⟨hg1, v5, rfl, hO1⟩; have Hg1 := Lib.hid (Hgb.out.trans hg1); have HO1 := Lib.hid (own_join HOb.out hg1 hO1 hab); obtain ⟨pl, cl, rfl⟩ := own_form HO1.out (k := 0) rfl; clear hg1 hO1)
  have HF0 := Lib.hid (Fi.begin s A)
  have Hgwa := Lib.hid (Hgz.out.trans Hga.out)
  have x1 := Hg1.out.cellEq Hx1.out
  have hb1 := Nat.lt_of_lt_of_le hbz Hg1.out.below.size
  clear HOb Hgb x0b x1b hbz2 hab Hgz Hga
  go_wp2
  go_loopw [29] (fun v29 wr => ∃ (j : Nat) (f xs : List Int), j ≤ A.length ∧ v29 = .int .i64 j ∧ Fi s A f xs j ∧ Owns wr wa.heap.size [lR (.slice pl s.length cl) s.length xs, rI g4 A.length f] ∧ Grew wa wr) (fun v29 _ => A.length - (intOf v29).toNat)
  case atStart => exact ⟨0, _, _, Nat.zero_le _, rfl, HF0.out, HO1.out, Hg1.out⟩
  case round =>
    clear HF0 HO1 Hg1 x1 hb1
    obtain ⟨j, f, xs, hj, rfl, hF, hO, hg⟩ := hrel
    have HF := Lib.hid hF
    have HO := Lib.hid hO
    have Hg := Lib.hid hg
    clear hF hO hg
    by_cases hlt : j < A.length
    · obtain ⟨b2, o2, rfl, hb2, c0, c1, c2, c3⟩ := (HA.out.grew (Hgwa.out.trans Hg.out)).open hlt
      have hF1 := HV.out.vF hlt
      have hT1 := HV.out.vT hlt
      rw [HV.out.fr hlt] at c0
      rw [HV.out.ed hlt] at c1
      have hcap : (aK A j).cap = cap A j := rfl
      have hcos : (aK A j).cost = cst A j := rfl
      have hcb := (HV.out.a j hlt).2.2
      rw [hcap] at c2
      rw [hcos] at c3
      have hbd := fun t ht => HF.out.bd HV.out (by omega) (v := t) ht
      have Hneg := Lib.hid (HF.out.neg HV.out hlt)
      have Hnon := Lib.hid (HF.out.non hlt)
      have hxl := HF.out.xl
      obtain ⟨u, hu⟩ : ∃ x, vF A j = x := ⟨_, rfl⟩
      obtain ⟨v, hv⟩ : ∃ x, vT A j = x := ⟨_, rfl⟩
      obtain ⟨cj, hcj⟩ : ∃ x, cap A j = x := ⟨_, rfl⟩
      obtain ⟨kj, hkj⟩ : ∃ x, cst A j = x := ⟨_, rfl⟩
      rw [hu] at c0 hF1 Hneg
      rw [hv] at c1 hT1 Hneg
      rw [hcj] at c2 hcb Hneg
      rw [hkj] at c3 hcb Hneg Hnon
      obtain ⟨gl, rfl, hglB, hgl⟩ := own_some HO.out (k := 0) rfl (by omega)
      have hb1 := hbd u hF1
      have hb2v := hbd v hT1
      have hgv : ge (xs.set u (ge xs u - cj)) v = if v = u then ge xs u - cj else ge xs v := ge_set xs (by rw [hxl]; exact hF1) _ v
      obtain ⟨xu, hxu⟩ : ∃ x, ge xs u = x := ⟨_, rfl⟩
      obtain ⟨xs2, hxs2⟩ : ∃ l, xs.set u (ge xs u - cj) = l := ⟨_, rfl⟩
      rw [hxs2] at hgv Hneg
      obtain ⟨xv, hxv⟩ : ∃ x, ge xs2 v = x := ⟨_, rfl⟩
      rw [hxv] at hgv Hneg
      have hxvb : -2160000000 ≤ xv ∧ xv ≤ 2160000000 := by rw [hgv]; split <;> omega
      rw [hxu] at hb1 hxs2
      have hwr1 : IntKind.i64.wrap (xu - cj) = xu - cj := IntWalk.i64_in _ ⟨by omega, by omega⟩
      have hwr2 : IntKind.i64.wrap (xv + cj) = xv + cj := IntWalk.i64_in _ ⟨by omega, by omega⟩
      have hl2 : xs2.length = s.length := by rw [← hxs2, List.length_set]; exact hxl
      have Hxs2 := Lib.hid hxs2
      have Hxu := Lib.hid hxu
      have Hxv := Lib.hid hxv
      have Hl2 := Lib.hid hl2
      have Hxl := Lib.hid hxl
      clear hbd hu hv hcj hkj hxl hgv hxs2 hxu hxv hl2 hcap hcos
      go_upto_region 8 with fail
      obtain ⟨w3, hw3⟩ : ∃ w3, wr.alloc (.cells #[.int .i64 (u : Int), .int .i64 (v : Int), .int .i64 cj, .int .i64 kj] 36) = w3 := ⟨_, rfl⟩
      obtain ⟨aw, haw⟩ : ∃ aw, wr.heap.size = aw := ⟨_, rfl⟩
      have hg3 : Grew wr w3 := by rw [← hw3]; (repeat (first | exact Grew.refl _ | refine Grew.over ?_ _ | refine Grew.alloc ?_ _ | refine Grew.drew ?_ | refine Grew.drewN ?_ _))
      have HO3 : Hid (Owns w3 wa.heap.size [⟨.slice (some ⟨aw, 0, none⟩) 4 4, 36, 1, 4, [.int .i64 (u : Int), .int .i64 (v : Int), .int .i64 cj, .int .i64 kj]⟩, rC gl s.length cl xs, rI g4 A.length f]) := Lib.hid (by rw [← hw3]; exact HO.out.made Hg.out.below.size #[.int .i64 (u : Int), .int .i64 (v : Int), .int .i64 cj, .int .i64 kj] 36 1 4 aw rfl (by decide) haw.symm)
      have Hg3 := Lib.hid (Hg.out.trans hg3)
      rw [hw3]
      try rw [haw]
      clear hw3 haw hg3 c0 c1 c2 c3 HO Hg hb2 hgl
      have hbz3 := own_blk HO3.out (j := 0) rfl
      have z0 := hbz3.2.2.2.2 0 _ rfl
      have z1 := hbz3.2.2.2.2 1 _ rfl
      have z2 := hbz3.2.2.2.2 2 _ rfl
      have z3 := hbz3.2.2.2.2 3 _ rfl
      have ha3 := hbz3.2.2.1
      clear hbz3
      by_cases hk0 : kj < 0
      · have HF2 := Lib.hid (Hneg.out hk0)
        have e4 := own_atI HO3.out (j := 2) rfl (i := j) hlt
        have b4 := own_lt HO3.out (j := 2) rfl
        have f4 := own_fr HO3.out (j := 2) rfl
        replace f4 := f4 j
        have HO4 := Lib.hid (own_setI HO3.out (j := 2) rfl j cj)
        have Hg4 := Lib.hid (HO3.out.setGrew (w0 := wa) (Nat.le_refl _) Hg3.out (k := 2) rfl j (.int .i64 cj))
        go_upto_region 10 with fail
        obtain ⟨w4, hw4⟩ : ∃ w4, w3.setCell ⟨g4, j, none⟩ (.int .i64 cj) = w4 := ⟨_, rfl⟩
        replace HO4 : Hid (Owns w4 wa.heap.size [⟨.slice (some ⟨aw, 0, none⟩) 4 4, 36, 1, 4, [.int .i64 (u : Int), .int .i64 (v : Int), .int .i64 cj, .int .i64 kj]⟩, rC gl s.length cl xs, rI g4 A.length (f.set j cj)]) := Lib.hid (by rw [← hw4]; exact HO4.out)
        replace Hg4 : Hid (Grew wa w4) := Lib.hid (by rw [← hw4]; exact Hg4.out)
        rw [hw4]
        clear hw4 z0 z1 z2 z3 ha3 HO3 Hg3 e4 b4 f4
        have hbz4 := own_blk HO4.out (j := 0) rfl
        have z0 := hbz4.2.2.2.2 0 _ rfl
        have z2 := hbz4.2.2.2.2 2 _ rfl
        have ha4 := hbz4.2.2.1
        clear hbz4
        have e0 := own_atC HO4.out (j := 1) rfl (i := u) (by rw [Hxl.out]; exact hF1)
        rw [Hxu.out] at e0
        have bg := own_lt HO4.out (j := 1) rfl
        have fg := own_fr HO4.out (j := 1) rfl
        replace fg := fg u
        have HO5 := Lib.hid (own_setC HO4.out (j := 1) rfl u (xu - cj))
        have Hg5 := Lib.hid (HO4.out.setGrew (w0 := wa) (Nat.le_refl _) Hg4.out (k := 1) rfl u (.int .i64 (xu - cj)))
        refine wp_region_lex (One 9 (fun b => if b then w4.setCell ⟨gl, u, none⟩ (.int .i64 (xu - cj)) else w4)) (by kernel_rfl) (by kernel_rfl) ?_ ?_
        · (repeat (first | exact Grew.refl _ | refine Grew.over ?_ _ | refine Grew.alloc ?_ _ | refine Grew.drew ?_ | refine Grew.drewN ?_ _))
        repeat (first
          | (refine lex_skip rfl ?_ ?_
             · exact One.keep (by decide)
             (try simp only [Act.put, List.setIfInBounds_toArray, List.set_cons_zero, List.set_cons_succ]))
          | (refine lex_pure (v := ?_) rfl ?_ (fun d w hd hr hC => ?_) ?_
             rotate_left
             · exact One.keep (by decide)
             · ((try (have hs := closed_undone (s := 9) hr.2 rfl (by decide +kernel) hd; unfold One at hC; rw [hs] at hC)); obtain ⟨x, rfl⟩ := hC; simp [go_sem, ↓IntWalk.iteOmega, z0, z2, e0, fg, hwr1]; try rfl)
             (try simp only [Act.put, List.setIfInBounds_toArray, List.set_cons_zero, List.set_cons_succ]))
          | (refine lex_call (v := ?_) (f := ?_) (args := ?_) rfl ?_ One.grew (fun d w hd hr hC => ?_) (fun d w hd hr hC => ?_) ?_
             rotate_left 3
             · exact One.keep (by decide)
             · ((try (have hs := closed_undone (s := 9) hr.2 rfl (by decide +kernel) hd; unfold One at hC; rw [hs] at hC)); obtain ⟨x, rfl⟩ := hC; simp [go_sem, ↓IntWalk.iteOmega, z0, z2, e0, fg, hwr1]; (refine ⟨?_, ?_⟩ <;> rfl))
             · ((try (have hs := closed_undone (s := 9) hr.2 rfl (by decide +kernel) hd; unfold One at hC; rw [hs] at hC)); obtain ⟨x, rfl⟩ := hC; (fail))
             (try simp only [Act.put, List.setIfInBounds_toArray, List.set_cons_zero, List.set_cons_succ]))
          | (refine lex_store rfl (fun d w hd hr hC => ?_) ?_
             · (unfold One at hC ⊢; rw [hd] at hC; rw [mark_same]; obtain ⟨x, rfl⟩ := hC; refine ⟨?_, ?_, ?_⟩; rotate_left; (simp [go_sem, ↓IntWalk.iteOmega, z0, z2, e0, fg, hwr1]; try rfl); (simp; exact ⟨_, rfl⟩))
             (try simp only [Act.put, List.setIfInBounds_toArray, List.set_cons_zero, List.set_cons_succ])))
        refine lex_nil ?_
        intro dLx w5 hd hw5
        unfold One at hw5; rw [hd 9 (by decide)] at hw5; simp only [if_true] at hw5
        have HO6 : Hid (Owns w5 wa.heap.size [⟨.slice (some ⟨aw, 0, none⟩) 4 4, 36, 1, 4, [.int .i64 (u : Int), .int .i64 (v : Int), .int .i64 cj, .int .i64 kj]⟩, rC gl s.length cl xs2, rI g4 A.length (f.set j cj)]) := Lib.hid (by
          have h := HO5.out.grew hw5
          rw [← Hxs2.out]
          exact h)
        have Hg6 := Lib.hid (Hg5.out.trans hw5)
        clear hw5 z0 z2 ha4 e0 bg fg HO5 Hg5 HO4 Hg4 hwr1
        have hbz6 := own_blk HO6.out (j := 0) rfl
        have z1 := hbz6.2.2.2.2 1 _ rfl
        have z2 := hbz6.2.2.2.2 2 _ rfl
        have ha6 := hbz6.2.2.1
        clear hbz6
        have e1 := own_atC HO6.out (j := 1) rfl (i := v) (by rw [Hl2.out]; exact hT1)
        rw [Hxv.out] at e1
        have bg := own_lt HO6.out (j := 1) rfl
        have fg := own_fr HO6.out (j := 1) rfl
        replace fg := fg v
        have HO7 := Lib.hid (own_setC HO6.out (j := 1) rfl v (xv + cj))
        have Hg7 := Lib.hid (HO6.out.setGrew (w0 := wa) (Nat.le_refl _) Hg6.out (k := 1) rfl v (.int .i64 (xv + cj)))
        go_upto_region 11 with fail
        refine wp_region_lex (One 9 (fun b => if b then w5.setCell ⟨gl, v, none⟩ (.int .i64 (xv + cj)) else w5)) (by kernel_rfl) (by kernel_rfl) ?_ ?_
        · (repeat (first | exact Grew.refl _ | refine Grew.over ?_ _ | refine Grew.alloc ?_ _ | refine Grew.drew ?_ | refine Grew.drewN ?_ _))
        repeat (first
          | (refine lex_skip rfl ?_ ?_
             · exact One.keep (by decide)
             (try simp only [Act.put, List.setIfInBounds_toArray, List.set_cons_zero, List.set_cons_succ]))
          | (refine lex_pure (v := ?_) rfl ?_ (fun d w hd hr hC => ?_) ?_
             rotate_left
             · exact One.keep (by decide)
             · ((try (have hs := closed_undone (s := 9) hr.2 rfl (by decide +kernel) hd; unfold One at hC; rw [hs] at hC)); obtain ⟨x, rfl⟩ := hC; simp [go_sem, ↓IntWalk.iteOmega, z1, z2, e1, fg, hwr2]; try rfl)
             (try simp only [Act.put, List.setIfInBounds_toArray, List.set_cons_zero, List.set_cons_succ]))
          | (refine lex_call (v := ?_) (f := ?_) (args := ?_) rfl ?_ One.grew (fun d w hd hr hC => ?_) (fun d w hd hr hC => ?_) ?_
             rotate_left 3
             · exact One.keep (by decide)
             · ((try (have hs := closed_undone (s := 9) hr.2 rfl (by decide +kernel) hd; unfold One at hC; rw [hs] at hC)); obtain ⟨x, rfl⟩ := hC; simp [go_sem, ↓IntWalk.iteOmega, z1, z2, e1, fg, hwr2]; (refine ⟨?_, ?_⟩ <;> rfl))
             · ((try (have hs := closed_undone (s := 9) hr.2 rfl (by decide +kernel) hd; unfold One at hC; rw [hs] at hC)); obtain ⟨x, rfl⟩ := hC; (fail))
             (try simp only [Act.put, List.setIfInBounds_toArray, List.set_cons_zero, List.set_cons_succ]))
          | (refine lex_store rfl (fun d w hd hr hC => ?_) ?_
             · (unfold One at hC ⊢; rw [hd] at hC; rw [mark_same]; obtain ⟨x, rfl⟩ := hC; refine ⟨?_, ?_, ?_⟩; rotate_left; (simp [go_sem, ↓IntWalk.iteOmega, z1, z2, e1, fg, hwr2]; try rfl); (simp; exact ⟨_, rfl⟩))
             (try simp only [Act.put, List.setIfInBounds_toArray, List.set_cons_zero, List.set_cons_succ])))
        refine lex_nil ?_
        intro dLx w6 hd hw6
        unfold One at hw6; rw [hd 9 (by decide)] at hw6; simp only [if_true] at hw6
        have HO8 := Lib.hid ((HO7.out.grew hw6).tail)
        have Hg8 := Lib.hid (Hg7.out.trans hw6)
        clear hw6
        go_wp2
        go_roundw
        case rel => exact ⟨j + 1, _, _, by omega, by go_num, HF2.out, HO8.out, Hg8.out⟩
        case measure => simp [intOf]; omega
      · have HF2 := Lib.hid (Hnon.out hk0)
        have HO4 := Lib.hid HO3.out.tail
        go_wp2
        go_roundw
        case rel => exact ⟨j + 1, f, xs, by omega, by go_num, HF2.out, HO4.out, Hg3.out⟩
        case measure => simp [intOf]; omega
    · have hje : j = A.length := by omega
      subst hje
      have HSt0 := Lib.hid (HF.out.done HV.out)
      clear HF
      go_wp2
      go_loopg [11] (mp s.length xs) (fun gk v11 wr => ∃ (f xs : List Int), St s A f xs ∧ mp s.length xs = gk ∧ Owns wr wa.heap.size [lR (.slice pl s.length cl) s.length xs, rI g4 A.length f] ∧ Grew wa wr)
      case atStart => exact ⟨f, xs, HSt0.out, rfl, HO.out, Hg.out⟩
      case round =>
        clear HSt0 HO Hg
        obtain ⟨f, xs, hSt, hgk, hO, hg⟩ := hrel
        have HSt := Lib.hid hSt
        have HO := Lib.hid hO
        have Hg := Lib.hid hg
        have Hgk := Lib.hid hgk
        have hxl := hSt.xl
        have hfl := hSt.fit.l
        have HxI : Hid (Ints wr pl xs) := Lib.hid (own_intsG hO (k := 0) rfl hxl (by omega) (ints_mem hxl (fun v hv => hSt.bd HV.out hv) (by decide) (by decide)))
        have HfI : Hid (Ints wr (some ⟨g4, 0, none⟩) f) := Lib.hid (own_ints hO (k := 1) rfl hfl (by omega) (ints_mem hfl (fun v hv => by have h1 := hSt.fit.b v hv; have h2 := (HV.out.a v hv).2.2.1.2; exact ⟨h1.1, Int.le_trans h1.2 h2⟩) (by decide) (by decide)))
        clear hSt hO hg hgk
        have x0 := Hg.out.cellEq Hx0.out
        have x1 := Hg.out.cellEq Hx1.out
        have hbw := Nat.lt_of_lt_of_le hbz Hg.out.below.size
        go_upto_if 62 with (go_at_call 28; apply Calls.mono; (with_reducible exact contains_p pl s.length cl xs _ HxI.out hxl); rintro e w' ⟨⟨r, rfl, hr⟩, rfl⟩)
        rcases hr with ⟨rfl, hno⟩ | ⟨rfl, a0, ha0, hpos⟩
        · have Hfin := Lib.hid (HSt.out.done HV.out (fun v hv => by have := hno v (by omega); omega))
          clear hno
          go_wp2
          go_ret2
          exact ⟨Hgwa.out.trans Hg.out, Or.inr (Or.inr ⟨HV.out, g4, f, Hfin.out.1, Hfin.out.2, rfl, (HO.out.tail).base Hgwa.out.below.size⟩)⟩
        · obtain ⟨π, hπ⟩ := HSt.out.pot
          have Hπ := Lib.hid hπ
          have Hpos := Lib.hid hpos
          clear hπ hpos
          go_upto_region 15 with (first
            | (go_at_call 25; apply Calls.mono; (with_reducible exact rest_p p q (some ⟨g4, 0, none⟩) s.length cp A.length cq A.length A.length s A f _ (HA.out.grew (Hgwa.out.trans Hg.out)) HfI.out rfl hfl HV.out HSt.out.fit); rintro e w2 ⟨hg2, v2, rfl, hO2⟩; obtain ⟨pv, cv, rfl, hSp⟩ := own_stps hO2 (k := 0) rfl; have HSp := Lib.hid hSp; have Hg2 := Lib.hid hg2; clear hO2 hSp hg2)
            | (go_at_call 30; apply Calls.mono; (with_reducible exact route_q pv pl _ cv s.length cl s xs A f π _ HV.out Hπ.out HSp.out (HxI.out.grew Hg2.out) rfl rfl hxl); rintro e w3 ⟨hg3, lp, ln, lc, rfl, hr⟩; have Hg3 := Lib.hid (Hg2.out.trans hg3); have Hg23 := Lib.hid hg3; clear hg3))
          rcases hr with ⟨rfl, hno⟩ | ⟨gP, P, rfl, hPl, hn0, hOP, hWT⟩
          · have Hno := Lib.hid (HSt.out.none HV.out hno (by omega) Hpos.out)
            clear hno
            go_wp2
            go_ret2
            exact ⟨Hgwa.out.trans (Hg.out.trans Hg3.out), Or.inr (Or.inl ⟨HV.out, Hno.out, rfl⟩)⟩
          · obtain ⟨d, ch, a, t, hStt, hWy, hxa, htV, hxt⟩ := hWT
            have haV := hWy.vs
            obtain ⟨gl, rfl, hglB, hgl⟩ := own_some HO.out (k := 0) rfl (by omega)
            obtain ⟨np, rfl⟩ : ∃ np, ln = np + 1 := ⟨ln - 1, by omega⟩
            obtain ⟨i0, bb0, hP0, hsF⟩ := way_head hWy.way (by omega)
            obtain ⟨i1, bb1, hP1, hsT⟩ := way_last hWy.way hPl
            have HO3 := Lib.hid (own_join (HO.out.grew Hg2.out) Hg23.out hOP (Nat.le_trans Hg.out.below.size Hg2.out.below.size))
            have Hg3a := Lib.hid (Hg.out.trans Hg3.out)
            have hPs := hWy.len
            have harc := Lib.hid hWy.arcs
            have hmA : Hid (∀ x ∈ P, x.1 < A.length) := Lib.hid (fun x hx => (mem_resL (i := x.1) (b := x.2)).1 (hWy.stp x hx).1 |>.1)
            have HWP : Hid (∃ d ch, Wy s.length A (resL A f A.length) farP d ch P a t) := Lib.hid ⟨d, ch, hWy⟩
            have Hsend := Lib.hid (fun (k : Int) (hk : Snd s A f xs P a t k) => HSt.out.send HV.out hStt hWy htV hk)
            have hba := HSt.out.bd HV.out haV
            have hbt := HSt.out.bd HV.out htV
            obtain ⟨xa, exa⟩ : ∃ x, ge xs a = x := ⟨_, rfl⟩
            obtain ⟨xt, ext⟩ : ∃ x, ge xs t = x := ⟨_, rfl⟩
            rw [exa] at hxa hba
            rw [ext] at hxt hbt
            obtain ⟨nt, hnt⟩ : ∃ x, -xt = x := ⟨_, rfl⟩
            have hnt0 : 0 < nt ∧ nt ≤ 2148532224 := by omega
            obtain ⟨hnt1, hnt2⟩ := hnt0
            have hwn : IntKind.i64.wrap (-xt) = nt := by rw [hnt]; exact IntWalk.i64_in _ ⟨by omega, by omega⟩
            have Hexa := Lib.hid exa
            have Hext := Lib.hid ext
            have Hnt := Lib.hid hnt
            have Hxa := Lib.hid hxa
            have c0 := (own_step6 HO3.out (k := 0) rfl hP0).1
            have c1 := (own_step6 HO3.out (k := 0) rfl hP1).2.1
            rw [hsF] at c0
            rw [hsT] at c1
            rw [Nat.zero_mul] at c0
            have bP := (own_blk6g HO3.out (k := 0) rfl).1
            have e0 := own_atC HO3.out (j := 1) rfl (i := a) (by omega)
            have e1 := own_atC HO3.out (j := 1) rfl (i := t) (by omega)
            rw [exa] at e0
            rw [ext] at e1
            have bl := own_lt HO3.out (j := 1) rfl
            clear hOP hStt hWy exa ext hnt hP0 hP1 hsF hsT HO Hg Hg2 Hg3 Hg23 x0 x1 HxI HfI hbw
            go_upto_region 17 with fail
            refine wp_region_over (by kernel_rfl) (by kernel_rfl) ?_; (repeat (go_big_quiet_step (fail))); refine wpQuiet_nil ?_; intro w4 hW; replace hW : Grew _ w4 := hW
            have HO4 := Lib.hid (HO3.out.grew hW)
            have Hg4 := Lib.hid (Hg3a.out.trans hW)
            replace e0 := hW.cellEq e0
            replace e1 := hW.cellEq e1
            replace bl := Nat.lt_of_lt_of_le bl hW.below.size
            clear hW c0 c1 bP HO3 Hg3a
            go_upto_region 18 with fail
            refine wp_region_over (by kernel_rfl) (by kernel_rfl) ?_; (repeat (go_big_quiet_step (fail))); refine wpQuiet_nil ?_; intro w5 hW; replace hW : Grew _ w5 := hW
            have HO5 := Lib.hid (HO4.out.grew hW)
            have Hg5 := Lib.hid (Hg4.out.trans hW)
            obtain ⟨k0, hk0⟩ : ∃ k0, (if nt < xa then nt else xa) = k0 := ⟨_, rfl⟩
            have Hk0 : Hid (0 < k0 ∧ k0 ≤ xa ∧ k0 ≤ nt) := Lib.hid (by rw [← hk0]; split <;> omega)
            rw [hk0]
            clear hk0
            clear hW HO4 Hg4 e0 e1 bl
            go_wp2
            go_loopw [11, 94] (fun v11 v94 wk => ∃ (j : Nat) (k : Int), j ≤ np + 1 ∧ v94 = .int .i64 j ∧ v11 = .int .i64 k ∧ (0 < k ∧ k ≤ xa ∧ k ≤ nt) ∧ (∀ i x, i < j → P[i]? = some x → k ≤ sR A f x.1 x.2) ∧ Grew w5 wk) (fun _ v94 _ => np + 1 - (intOf v94).toNat)
            case atStart => exact ⟨0, k0, Nat.zero_le _, rfl, rfl, Hk0.out, fun i x hi => (by omega), Grew.refl _⟩
            case round =>
              clear Hk0
              obtain ⟨j, k, hj, rfl, rfl, hk, hall, hg⟩ := hrel
              have Hk := Lib.hid hk
              have Hall := Lib.hid hall
              have Hg := Lib.hid hg
              have HO := Lib.hid (HO5.out.grew hg)
              clear hk hall hg
              by_cases hlt : j < np + 1
              · obtain ⟨⟨i, b⟩, hib⟩ : ∃ x, P[j]? = some x := ⟨_, List.getElem?_eq_getElem (by omega)⟩
                have bP := (own_blk6g HO.out (k := 0) rfl).1
                obtain ⟨c0, c1, c2, c3, c4, c5⟩ := own_step6 HO.out (k := 0) rfl hib
                have hrm : Hid (0 < sR A f i b) := Lib.hid ((mem_resL (i := i) (b := b)).1 (by obtain ⟨d, ch, h⟩ := HWP.out; exact (h.stp (i, b) (List.mem_of_getElem? hib)).1)).2
                have Hib := Lib.hid hib
                clear hib
                obtain ⟨uu, huu⟩ : ∃ x, sF A i b = x := ⟨_, rfl⟩
                obtain ⟨vv, hvv⟩ : ∃ x, sT A i b = x := ⟨_, rfl⟩
                obtain ⟨co, hco⟩ : ∃ x, cst A i = x := ⟨_, rfl⟩
                obtain ⟨ro, hro⟩ : ∃ x, sR A f i b = x := ⟨_, rfl⟩
                rw [huu] at c0
                rw [hvv] at c1
                rw [hco] at c2
                rw [hro] at c3 hrm
                have Hro := Lib.hid hro
                clear huu hvv hco hro
                go_upto_region 22 with fail
                obtain ⟨w6, hw6⟩ : ∃ w6, wr.alloc (.cells #[.int .i64 (uu : Int), .int .i64 (vv : Int), .int .i64 co, .int .i64 ro, .int .i64 (i : Int), .bool b] 54) = w6 := ⟨_, rfl⟩
                obtain ⟨aw, haw⟩ : ∃ aw, wr.heap.size = aw := ⟨_, rfl⟩
                have z3 : w6.cell? ⟨aw, 3, none⟩ = some (.int .i64 ro) := by rw [← hw6, ← haw]; simp [go_sem]
                have Hg6 : Hid (Grew w5 w6) := Lib.hid (by rw [← hw6]; exact Hg.out.trans (by (repeat (first | exact Grew.refl _ | refine Grew.over ?_ _ | refine Grew.alloc ?_ _ | refine Grew.drew ?_ | refine Grew.drewN ?_ _))))
                rw [hw6]
                try rw [haw]
                clear hw6 haw c0 c1 c2 c3 c4 c5 bP
                by_cases hrk : ro < k
                · have Hk2 : Hid (0 < ro ∧ ro ≤ xa ∧ ro ≤ nt) := Lib.hid (by have := Hk.out; have := hrm.out; omega)
                  have Ha2 : Hid (∀ i x, i < j + 1 → P[i]? = some x → ro ≤ sR A f x.1 x.2) := Lib.hid (fun i' x hi' hx => by
                    by_cases e : i' = j
                    · subst e; rw [Hib.out] at hx; cases hx; rw [Hro.out]; exact Int.le_refl _
                    · have := Hall.out i' x (by omega) hx; omega)
                  go_wp2
                  go_roundw
                  case rel => exact ⟨j + 1, ro, by omega, by go_num, rfl, Hk2.out, Ha2.out, Hg6.out⟩
                  case measure => simp [intOf]; omega
                · have Ha2 : Hid (∀ i x, i < j + 1 → P[i]? = some x → k ≤ sR A f x.1 x.2) := Lib.hid (fun i' x hi' hx => by
                    by_cases e : i' = j
                    · subst e; rw [Hib.out] at hx; cases hx; rw [Hro.out]; omega
                    · exact Hall.out i' x (by omega) hx)
                  go_wp2
                  go_roundw
                  case rel => exact ⟨j + 1, k, by omega, by go_num, rfl, Hk.out, Ha2.out, Hg6.out⟩
                  case measure => simp [intOf]; omega
              · have Hsnd : Hid (Snd s A f xs P a t k) := Lib.hid ⟨Hk.out.1, by rw [Hexa.out]; exact Hk.out.2.1, by rw [Hext.out, Hnt.out]; exact Hk.out.2.2, fun x hx => by
                  obtain ⟨i, hi⟩ := List.getElem?_of_mem hx
                  have := (List.getElem?_eq_some_iff.1 hi).1
                  exact Hall.out i x (by omega) hi⟩
                have Hst2 := Lib.hid (Hsend.out k Hsnd.out)
                have hk1 := Hk.out
                obtain ⟨hk1, hk2, hk3⟩ := hk1
                have Hgg := Lib.hid (Hg5.out.trans Hg.out)
                have HOO : Hid (Owns wr wa.heap.size [stRn gP (np + 1) lc A f P, rC gl s.length cl xs, rI g4 A.length (addP f k (P.take 0))]) := Lib.hid HO.out
                clear Hall HO Hg HO5 Hg5
                go_wp2
                go_loopw [105] (fun v105 wk => ∃ j : Nat, j ≤ np + 1 ∧ v105 = .int .i64 j ∧ Owns wk wa.heap.size [stRn gP (np + 1) lc A f P, rC gl s.length cl xs, rI g4 A.length (addP f k (P.take j))] ∧ Grew wa wk) (fun v105 _ => np + 1 - (intOf v105).toNat)
                case atStart => exact ⟨0, Nat.zero_le _, rfl, HOO.out, Hgg.out⟩
                case round =>
                  clear HOO Hgg
                  obtain ⟨j, hj, rfl, hO, hg⟩ := hrel
                  have HO := Lib.hid hO
                  have Hg := Lib.hid hg
                  clear hO hg
                  by_cases hlt : j < np + 1
                  · obtain ⟨⟨i, b⟩, hib⟩ : ∃ x, P[j]? = some x := ⟨_, List.getElem?_eq_getElem (by omega)⟩
                    have hiA := hmA.out _ (List.mem_of_getElem? hib)
                    simp only at hiA
                    have bP := (own_blk6g HO.out (k := 0) rfl).1
                    obtain ⟨c0, c1, c2, c3, c4, c5⟩ := own_step6 HO.out (k := 0) rfl hib
                    have hbd := addP_bd HV.out HSt.out.fit harc.out hmA.out hk1 (by omega) j hiA
                    have Hnx : Hid (addP f k (P.take (j + 1)) = (addP f k (P.take j)).set i (if b then ge (addP f k (P.take j)) i - k else ge (addP f k (P.take j)) i + k)) := Lib.hid (by rw [take_snoc hib, addP_snoc])
                    have hfl2 : (addP f k (P.take j)).length = A.length := by rw [addP_length]; exact hfl
                    obtain ⟨fj, hfj⟩ : ∃ x, addP f k (P.take j) = x := ⟨_, rfl⟩
                    rw [hfj] at HO Hnx hbd hfl2
                    obtain ⟨fi, hfi⟩ : ∃ x, ge fj i = x := ⟨_, rfl⟩
                    rw [hfi] at Hnx hbd
                    have Hfi := Lib.hid hfi
                    obtain ⟨uu, huu⟩ : ∃ x, sF A i b = x := ⟨_, rfl⟩
                    obtain ⟨vv, hvv⟩ : ∃ x, sT A i b = x := ⟨_, rfl⟩
                    obtain ⟨co, hco⟩ : ∃ x, cst A i = x := ⟨_, rfl⟩
                    obtain ⟨ro, hro⟩ : ∃ x, sR A f i b = x := ⟨_, rfl⟩
                    rw [huu] at c0
                    rw [hvv] at c1
                    rw [hco] at c2
                    rw [hro] at c3
                    clear huu hvv hco hro hib hfj hfi hfl2
                    go_upto_region 27 with fail
                    obtain ⟨w6, hw6⟩ : ∃ w6, wr.alloc (.cells #[.int .i64 (uu : Int), .int .i64 (vv : Int), .int .i64 co, .int .i64 ro, .int .i64 (i : Int), .bool b] 54) = w6 := ⟨_, rfl⟩
                    obtain ⟨aw, haw⟩ : ∃ aw, wr.heap.size = aw := ⟨_, rfl⟩
                    have HO6 : Hid (Owns w6 wa.heap.size [⟨.slice (some ⟨aw, 0, none⟩) 6 6, 54, 1, 6, [.int .i64 (uu : Int), .int .i64 (vv : Int), .int .i64 co, .int .i64 ro, .int .i64 (i : Int), .bool b]⟩, stRn gP (np + 1) lc A f P, rC gl s.length cl xs, rI g4 A.length fj]) :=
                      Lib.hid (by rw [← hw6]; exact HO.out.made Hg.out.below.size #[.int .i64 (uu : Int), .int .i64 (vv : Int), .int .i64 co, .int .i64 ro, .int .i64 (i : Int), .bool b] 54 1 6 aw rfl (by decide) haw.symm)
                    have Hg6 : Hid (Grew wa w6) := Lib.hid (by rw [← hw6]; exact Hg.out.trans (by (repeat (first | exact Grew.refl _ | refine Grew.over ?_ _ | refine Grew.alloc ?_ _ | refine Grew.drew ?_ | refine Grew.drewN ?_ _))))
                    rw [hw6]
                    try rw [haw]
                    clear hw6 haw c0 c1 c2 c3 c4 c5 bP HO Hg
                    have hbz6 := own_blk HO6.out (j := 0) rfl
                    have z4 := hbz6.2.2.2.2 4 _ rfl
                    have z5 := hbz6.2.2.2.2 5 _ rfl
                    have ha6 := hbz6.2.2.1
                    clear hbz6
                    have e4 := own_atI HO6.out (j := 3) rfl (i := i) hiA
                    rw [Hfi.out] at e4
                    have b4 := own_lt HO6.out (j := 3) rfl
                    have f4 := own_fr HO6.out (j := 3) rfl
                    replace f4 := f4 i
                    cases b
                    · have hwr : IntKind.i64.wrap (fi + k) = fi + k := IntWalk.i64_in _ ⟨by omega, by omega⟩
                      have HO7 : Hid (Owns (w6.setCell ⟨g4, i, none⟩ (.int .i64 (fi + k))) wa.heap.size [stRn gP (np + 1) lc A f P, rC gl s.length cl xs, rI g4 A.length (addP f k (P.take (j + 1)))]) := Lib.hid (by rw [Hnx.out]; exact (own_setI HO6.out (j := 3) rfl i (fi + k)).tail)
                      have Hg7 := Lib.hid (HO6.out.setGrew (w0 := wa) (Nat.le_refl _) Hg6.out (k := 3) rfl i (.int .i64 (fi + k)))
                      go_wp2
                      go_roundw
                      case rel => exact ⟨j + 1, by omega, by go_num, HO7.out, Hg7.out⟩
                      case measure => simp [intOf]; omega
                    · have hwr : IntKind.i64.wrap (fi - k) = fi - k := IntWalk.i64_in _ ⟨by omega, by omega⟩
                      have HO7 : Hid (Owns (w6.setCell ⟨g4, i, none⟩ (.int .i64 (fi - k))) wa.heap.size [stRn gP (np + 1) lc A f P, rC gl s.length cl xs, rI g4 A.length (addP f k (P.take (j + 1)))]) := Lib.hid (by rw [Hnx.out]; exact (own_setI HO6.out (j := 3) rfl i (fi - k)).tail)
                      have Hg7 := Lib.hid (HO6.out.setGrew (w0 := wa) (Nat.le_refl _) Hg6.out (k := 3) rfl i (.int .i64 (fi - k)))
                      go_wp2
                      go_roundw
                      case rel => exact ⟨j + 1, by omega, by go_num, HO7.out, Hg7.out⟩
                      case measure => simp [intOf]; omega
                  · have hje : j = np + 1 := by omega
                    subst hje
                    have HO2 : Hid (Owns wr wa.heap.size [rC gl s.length cl xs, rI g4 A.length (addP f k P)]) := Lib.hid (by
                      have h := HO.out.tail
                      rwa [List.take_of_length_le (by omega)] at h)
                    clear HO
                    have hta : t ≠ a := fun e => (by
                      have h1 := Hexa.out
                      have h2 := Hext.out
                      rw [e] at h2
                      have := Hxa.out
                      have := Hnt.out
                      omega)
                    have e0 := own_atC HO2.out (j := 0) rfl (i := a) (by omega)
                    rw [Hexa.out] at e0
                    have b0 := own_lt HO2.out (j := 0) rfl
                    have f0 := own_fr HO2.out (j := 0) rfl
                    replace f0 := f0 a
                    have hwr : IntKind.i64.wrap (xa - k) = xa - k := IntWalk.i64_in _ ⟨by omega, by omega⟩
                    have HO3 := Lib.hid (own_setC HO2.out (j := 0) rfl a (xa - k))
                    have Hg3 := Lib.hid (HO2.out.setGrew (w0 := wa) (Nat.le_refl _) Hg.out (k := 0) rfl a (.int .i64 (xa - k)))
                    go_upto_region 32 with fail
                    obtain ⟨w7, hw7⟩ : ∃ w7, wr.setCell ⟨gl, a, none⟩ (.int .i64 (xa - k)) = w7 := ⟨_, rfl⟩
                    replace HO3 : Hid (Owns w7 wa.heap.size [rC gl s.length cl (xs.set a (xa - k)), rI g4 A.length (addP f k P)]) := Lib.hid (by rw [← hw7]; exact HO3.out)
                    replace Hg3 : Hid (Grew wa w7) := Lib.hid (by rw [← hw7]; exact Hg3.out)
                    rw [hw7]
                    clear hw7 HO2 Hg e0 b0 f0 hwr
                    have hx2 : ge (xs.set a (xa - k)) t = xt := by rw [ge_set xs (by omega), if_neg hta]; exact Hext.out
                    have e1 := own_atC HO3.out (j := 0) rfl (i := t) (by rw [List.length_set]; omega)
                    rw [hx2] at e1
                    have b1 := own_lt HO3.out (j := 0) rfl
                    have f1 := own_fr HO3.out (j := 0) rfl
                    replace f1 := f1 t
                    have hwr : IntKind.i64.wrap (xt + k) = xt + k := IntWalk.i64_in _ ⟨by omega, by omega⟩
                    have HO4 := Lib.hid (own_setC HO3.out (j := 0) rfl t (xt + k))
                    have Hg4 := Lib.hid (HO3.out.setGrew (w0 := wa) (Nat.le_refl _) Hg3.out (k := 0) rfl t (.int .i64 (xt + k)))
                    have Hst3 : Hid (St s A (addP f k P) ((xs.set a (xa - k)).set t (xt + k)) ∧ mp s.length ((xs.set a (xa - k)).set t (xt + k)) < gk) := Lib.hid (by
                      have h := Hst2.out
                      rw [Hexa.out, hx2, Hgk.out] at h
                      exact h)
                    clear Hst2 hx2
                    go_wp2
                    go_roundg (mp s.length ((xs.set a (xa - k)).set t (xt + k)))
                    case rel => exact ⟨_, _, Hst3.out.1, rfl, HO4.out, Hg4.out⟩
                    case measure => exact Hst3.out.2
end Go.Proofs.Ytnnlhmialmhpfaa
