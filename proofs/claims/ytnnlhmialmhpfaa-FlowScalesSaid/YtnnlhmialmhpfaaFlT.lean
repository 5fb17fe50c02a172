/- The state of Solve, plain; IndexFunc and ContainsFunc. -/
import Derived.Test.YtnnlhmialmhpfaaFlS
set_option linter.unusedSimpArgs false
set_option linter.unusedVariables false
namespace Go.Proofs.Ytnnlhmialmhpfaa
open Go.RowKit
attribute [local go_sem ↓] Go.wp_at_zero Go.wp_at_succ

theorem ge_ext {xs ys : List Int} (n : Nat) (h1 : xs.length = n) (h2 : ys.length = n) (h : ∀ t, t < n → ge xs t = ge ys t) : xs = ys := by
  refine List.ext_getElem (by omega) fun t ht1 ht2 => ?_
  have := h t (by omega)
  rwa [ge_eq xs ht1, ge_eq ys ht2] at this
/-! ### Cuts -/
/-- A set of vertices whose supply cannot leave it. -/
def Cut (s : List Int) (A : List Ark) : Prop := ∃ R : Nat → Bool, sumN (fun i => if R (vF A i) = true ∧ R (vT A i) = false then cap A i else 0) A.length < sumN (fun v => if R v = true then ge s v else 0) s.length
theorem cut_key {s : List Int} {A : List Ark} (hV : vN s A) (R : Nat → Bool) (x : List Int) : sumN (fun v => if R v = true then exc s A x v else 0) s.length =
    sumN (fun v => if R v = true then ge s v else 0) s.length + sumN (fun i => ((if R (vT A i) = true then 1 else 0) - (if R (vF A i) = true then 1 else 0)) * ge x i) A.length := by
  rw [pot_sum hV (fun v => if R v = true then 1 else 0), ← sumN_add]
  refine sumN_congr fun v _ => ?_
  unfold exc inF
  split
  · rw [Int.one_mul]
  · rw [Int.zero_mul]; rfl
theorem Cut.no {s : List Int} {A : List Ark} (h : Cut s A) (hV : vN s A) : ∀ g, ¬ isFlow s A g := by
  intro g hg
  obtain ⟨R, hR⟩ := h
  have h1 := cut_key hV R g
  have h2 : sumN (fun v => if R v = true then exc s A g v else 0) s.length = 0 := sumN_zero fun v hv => by
    split
    · exact hg.2 v hv
    · rfl
  have h3 : sumN (fun i => - (if R (vF A i) = true ∧ R (vT A i) = false then cap A i else 0)) A.length ≤ sumN (fun i => ((if R (vT A i) = true then 1 else 0) - (if R (vF A i) = true then 1 else 0)) * ge g i) A.length := sumN_le fun i hi => by
    have b := hg.1.b i hi
    cases R (vF A i) <;> cases R (vT A i) <;> simp <;> omega
  have h4 := sumN_add (fun i => - (if R (vF A i) = true ∧ R (vT A i) = false then cap A i else 0)) (fun i => if R (vF A i) = true ∧ R (vT A i) = false then cap A i else 0) A.length
  rw [sumN_zero (fun i _ => by omega)] at h4
  omega
theorem cut_of {s : List Int} {A : List Ark} (hV : vN s A) {f : List Int} (hf : Fit A f) {far : Int} {d : List Int} (hs : Settled far A (resL A f A.length) d) (hpos : ∀ v, v < s.length → ge d v ≠ far → 0 ≤ exc s A f v)
    {a : Nat} (ha : a < s.length) (haf : ge d a ≠ far) (ha0 : 0 < exc s A f a) : Cut s A := by
  refine ⟨fun v => decide (ge d v ≠ far), ?_⟩
  have h1 := cut_key hV (fun v => decide (ge d v ≠ far)) f
  have h2 : 0 < sumN (fun v => if decide (ge d v ≠ far) = true then exc s A f v else 0) s.length := by
    have := sumN_ge (f := fun v => if decide (ge d v ≠ far) = true then exc s A f v else 0) ha (fun v hv => by
      show 0 ≤ if decide (ge d v ≠ far) = true then exc s A f v else 0
      split
      · rename_i h; exact hpos v hv (of_decide_eq_true h)
      · exact Int.le_refl _)
    simp only [decide_eq_true haf, if_true] at this
    omega
  have h3 : sumN (fun i => ((if decide (ge d (vT A i) ≠ far) = true then 1 else 0) - (if decide (ge d (vF A i) ≠ far) = true then 1 else 0)) * ge f i) A.length = sumN (fun i => - (if decide (ge d (vF A i) ≠ far) = true ∧ decide (ge d (vT A i) ≠ far) = false then cap A i else 0)) A.length := sumN_congr fun i hi => by
    have b := hf.b i hi
    by_cases eF : ge d (vF A i) = far
    · by_cases eT : ge d (vT A i) = far
      · simp [eF, eT]
      · have : ¬ 0 < ge f i := fun e => by
          obtain ⟨t', ht'⟩ := List.getElem?_of_mem ((mem_resL (A := A) (f := f) (i := i) (b := true) (k := A.length)).2 ⟨hi, e⟩)
          rcases hs t' i true ht' with g1 | ⟨g1, _⟩
          · exact eT g1
          · exact g1 eF
        simp [eF, eT]
        omega
    · by_cases eT : ge d (vT A i) = far
      · have : ¬ ge f i < cap A i := fun e => by
          obtain ⟨t', ht'⟩ := List.getElem?_of_mem ((mem_resL (A := A) (f := f) (i := i) (b := false) (k := A.length)).2 ⟨hi, by simp [sR]; omega⟩)
          rcases hs t' i false ht' with g1 | ⟨g1, _⟩
          · exact eF g1
          · exact g1 eT
        simp [eF, eT]
        omega
      · simp [eF, eT]
  have h4 := sumN_add (fun i => - (if decide (ge d (vF A i) ≠ far) = true ∧ decide (ge d (vT A i) ≠ far) = false then cap A i else 0)) (fun i => if decide (ge d (vF A i) ≠ far) = true ∧ decide (ge d (vT A i) ≠ far) = false then cap A i else 0) A.length
  rw [sumN_zero (fun i _ => by omega)] at h4
  dsimp only at h1 ⊢
  omega
/-! ### The arcs with negative costs are filled -/
def fill (A : List Ark) : List Int := (List.range A.length).map fun i => if cst A i < 0 then cap A i else 0
theorem fill_len (A : List Ark) : (fill A).length = A.length := by simp [fill]
theorem ge_fill (A : List Ark) {i : Nat} (h : i < A.length) : ge (fill A) i = if cst A i < 0 then cap A i else 0 := by
  rw [ge_eq _ (by rw [fill_len]; exact h)]
  simp [fill]
theorem fill_fit {s : List Int} {A : List Ark} (hV : vN s A) : Fit A (fill A) := by
  refine ⟨fill_len A, fun i hi => ?_⟩
  have := (hV.a i hi).2.2.1
  rw [ge_fill A hi]
  split <;> omega
theorem fill_pot (A : List Ark) : Pot A (fill A) (fun _ => 0) := by
  intro i b ⟨hi, hr⟩
  unfold sR at hr
  rw [ge_fill A hi] at hr
  unfold sC
  cases b
  · simp only [Bool.false_eq_true, if_false] at hr ⊢
    split at hr <;> omega
  · simp only [if_true] at hr ⊢
    split at hr <;> omega
structure Fi (s : List Int) (A : List Ark) (f xs : List Int) (j : Nat) : Prop where
  fl : f.length = A.length
  fv : ∀ i, i < A.length → ge f i = if i < j ∧ cst A i < 0 then cap A i else 0
  xl : xs.length = s.length
  xv : ∀ v, v < s.length → ge xs v = ge s v + inF A (fill A) v j
theorem Fi.begin (s : List Int) (A : List Ark) : Fi s A (List.replicate A.length 0) s 0 :=
  ⟨by simp, fun i hi => by rw [if_neg (by omega), ge_eq _ (by simpa using hi)]; simp, rfl, fun v _ => by simp [inF, sumN]⟩
theorem Fi.bd {s : List Int} {A : List Ark} {f xs : List Int} {j : Nat} (h : Fi s A f xs j) (hV : vN s A) (hj : j ≤ A.length) {v : Nat} (hv : v < s.length) : -2148532224 ≤ ge xs v ∧ ge xs v ≤ 2148532224 := by
  have := exL_bd hV (fill_fit hV) hj hv
  rw [ge_exL hV _ j hj] at this
  rw [h.xv v hv]
  exact this
theorem Fi.non {s : List Int} {A : List Ark} {f xs : List Int} {j : Nat} (h : Fi s A f xs j) (hj : j < A.length) (hc : ¬ cst A j < 0) : Fi s A f xs (j + 1) := by
  refine ⟨h.fl, fun i hi => ?_, h.xl, fun v hv => ?_⟩
  · rw [h.fv i hi]
    by_cases e : i = j
    · subst e; rw [if_neg (by omega), if_neg (by omega)]
    · by_cases e2 : i < j ∧ cst A i < 0
      · rw [if_pos e2, if_pos (by omega)]
      · rw [if_neg e2, if_neg (by omega)]
  · have e : inF A (fill A) v (j + 1) = inF A (fill A) v j + ((if vT A j = v then ge (fill A) j else 0) - (if vF A j = v then ge (fill A) j else 0)) := rfl
    rw [h.xv v hv, e, ge_fill A hj, if_neg hc]
    split <;> split <;> omega
theorem Fi.neg {s : List Int} {A : List Ark} {f xs : List Int} {j : Nat} (h : Fi s A f xs j) (hV : vN s A) (hj : j < A.length) (hc : cst A j < 0) :
    Fi s A (f.set j (cap A j)) ((xs.set (vF A j) (ge xs (vF A j) - cap A j)).set (vT A j) (ge (xs.set (vF A j) (ge xs (vF A j) - cap A j)) (vT A j) + cap A j)) (j + 1) := by
  refine ⟨by rw [List.length_set]; exact h.fl, fun i hi => ?_, by rw [List.length_set, List.length_set]; exact h.xl, fun v hv => ?_⟩
  · rw [ge_set f (by rw [h.fl]; exact hj)]
    by_cases e : i = j
    · subst e; rw [if_pos rfl, if_pos (by omega)]
    · rw [if_neg e, h.fv i hi]
      by_cases e2 : i < j ∧ cst A i < 0
      · rw [if_pos e2, if_pos (by omega)]
      · rw [if_neg e2, if_neg (by omega)]
  · have e : inF A (fill A) v (j + 1) = inF A (fill A) v j + ((if vT A j = v then ge (fill A) j else 0) - (if vF A j = v then ge (fill A) j else 0)) := rfl
    have h1 := hV.vF hj
    have h2 := hV.vT hj
    rw [ge_set _ (by rw [List.length_set, h.xl]; exact h2), ge_set xs (by rw [h.xl]; exact h1), ge_set xs (by rw [h.xl]; exact h1), e, ge_fill A hj, if_pos hc]
    have x1 := h.xv v hv
    have x2 := h.xv _ h1
    have x3 := h.xv _ h2
    grind
/-! ### The state -/
structure St (s : List Int) (A : List Ark) (f xs : List Int) : Prop where
  fit : Fit A f
  pot : ∃ π, Pot A f π
  xl : xs.length = s.length
  xv : ∀ v, v < s.length → ge xs v = exc s A f v
theorem Fi.done {s : List Int} {A : List Ark} {f xs : List Int} (h : Fi s A f xs A.length) (hV : vN s A) : St s A f xs := by
  have e : f = fill A := ge_ext A.length h.fl (fill_len A) fun i hi => by
    rw [h.fv i hi, ge_fill A hi]
    by_cases e : cst A i < 0
    · rw [if_pos e, if_pos ⟨hi, e⟩]
    · rw [if_neg e, if_neg (fun h => e h.2)]
  subst e
  exact ⟨fill_fit hV, ⟨_, fill_pot A⟩, h.xl, h.xv⟩
theorem St.bd {s : List Int} {A : List Ark} {f xs : List Int} (h : St s A f xs) (hV : vN s A) {v : Nat} (hv : v < s.length) : -2148532224 ≤ ge xs v ∧ ge xs v ≤ 2148532224 := by
  have := exL_bd hV h.fit (Nat.le_refl _) hv
  rw [ge_exL hV _ _ (Nat.le_refl _)] at this
  rw [h.xv v hv]
  exact this
theorem St.sum {s : List Int} {A : List Ark} {f xs : List Int} (h : St s A f xs) (hV : vN s A) : sumN (fun v => ge xs v) s.length = 0 := by
  have h1 := pot_sum hV (fun _ => 1) (fun i => ge f i)
  have h2 : sumN (fun i => ((1 : Int) - 1) * ge f i) A.length = 0 := sumN_zero fun i _ => by simp
  rw [h2] at h1
  have h3 : sumN (fun v => ge xs v) s.length = sumN (fun v => ge s v + inF A f v A.length) s.length := sumN_congr fun v hv => h.xv v hv
  rw [h3, sumN_add, hV.z]
  have h4 : sumN (fun v => inF A f v A.length) s.length = sumN (fun v => (1 : Int) * sumN (fun i => (if vT A i = v then ge f i else 0) - (if vF A i = v then ge f i else 0)) A.length) s.length := sumN_congr fun v _ => by rw [Int.one_mul]; rfl
  rw [h4, ← h1]
  rfl
theorem St.done {s : List Int} {A : List Ark} {f xs : List Int} (h : St s A f xs) (hV : vN s A) (hn : ∀ v, v < s.length → ¬ 0 < ge xs v) : isFlow s A f ∧ ∃ π, Pot A f π := by
  refine ⟨⟨h.fit, fun v hv => ?_⟩, h.pot⟩
  have h1 := h.sum hV
  have h2 := sumN_ge (f := fun v => - ge xs v) hv (fun v hv => by have := hn v hv; omega)
  have h3 : sumN (fun v => - ge xs v) s.length = 0 := by
    have := sumN_add (fun v => ge xs v) (fun v => - ge xs v) s.length
    rw [h1, sumN_zero (fun v _ => by omega)] at this
    omega
  rw [h3] at h2
  have := hn v hv
  rw [← h.xv v hv]
  omega
/-- What is still to be sent. -/
def mp (V : Nat) (xs : List Int) : Nat := (sumN (fun v => max (ge xs v) 0) V).toNat
theorem St.none {s : List Int} {A : List Ark} {f xs : List Int} (h : St s A f xs) (hV : vN s A) {far : Int} (hno : NoWay s.length far (fun v => 0 < ge xs v) A (resL A f A.length) xs) {a : Nat} (ha : a < s.length) (ha0 : 0 < ge xs a) : Cut s A := by
  obtain ⟨d, hs, h1, h2⟩ := hno
  refine cut_of hV h.fit hs (fun v hv hd => ?_) ha (h1 a ha ha0) (by rw [← h.xv a ha]; exact ha0)
  rw [← h.xv v hv]
  by_cases e : ge xs v < 0
  · exact absurd (h2 v hv e) hd
  · omega
/-- What has been sent along a way. -/
structure Snd (s : List Int) (A : List Ark) (f xs : List Int) (P : List (Nat × Bool)) (a t : Nat) (k : Int) : Prop where
  k0 : 0 < k
  ka : k ≤ ge xs a
  kt : k ≤ - ge xs t
  kP : ∀ x ∈ P, k ≤ sR A f x.1 x.2
theorem St.send {s : List Int} {A : List Ark} {f xs : List Int} (h : St s A f xs) (hV : vN s A) {far : Int} {d : List Int} {ch : Nat → List Nat} {P : List (Nat × Bool)} {a t : Nat} {k : Int} (hs : Settled far A (resL A f A.length) d)
    (hw : Wy s.length A (resL A f A.length) far d ch P a t) (ht : t < s.length) (hk : Snd s A f xs P a t k) :
    St s A (addP f k P) ((xs.set a (ge xs a - k)).set t (ge (xs.set a (ge xs a - k)) t + k)) ∧ mp s.length ((xs.set a (ge xs a - k)).set t (ge (xs.set a (ge xs a - k)) t + k)) < mp s.length xs := by
  obtain ⟨π, hπ⟩ := h.pot
  have ha := hw.vs
  have hka := hk.ka
  have hkt := hk.kt
  have hk0 := hk.k0
  have hne : t ≠ a := fun e => by rw [e] at hkt; omega
  have hg : ∀ v, ge ((xs.set a (ge xs a - k)).set t (ge (xs.set a (ge xs a - k)) t + k)) v = if v = t then ge xs t + k else if v = a then ge xs a - k else ge xs v := fun v => by
    rw [ge_set _ (by rw [List.length_set, h.xl]; exact ht), ge_set xs (by rw [h.xl]; exact ha), ge_set xs (by rw [h.xl]; exact ha), if_neg hne]
  refine ⟨⟨fit_add h.fit hw.arcs (fun x hx => (hw.stp x hx).1) (by omega) hk.kP, pot_add hV h.fit hπ hs hw k, by rw [List.length_set, List.length_set]; exact h.xl, fun v hv => ?_⟩, ?_⟩
  · rw [hg, exc_addP s k P f a t h.fit.l (fun x hx => (mem_resL (i := x.1) (b := x.2)).1 (hw.stp x hx).1 |>.1) hw.way v, ← h.xv v hv]
    grind
  · unfold mp
    have e : ∀ v, max (ge xs v) 0 = max (ge ((xs.set a (ge xs a - k)).set t (ge (xs.set a (ge xs a - k)) t + k)) v) 0 + (if v = a then k else 0) := fun v => by
      rw [hg]
      by_cases e1 : v = t
      · subst e1; rw [if_pos rfl, if_neg hne]; omega
      · rw [if_neg e1]
        by_cases e2 : v = a
        · subst e2; rw [if_pos rfl, if_pos rfl]; omega
        · rw [if_neg e2, if_neg e2]; omega
    have e2 : sumN (fun v => max (ge xs v) 0) s.length = sumN (fun v => max (ge ((xs.set a (ge xs a - k)).set t (ge (xs.set a (ge xs a - k)) t + k)) v) 0) s.length + k := by
      rw [sumN_congr (fun v _ => e v), sumN_add]
      congr 1
      rw [sumN_one ha (fun j _ hj => if_neg hj), if_pos rfl]
    have e3 := sumN_nonneg (f := fun v => max (ge ((xs.set a (ge xs a - k)).set t (ge (xs.set a (ge xs a - k)) t + k)) v) 0) (n := s.length) (fun i _ => by omega)
    omega
theorem addP_snoc (k : Int) : ∀ (P : List (Nat × Bool)) (f : List Int) (x : Nat × Bool), addP f k (P ++ [x]) = (addP f k P).set x.1 (if x.2 then ge (addP f k P) x.1 - k else ge (addP f k P) x.1 + k)
  | [], _, _ => rfl
  | y :: P, f, x => by
    show addP _ k (P ++ [x]) = _
    rw [addP_snoc k P]
    rfl
theorem take_snoc {P : List (Nat × Bool)} {j : Nat} {x : Nat × Bool} (h : P[j]? = some x) : P.take (j + 1) = P.take j ++ [x] := by
  obtain ⟨h1, h2⟩ := List.getElem?_eq_some_iff.1 h
  rw [List.take_add_one, h]
  rfl

/-! ### ContainsFunc -/
def posB (x : Int) : Bool := decide (0 < x)
def idxF (xs : List Int) : Int → Prop := fun r => (r = -1 ∧ ∀ i, i < xs.length → ge xs i ≤ 0) ∨ ∃ k : Nat, r = (k : Int) ∧ k < xs.length ∧ 0 < ge xs k
set_option maxHeartbeats 1000000 in
theorem pos_p (c : Int) (w : World) : Calls Try.prog 29 #[.int .i64 c] w fun e w' => e = .returned (.bool (posB c)) ∧ w = w' := by
  by_cases h : 0 < c
  · have e : posB c = true := decide_eq_true h
    rw [e]
    go_enter Try.func29, Try.ntmps29
    go_wp2
    go_ret
    exact ⟨rfl, rfl⟩
  · have e : posB c = false := decide_eq_false h
    rw [e]
    go_enter Try.func29, Try.ntmps29
    go_wp2
    go_ret
    exact ⟨rfl, rfl⟩
set_option maxHeartbeats 1000000 in
theorem index_p (p : Option Addr) (n cap : Nat) (xs : List Int) (w : World) (hI : Ints w p xs) (hn : xs.length = n) :
    Calls Try.prog 33 #[.slice p n cap, .func (.func 29) #[] #[]] w fun e w' => (∃ r : Int, e = .returned (.int .i64 r) ∧ idxF xs r) ∧ w = w' := by
  subst hn
  obtain ⟨hm, _, b, o, h3, h4⟩ := hI
  go_enter Try.func33, Try.ntmps33
  go_wp2
  go_loop [5, 8] (fun _ i => ∃ k : Nat, k ≤ xs.length ∧ i = .int .i64 k ∧ ∀ j, j < k → ge xs j ≤ 0) (fun _ i => xs.length - (intOf i).toNat)
  case atStart => exact ⟨0, Nat.zero_le _, rfl, fun j hj => by omega⟩
  case round =>
    obtain ⟨k, hk, rfl, hall⟩ := hrel
    have Hall := Lib.hid hall
    clear hall
    by_cases hlt : k < xs.length
    · obtain ⟨rfl, hb⟩ := h3 (by omega)
      have hc := h4 k hlt
      clear h3 h4
      cases he : posB (ge xs k)
      · have He : Hid (ge xs k ≤ 0) := Lib.hid (by have : ¬ 0 < ge xs k := of_decide_eq_false he; omega)
        go_wp2_with ((go_at_call 29; apply Calls.mono; (with_reducible exact pos_p _ _); rintro e w' ⟨rfl, rfl⟩))
        go_round
        case rel => exact ⟨k + 1, by omega, by go_num, fun j hj => by
          by_cases h : j = k
          · rw [h]; exact He.out
          · exact Hall.out j (by omega)⟩
        case measure => simp [intOf]; omega
      · have He : Hid (0 < ge xs k) := Lib.hid (of_decide_eq_true he)
        go_wp2_with ((go_at_call 29; apply Calls.mono; (with_reducible exact pos_p _ _); rintro e w' ⟨rfl, rfl⟩))
        go_ret
        exact ⟨⟨k, rfl, Or.inr ⟨k, rfl, hlt, He.out⟩⟩, rfl⟩
    · have Hf : Hid (∀ i, i < xs.length → ge xs i ≤ 0) := Lib.hid (fun i hi => Hall.out i (by omega))
      go_wp2
      go_ret
      exact ⟨⟨-1, rfl, Or.inl ⟨rfl, Hf.out⟩⟩, rfl⟩
set_option maxHeartbeats 1000000 in
theorem contains_p (p : Option Addr) (n cap : Nat) (xs : List Int) (w : World) (hI : Ints w p xs) (hn : xs.length = n) :
    Calls Try.prog 28 #[.slice p n cap, .func (.func 29) #[] #[]] w fun e w' => (∃ r : Bool, e = .returned (.bool r) ∧ ((r = false ∧ ∀ i, i < xs.length → ge xs i ≤ 0) ∨ (r = true ∧ ∃ k : Nat, k < xs.length ∧ 0 < ge xs k))) ∧ w = w' := by
  go_enter Try.func28, Try.ntmps28
  go_wp2_with (go_at_call 33; apply Calls.mono; (with_reducible exact index_p _ _ _ _ _ hI hn); rintro e w' ⟨⟨r, rfl, hr⟩, rfl⟩)
  rcases hr with ⟨rfl, h⟩ | ⟨k, rfl, h1, h2⟩
  · have H := Lib.hid h
    clear h
    go_wp2
    go_ret
    exact ⟨⟨false, rfl, Or.inl ⟨rfl, H.out⟩⟩, rfl⟩
  · have hk : (0 : Int) ≤ k := Int.natCast_nonneg k
    have H := Lib.hid h2
    clear h2
    go_wp2
    go_ret
    exact ⟨⟨true, rfl, Or.inr ⟨rfl, k, h1, H.out⟩⟩, rfl⟩
end Go.Proofs.Ytnnlhmialmhpfaa
