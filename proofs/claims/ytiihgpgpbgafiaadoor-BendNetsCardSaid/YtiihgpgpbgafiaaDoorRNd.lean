/- Joined by a program from the texts FlT FlV FlW FlU FlX FlY BenA BenB BenC BenM BenE BenD BenF. -/
import Derived.Test.YtiihgpgpbgafiaaDoorRNc
import Derived.Deep.DeepCutAuto
import Derived.Deep.RegionHeldLaw
set_option linter.unusedSimpArgs false
set_option linter.unusedVariables false
/- The state of Solve, plain; IndexFunc and ContainsFunc. -/
set_option linter.unusedSimpArgs false
set_option linter.unusedVariables false
namespace Go.Proofs.YtiihgpgpbgafiaaDoor.Fl
open Go.RowKit
attribute [local go_sem ↓] Go.wp_at_zero Go.wp_at_succ

theorem ge_ext {xs ys : List Int} (n : Nat) (h1 : xs.length = n) (h2 : ys.length = n) (h : ∀ t, t < n → ge xs t = ge ys t) : xs = ys := by
  refine List.ext_getElem (by omega) fun t ht1 ht2 => ?_
  have := h t (by omega)
  rwa [ge_eq xs ht1, ge_eq ys ht2] at this
/-! ### Cuts -/
/-- A set of vertices whose supply cannot leave it. -/
def Cut (s : List Int) (A : List Ark) : Prop := ∃ R : Nat → Bool, sumN (fun i => if R (vF A i) = true ∧ R (vT A i) = false then cap A i else 0) A.length < sumN (fun v => if R v = true then ge s v else 0) s.length
theorem cut_key {s : List Int} {A : List Ark} (hV : vN s A) (R : Nat → Bool) (x : List Int) : sumN (fun v => if R v = true then exc s A x v else 0) s.length =
    sumN (fun v => if R v = true then ge s v else 0) s.length + sumN (fun i => ((if R (vT A i) = true then 1 else 0) - (if R (vF A i) = true then 1 else 0)) * ge x i) A.length := by
  rw [pot_sum hV (fun v => if R v = true then 1 else 0), ← sumN_add]
  refine sumN_congr fun v _ => ?_
  unfold exc inF
  split
  · rw [Int.one_mul]
  · rw [Int.zero_mul]; rfl
theorem Cut.no {s : List Int} {A : List Ark} (h : Cut s A) (hV : vN s A) : ∀ g, ¬ isFlow s A g := by
  intro g hg
  obtain ⟨R, hR⟩ := h
  have h1 := cut_key hV R g
  have h2 : sumN (fun v => if R v = true then exc s A g v else 0) s.length = 0 := sumN_zero fun v hv => by
    split
    · exact hg.2 v hv
    · rfl
  have h3 : sumN (fun i => - (if R (vF A i) = true ∧ R (vT A i) = false then cap A i else 0)) A.length ≤ sumN (fun i => ((if R (vT A i) = true then 1 else 0) - (if R (vF A i) = true then 1 else 0)) * ge g i) A.length := sumN_le fun i hi => by
    have b := hg.1.b i hi
    cases R (vF A i) <;> cases R (vT A i) <;> simp <;> omega
  have h4 := sumN_add (fun i => - (if R (vF A i) = true ∧ R (vT A i) = false then cap A i else 0)) (fun i => if R (vF A i) = true ∧ R (vT A i) = false then cap A i else 0) A.length
  rw [sumN_zero (fun i _ => by omega)] at h4
  omega
theorem cut_of {s : List Int} {A : List Ark} (hV : vN s A) {f : List Int} (hf : Fit A f) {far : Int} {d : List Int} (hs : Settled far A (resL A f A.length) d) (hpos : ∀ v, v < s.length → ge d v ≠ far → 0 ≤ exc s A f v)
    {a : Nat} (ha : a < s.length) (haf : ge d a ≠ far) (ha0 : 0 < exc s A f a) : Cut s A := by
  refine ⟨fun v => decide (ge d v ≠ far), ?_⟩
  have h1 := cut_key hV (fun v => decide (ge d v ≠ far)) f
  have h2 : 0 < sumN (fun v => if decide (ge d v ≠ far) = true then exc s A f v else 0) s.length := by
    have := sumN_ge (f := fun v => if decide (ge d v ≠ far) = true then exc s A f v else 0) ha (fun v hv => by
      show 0 ≤ if decide (ge d v ≠ far) = true then exc s A f v else 0
      split
      · rename_i h; exact hpos v hv (of_decide_eq_true h)
      · exact Int.le_refl _)
    simp only [decide_eq_true haf, if_true] at this
    omega
  have h3 : sumN (fun i => ((if decide (ge d (vT A i) ≠ far) = true then 1 else 0) - (if decide (ge d (vF A i) ≠ far) = true then 1 else 0)) * ge f i) A.length = sumN (fun i => - (if decide (ge d (vF A i) ≠ far) = true ∧ decide (ge d (vT A i) ≠ far) = false then cap A i else 0)) A.length := sumN_congr fun i hi => by
    have b := hf.b i hi
    by_cases eF : ge d (vF A i) = far
    · by_cases eT : ge d (vT A i) = far
      · simp [eF, eT]
      · have : ¬ 0 < ge f i := fun e => by
          obtain ⟨t', ht'⟩ := List.getElem?_of_mem ((mem_resL (A := A) (f := f) (i := i) (b := true) (k := A.length)).2 ⟨hi, e⟩)
          rcases hs t' i true ht' with g1 | ⟨g1, _⟩
          · exact eT g1
          · exact g1 eF
        simp [eF, eT]
        omega
    · by_cases eT : ge d (vT A i) = far
      · have : ¬ ge f i < cap A i := fun e => by
          obtain ⟨t', ht'⟩ := List.getElem?_of_mem ((mem_resL (A := A) (f := f) (i := i) (b := false) (k := A.length)).2 ⟨hi, by simp [sR]; omega⟩)
          rcases hs t' i false ht' with g1 | ⟨g1, _⟩
          · exact eF g1
          · exact g1 eT
        simp [eF, eT]
        omega
      · simp [eF, eT]
  have h4 := sumN_add (fun i => - (if decide (ge d (vF A i) ≠ far) = true ∧ decide (ge d (vT A i) ≠ far) = false then cap A i else 0)) (fun i => if decide (ge d (vF A i) ≠ far) = true ∧ decide (ge d (vT A i) ≠ far) = false then cap A i else 0) A.length
  rw [sumN_zero (fun i _ => by omega)] at h4
  dsimp only at h1 ⊢
  omega
/-! ### The arcs with negative costs are filled -/
def fill (A : List Ark) : List Int := (List.range A.length).map fun i => if cst A i < 0 then cap A i else 0
theorem fill_len (A : List Ark) : (fill A).length = A.length := by simp [fill]
theorem ge_fill (A : List Ark) {i : Nat} (h : i < A.length) : ge (fill A) i = if cst A i < 0 then cap A i else 0 := by
  rw [ge_eq _ (by rw [fill_len]; exact h)]
  simp [fill]
theorem fill_fit {s : List Int} {A : List Ark} (hV : vN s A) : Fit A (fill A) := by
  refine ⟨fill_len A, fun i hi => ?_⟩
  have := (hV.a i hi).2.2.1
  rw [ge_fill A hi]
  split <;> omega
theorem fill_pot (A : List Ark) : Pot A (fill A) (fun _ => 0) := by
  intro i b ⟨hi, hr⟩
  unfold sR at hr
  rw [ge_fill A hi] at hr
  unfold sC
  cases b
  · simp only [Bool.false_eq_true, if_false] at hr ⊢
    split at hr <;> omega
  · simp only [if_true] at hr ⊢
    split at hr <;> omega
structure Fi (s : List Int) (A : List Ark) (f xs : List Int) (j : Nat) : Prop where
  fl : f.length = A.length
  fv : ∀ i, i < A.length → ge f i = if i < j ∧ cst A i < 0 then cap A i else 0
  xl : xs.length = s.length
  xv : ∀ v, v < s.length → ge xs v = ge s v + inF A (fill A) v j
theorem Fi.begin (s : List Int) (A : List Ark) : Fi s A (List.replicate A.length 0) s 0 :=
  ⟨by simp, fun i hi => by rw [if_neg (by omega), ge_eq _ (by simpa using hi)]; simp, rfl, fun v _ => by simp [inF, sumN]⟩
theorem Fi.bd {s : List Int} {A : List Ark} {f xs : List Int} {j : Nat} (h : Fi s A f xs j) (hV : vN s A) (hj : j ≤ A.length) {v : Nat} (hv : v < s.length) : -2148532224 ≤ ge xs v ∧ ge xs v ≤ 2148532224 := by
  have := exL_bd hV (fill_fit hV) hj hv
  rw [ge_exL hV _ j hj] at this
  rw [h.xv v hv]
  exact this
theorem Fi.non {s : List Int} {A : List Ark} {f xs : List Int} {j : Nat} (h : Fi s A f xs j) (hj : j < A.length) (hc : ¬ cst A j < 0) : Fi s A f xs (j + 1) := by
  refine ⟨h.fl, fun i hi => ?_, h.xl, fun v hv => ?_⟩
  · rw [h.fv i hi]
    by_cases e : i = j
    · subst e; rw [if_neg (by omega), if_neg (by omega)]
    · by_cases e2 : i < j ∧ cst A i < 0
      · rw [if_pos e2, if_pos (by omega)]
      · rw [if_neg e2, if_neg (by omega)]
  · have e : inF A (fill A) v (j + 1) = inF A (fill A) v j + ((if vT A j = v then ge (fill A) j else 0) - (if vF A j = v then ge (fill A) j else 0)) := rfl
    rw [h.xv v hv, e, ge_fill A hj, if_neg hc]
    split <;> split <;> omega
theorem Fi.neg {s : List Int} {A : List Ark} {f xs : List Int} {j : Nat} (h : Fi s A f xs j) (hV : vN s A) (hj : j < A.length) (hc : cst A j < 0) :
    Fi s A (f.set j (cap A j)) ((xs.set (vF A j) (ge xs (vF A j) - cap A j)).set (vT A j) (ge (xs.set (vF A j) (ge xs (vF A j) - cap A j)) (vT A j) + cap A j)) (j + 1) := by
  refine ⟨by rw [List.length_set]; exact h.fl, fun i hi => ?_, by rw [List.length_set, List.length_set]; exact h.xl, fun v hv => ?_⟩
  · rw [ge_set f (by rw [h.fl]; exact hj)]
    by_cases e : i = j
    · subst e; rw [if_pos rfl, if_pos (by omega)]
    · rw [if_neg e, h.fv i hi]
      by_cases e2 : i < j ∧ cst A i < 0
      · rw [if_pos e2, if_pos (by omega)]
      · rw [if_neg e2, if_neg (by omega)]
  · have e : inF A (fill A) v (j + 1) = inF A (fill A) v j + ((if vT A j = v then ge (fill A) j else 0) - (if vF A j = v then ge (fill A) j else 0)) := rfl
    have h1 := hV.vF hj
    have h2 := hV.vT hj
    rw [ge_set _ (by rw [List.length_set, h.xl]; exact h2), ge_set xs (by rw [h.xl]; exact h1), ge_set xs (by rw [h.xl]; exact h1), e, ge_fill A hj, if_pos hc]
    have x1 := h.xv v hv
    have x2 := h.xv _ h1
    have x3 := h.xv _ h2
    grind
/-! ### The state -/
structure St (s : List Int) (A : List Ark) (f xs : List Int) : Prop where
  fit : Fit A f
  pot : ∃ π, Pot A f π
  xl : xs.length = s.length
  xv : ∀ v, v < s.length → ge xs v = exc s A f v
theorem Fi.done {s : List Int} {A : List Ark} {f xs : List Int} (h : Fi s A f xs A.length) (hV : vN s A) : St s A f xs := by
  have e : f = fill A := ge_ext A.length h.fl (fill_len A) fun i hi => by
    rw [h.fv i hi, ge_fill A hi]
    by_cases e : cst A i < 0
    · rw [if_pos e, if_pos ⟨hi, e⟩]
    · rw [if_neg e, if_neg (fun h => e h.2)]
  subst e
  exact ⟨fill_fit hV, ⟨_, fill_pot A⟩, h.xl, h.xv⟩
theorem St.bd {s : List Int} {A : List Ark} {f xs : List Int} (h : St s A f xs) (hV : vN s A) {v : Nat} (hv : v < s.length) : -2148532224 ≤ ge xs v ∧ ge xs v ≤ 2148532224 := by
  have := exL_bd hV h.fit (Nat.le_refl _) hv
  rw [ge_exL hV _ _ (Nat.le_refl _)] at this
  rw [h.xv v hv]
  exact this
theorem St.sum {s : List Int} {A : List Ark} {f xs : List Int} (h : St s A f xs) (hV : vN s A) : sumN (fun v => ge xs v) s.length = 0 := by
  have h1 := pot_sum hV (fun _ => 1) (fun i => ge f i)
  have h2 : sumN (fun i => ((1 : Int) - 1) * ge f i) A.length = 0 := sumN_zero fun i _ => by simp
  rw [h2] at h1
  have h3 : sumN (fun v => ge xs v) s.length = sumN (fun v => ge s v + inF A f v A.length) s.length := sumN_congr fun v hv => h.xv v hv
  rw [h3, sumN_add, hV.z]
  have h4 : sumN (fun v => inF A f v A.length) s.length = sumN (fun v => (1 : Int) * sumN (fun i => (if vT A i = v then ge f i else 0) - (if vF A i = v then ge f i else 0)) A.length) s.length := sumN_congr fun v _ => by rw [Int.one_mul]; rfl
  rw [h4, ← h1]
  rfl
theorem St.done {s : List Int} {A : List Ark} {f xs : List Int} (h : St s A f xs) (hV : vN s A) (hn : ∀ v, v < s.length → ¬ 0 < ge xs v) : isFlow s A f ∧ ∃ π, Pot A f π := by
  refine ⟨⟨h.fit, fun v hv => ?_⟩, h.pot⟩
  have h1 := h.sum hV
  have h2 := sumN_ge (f := fun v => - ge xs v) hv (fun v hv => by have := hn v hv; omega)
  have h3 : sumN (fun v => - ge xs v) s.length = 0 := by
    have := sumN_add (fun v => ge xs v) (fun v => - ge xs v) s.length
    rw [h1, sumN_zero (fun v _ => by omega)] at this
    omega
  rw [h3] at h2
  have := hn v hv
  rw [← h.xv v hv]
  omega
/-- What is still to be sent. -/
def mp (V : Nat) (xs : List Int) : Nat := (sumN (fun v => max (ge xs v) 0) V).toNat
theorem St.none {s : List Int} {A : List Ark} {f xs : List Int} (h : St s A f xs) (hV : vN s A) {far : Int} (hno : NoWay s.length far (fun v => 0 < ge xs v) A (resL A f A.length) xs) {a : Nat} (ha : a < s.length) (ha0 : 0 < ge xs a) : Cut s A := by
  obtain ⟨d, hs, h1, h2⟩ := hno
  refine cut_of hV h.fit hs (fun v hv hd => ?_) ha (h1 a ha ha0) (by rw [← h.xv a ha]; exact ha0)
  rw [← h.xv v hv]
  by_cases e : ge xs v < 0
  · exact absurd (h2 v hv e) hd
  · omega
/-- What has been sent along a way. -/
structure Snd (s : List Int) (A : List Ark) (f xs : List Int) (P : List (Nat × Bool)) (a t : Nat) (k : Int) : Prop where
  k0 : 0 < k
  ka : k ≤ ge xs a
  kt : k ≤ - ge xs t
  kP : ∀ x ∈ P, k ≤ sR A f x.1 x.2
theorem St.send {s : List Int} {A : List Ark} {f xs : List Int} (h : St s A f xs) (hV : vN s A) {far : Int} {d : List Int} {ch : Nat → List Nat} {P : List (Nat × Bool)} {a t : Nat} {k : Int} (hs : Settled far A (resL A f A.length) d)
    (hw : Wy s.length A (resL A f A.length) far d ch P a t) (ht : t < s.length) (hk : Snd s A f xs P a t k) :
    St s A (addP f k P) ((xs.set a (ge xs a - k)).set t (ge (xs.set a (ge xs a - k)) t + k)) ∧ mp s.length ((xs.set a (ge xs a - k)).set t (ge (xs.set a (ge xs a - k)) t + k)) < mp s.length xs := by
  obtain ⟨π, hπ⟩ := h.pot
  have ha := hw.vs
  have hka := hk.ka
  have hkt := hk.kt
  have hk0 := hk.k0
  have hne : t ≠ a := fun e => by rw [e] at hkt; omega
  have hg : ∀ v, ge ((xs.set a (ge xs a - k)).set t (ge (xs.set a (ge xs a - k)) t + k)) v = if v = t then ge xs t + k else if v = a then ge xs a - k else ge xs v := fun v => by
    rw [ge_set _ (by rw [List.length_set, h.xl]; exact ht), ge_set xs (by rw [h.xl]; exact ha), ge_set xs (by rw [h.xl]; exact ha), if_neg hne]
  refine ⟨⟨fit_add h.fit hw.arcs (fun x hx => (hw.stp x hx).1) (by omega) hk.kP, pot_add hV h.fit hπ hs hw k, by rw [List.length_set, List.length_set]; exact h.xl, fun v hv => ?_⟩, ?_⟩
  · rw [hg, exc_addP s k P f a t h.fit.l (fun x hx => (mem_resL (i := x.1) (b := x.2)).1 (hw.stp x hx).1 |>.1) hw.way v, ← h.xv v hv]
    grind
  · unfold mp
    have e : ∀ v, max (ge xs v) 0 = max (ge ((xs.set a (ge xs a - k)).set t (ge (xs.set a (ge xs a - k)) t + k)) v) 0 + (if v = a then k else 0) := fun v => by
      rw [hg]
      by_cases e1 : v = t
      · subst e1; rw [if_pos rfl, if_neg hne]; omega
      · rw [if_neg e1]
        by_cases e2 : v = a
        · subst e2; rw [if_pos rfl, if_pos rfl]; omega
        · rw [if_neg e2, if_neg e2]; omega
    have e2 : sumN (fun v => max (ge xs v) 0) s.length = sumN (fun v => max (ge ((xs.set a (ge xs a - k)).set t (ge (xs.set a (ge xs a - k)) t + k)) v) 0) s.length + k := by
      rw [sumN_congr (fun v _ => e v), sumN_add]
      congr 1
      rw [sumN_one ha (fun j _ hj => if_neg hj), if_pos rfl]
    have e3 := sumN_nonneg (f := fun v => max (ge ((xs.set a (ge xs a - k)).set t (ge (xs.set a (ge xs a - k)) t + k)) v) 0) (n := s.length) (fun i _ => by omega)
    omega
theorem addP_snoc (k : Int) : ∀ (P : List (Nat × Bool)) (f : List Int) (x : Nat × Bool), addP f k (P ++ [x]) = (addP f k P).set x.1 (if x.2 then ge (addP f k P) x.1 - k else ge (addP f k P) x.1 + k)
  | [], _, _ => rfl
  | y :: P, f, x => by
    show addP _ k (P ++ [x]) = _
    rw [addP_snoc k P]
    rfl
theorem take_snoc {P : List (Nat × Bool)} {j : Nat} {x : Nat × Bool} (h : P[j]? = some x) : P.take (j + 1) = P.take j ++ [x] := by
  obtain ⟨h1, h2⟩ := List.getElem?_eq_some_iff.1 h
  rw [List.take_add_one, h]
  rfl

/-! ### ContainsFunc -/
def posB (x : Int) : Bool := decide (0 < x)
def idxF (xs : List Int) : Int → Prop := fun r => (r = -1 ∧ ∀ i, i < xs.length → ge xs i ≤ 0) ∨ ∃ k : Nat, r = (k : Int) ∧ k < xs.length ∧ 0 < ge xs k
set_option maxHeartbeats 1000000 in
theorem pos_p (c : Int) (w : World) : Calls Tryd.prog 83 #[.int .i64 c] w fun e w' => e = .returned (.bool (posB c)) ∧ w = w' := by
  by_cases h : 0 < c
  · have e : posB c = true := decide_eq_true h
    rw [e]
    go_enter Tryd.func83, Tryd.ntmps83
    go_wp2
    go_ret
    exact ⟨rfl, rfl⟩
  · have e : posB c = false := decide_eq_false h
    rw [e]
    go_enter Tryd.func83, Tryd.ntmps83
    go_wp2
    go_ret
    exact ⟨rfl, rfl⟩
set_option maxHeartbeats 1000000 in
theorem index_p (p : Option Addr) (n cap : Nat) (xs : List Int) (w : World) (hI : Ints w p xs) (hn : xs.length = n) :
    Calls Tryd.prog 90 #[.slice p n cap, .func (.func 83) #[] #[]] w fun e w' => (∃ r : Int, e = .returned (.int .i64 r) ∧ idxF xs r) ∧ w = w' := by
  subst hn
  obtain ⟨hm, _, b, o, h3, h4⟩ := hI
  go_enter Tryd.func90, Tryd.ntmps90
  go_wp2
  go_loop [5, 8] (fun _ i => ∃ k : Nat, k ≤ xs.length ∧ i = .int .i64 k ∧ ∀ j, j < k → ge xs j ≤ 0) (fun _ i => xs.length - (intOf i).toNat)
  case atStart => exact ⟨0, Nat.zero_le _, rfl, fun j hj => by omega⟩
  case round =>
    obtain ⟨k, hk, rfl, hall⟩ := hrel
    have Hall := Lib.hid hall
    clear hall
    by_cases hlt : k < xs.length
    · obtain ⟨rfl, hb⟩ := h3 (by omega)
      have hc := h4 k hlt
      clear h3 h4
      cases he : posB (ge xs k)
      · have He : Hid (ge xs k ≤ 0) := Lib.hid (by have : ¬ 0 < ge xs k := of_decide_eq_false he; omega)
        go_wp2_with ((go_at_call 83; apply Calls.mono; (with_reducible exact pos_p _ _); rintro e w' ⟨rfl, rfl⟩))
        go_round
        case rel => exact ⟨k + 1, by omega, by go_num, fun j hj => by
          by_cases h : j = k
          · rw [h]; exact He.out
          · exact Hall.out j (by omega)⟩
        case measure => simp [intOf]; omega
      · have He : Hid (0 < ge xs k) := Lib.hid (of_decide_eq_true he)
        go_wp2_with ((go_at_call 83; apply Calls.mono; (with_reducible exact pos_p _ _); rintro e w' ⟨rfl, rfl⟩))
        go_ret
        exact ⟨⟨k, rfl, Or.inr ⟨k, rfl, hlt, He.out⟩⟩, rfl⟩
    · have Hf : Hid (∀ i, i < xs.length → ge xs i ≤ 0) := Lib.hid (fun i hi => Hall.out i (by omega))
      go_wp2
      go_ret
      exact ⟨⟨-1, rfl, Or.inl ⟨rfl, Hf.out⟩⟩, rfl⟩
set_option maxHeartbeats 1000000 in
theorem contains_p (p : Option Addr) (n cap : Nat) (xs : List Int) (w : World) (hI : Ints w p xs) (hn : xs.length = n) :
    Calls Tryd.prog 82 #[.slice p n cap, .func (.func 83) #[] #[]] w fun e w' => (∃ r : Bool, e = .returned (.bool r) ∧ ((r = false ∧ ∀ i, i < xs.length → ge xs i ≤ 0) ∨ (r = true ∧ ∃ k : Nat, k < xs.length ∧ 0 < ge xs k))) ∧ w = w' := by
  go_enter Tryd.func82, Tryd.ntmps82
  go_wp2_with (go_at_call 90; apply Calls.mono; (with_reducible exact index_p _ _ _ _ _ hI hn); rintro e w' ⟨⟨r, rfl, hr⟩, rfl⟩)
  rcases hr with ⟨rfl, h⟩ | ⟨k, rfl, h1, h2⟩
  · have H := Lib.hid h
    clear h
    go_wp2
    go_ret
    exact ⟨⟨false, rfl, Or.inl ⟨rfl, H.out⟩⟩, rfl⟩
  · have hk : (0 : Int) ≤ k := Int.natCast_nonneg k
    have H := Lib.hid h2
    clear h2
    go_wp2
    go_ret
    exact ⟨⟨true, rfl, Or.inr ⟨rfl, k, h1, H.out⟩⟩, rfl⟩
end Go.Proofs.YtiihgpgpbgafiaaDoor.Fl

/- The search of the reference. -/
set_option linter.unusedSimpArgs false
set_option linter.unusedVariables false
namespace Go.Proofs.YtiihgpgpbgafiaaDoor.Fl
open Go.RowKit
attribute [local go_sem ↓] Go.wp_at_zero Go.wp_at_succ

abbrev farR : Int := 1125899906842624
/-- The loop that begins the search. -/
structure Dr (V : Nat) (d pr : List Int) (v : Nat) : Prop where
  dl : d.length = V
  pl : pr.length = V
  dv : ∀ u, u < V → u < v → ge d u = farR
  pv : ∀ u, u < V → u < v → ge pr u = -1
theorem Dr.begin (V : Nat) : Dr V (List.replicate V 0) (List.replicate V 0) 0 :=
  ⟨by simp, by simp, fun u _ h => by omega, fun u _ h => by omega⟩
theorem Dr.next {V : Nat} {d pr : List Int} {v : Nat} (h : Dr V d pr v) (hv : v < V) : Dr V (d.set v farR) (pr.set v (-1)) (v + 1) := by
  refine ⟨by rw [List.length_set]; exact h.dl, by rw [List.length_set]; exact h.pl, fun u hu huv => ?_, fun u hu huv => ?_⟩
  · rw [ge_set d (by rw [h.dl]; exact hv)]
    split
    · rfl
    · exact h.dv u hu (by omega)
  · rw [ge_set pr (by rw [h.pl]; exact hv)]
    split
    · rfl
    · exact h.pv u hu (by omega)
theorem Dr.done {V : Nat} {d pr : List Int} (h : Dr V d pr V) {a : Nat} (ha : a < V) (A : List Ark) (L : List (Nat × Bool)) (π : Nat → Int) : ∃ ch, Se V farR (fun v => v = a) A L π (d.set a 0) pr ch :=
  ⟨_, Se.begin (by decide) (by rw [List.length_set]; exact h.dl) h.pl (fun v hv => ⟨fun hs => by rw [ge_set d (by rw [h.dl]; exact ha), if_pos hs], fun hs => by rw [ge_set d (by rw [h.dl]; exact ha), if_neg hs]; exact h.dv v hv hv⟩) (fun v hv => h.pv v hv hv)⟩

end Go.Proofs.YtiihgpgpbgafiaaDoor.Fl

/- The way back of the reference, plain; sums of excesses behind an augmentation. -/
set_option linter.unusedSimpArgs false
set_option linter.unusedVariables false
namespace Go.Proofs.YtiihgpgpbgafiaaDoor.Fl
open Go.RowKit

/-- The vertex ahead of step r of a way to t. -/
def vx (A : List Ark) (P : List (Nat × Bool)) (t r : Nat) : Nat := match P[r]? with
  | some x => sF A x.1 x.2
  | none => t
theorem vx_cons (A : List Ark) (x : Nat × Bool) (P : List (Nat × Bool)) (t r : Nat) : vx A (x :: P) t (r + 1) = vx A P t r := rfl
theorem vx_zero {A : List Ark} : ∀ {P : List (Nat × Bool)} {a t : Nat}, Way A P a t → vx A P t 0 = a
  | [], a, t, h => by have : a = t := h; rw [this]; rfl
  | x :: P, a, t, h => h.1
theorem vx_next {A : List Ark} : ∀ {P : List (Nat × Bool)} {a t r i : Nat} {b : Bool}, Way A P a t → P[r]? = some (i, b) → vx A P t (r + 1) = sT A i b
  | [], _, _, _, _, _, _, h => by simp at h
  | x :: P, a, t, 0, i, b, hw, h => by
    simp at h
    subst h
    rw [vx_cons]
    exact vx_zero hw.2
  | x :: P, a, t, r + 1, i, b, hw, h => by
    rw [vx_cons]
    exact vx_next hw.2 (by simpa using h)
/-- The way that the labels' last steps tell. -/
structure Tr (V : Nat) (A : List Ark) (L : List (Nat × Bool)) (far : Int) (d pr : List Int) (ch : Nat → List Nat) (a : Nat) (P : List (Nat × Bool)) (v t : Nat) : Prop where
  wy : Wy V A L far d ch P v t
  st : ∀ r i b, P[r]? = some (i, b) → ∃ j : Nat, ge pr (vx A P t (r + 1)) = (j : Int) ∧ L[j]? = some (i, b)
  ne : ∀ r, 0 < r → r ≤ P.length → vx A P t r ≠ a
theorem Tr.lt {V : Nat} {A : List Ark} {L : List (Nat × Bool)} {far : Int} {d pr : List Int} {ch : Nat → List Nat} {a : Nat} {P : List (Nat × Bool)} {v t : Nat} (h : Tr V A L far d pr ch a P v t) {r : Nat} (hr : r ≤ P.length) : vx A P t r < V := by
  cases r with
  | zero => rw [vx_zero h.wy.way]; exact h.wy.vs
  | succ r =>
    obtain ⟨⟨i, b⟩, hx⟩ : ∃ x, P[r]? = some x := ⟨_, List.getElem?_eq_getElem (by omega)⟩
    rw [vx_next h.wy.way hx]
    exact h.wy.vP (i, b) (List.mem_of_getElem? hx)
/-! ### The steps in the opposite order -/
/-! ### The excesses of the reference -/
theorem St.ex {s : List Int} {A : List Ark} {f xs : List Int} (h : St s A f xs) (hV : vN s A) : exL s A f A.length = xs := by
  refine ge_ext s.length (exL_length _ _ _ _) h.xl fun v hv => ?_
  rw [ge_exL hV f _ (Nat.le_refl _), h.xv v hv]
  rfl
end Go.Proofs.YtiihgpgpbgafiaaDoor.Fl

/- Solve of the program. -/
set_option linter.unusedSimpArgs false
set_option linter.unusedVariables false
namespace Go.Proofs.YtiihgpgpbgafiaaDoor.Fl
open Go.RowKit
attribute [local go_sem ↓] Go.wp_at_zero Go.wp_at_succ

abbrev lR (v : Value) (n : Nat) (xs : List Int) : Row := ⟨v, 3, 1, n, intVs xs⟩
theorem ints_mem {xs : List Int} {n : Nat} {lo hi : Int} (hl : xs.length = n) (h : ∀ v, v < n → lo ≤ ge xs v ∧ ge xs v ≤ hi) (h1 : -9223372036854775808 ≤ lo) (h2 : hi ≤ 9223372036854775807) : ∀ x ∈ xs, -9223372036854775808 ≤ x ∧ x ≤ 9223372036854775807 := by
  intro x hx
  obtain ⟨i, hi', rfl⟩ := List.mem_iff_getElem.1 hx
  have := h i (by omega)
  rw [ge_eq xs hi'] at this
  omega
theorem own_intsG {w : World} {B : Nat} {rs : List Row} {k n c : Nat} {pl : Option Addr} {xs : List Int} (h : Owns w B rs) (hk : rs[k]? = some (lR (.slice pl n c) n xs)) (hl : xs.length = n)
    (hm : n ≤ 100000) (hw : ∀ x ∈ xs, -9223372036854775808 ≤ x ∧ x ≤ 9223372036854775807) : Ints w pl xs := by
  rcases (h.get hk).2 with ⟨g1, g2⟩ | ⟨g, cap, g1, g2, g3, g4, g5, g6, g7⟩
  · have : xs = [] := List.eq_nil_of_length_eq_zero (by omega)
    subst this
    exact Ints.nil _ _
  · simp only [Value.slice.injEq, true_and] at g1
    obtain ⟨rfl, _⟩ := g1
    refine ⟨by omega, hw, g, 0, fun _ => ⟨rfl, g3⟩, fun i hi => ?_⟩
    rw [Nat.zero_add]
    exact g7 i _ (intVs_get xs hi)
theorem own_some {w : World} {B : Nat} {rs : List Row} {k n c : Nat} {pl : Option Addr} {xs : List Int} (h : Owns w B rs) (hk : rs[k]? = some (lR (.slice pl n c) n xs)) (h0 : 0 < n) : ∃ g, pl = some ⟨g, 0, none⟩ ∧ B ≤ g ∧ g < w.heap.size := by
  obtain ⟨g, c', h1, h2, h3, _⟩ := h.some hk h0
  simp only [Value.slice.injEq] at h1
  exact ⟨g, h1.1, h2, h3⟩

theorem own_blk6g {w : World} {B : Nat} {rs : List Row} {k g n cap : Nat} {A : List Ark} {f : List Int} {L : List (Nat × Bool)} (h : Owns w B rs) (hk : rs[k]? = some (stRn g n cap A f L)) :
    g < w.heap.size ∧ ∀ i u, (stVs A f L)[i]? = some u → w.cell? ⟨g, i, none⟩ = some u := by
  obtain ⟨h1, h2⟩ := h.get hk
  rcases h2 with ⟨h2, _⟩ | ⟨g', cap', hv, h3, h4, _, _, h5, h6⟩
  · cases h2
  · have hg : g' = g := by
      simp only [Value.slice.injEq, Option.some.injEq, Addr.mk.injEq] at hv
      exact hv.1.1.symm
    subst hg
    exact ⟨h4, h6⟩
theorem own_step6 {w : World} {B : Nat} {rs : List Row} {k g n cap : Nat} {A : List Ark} {f : List Int} {L : List (Nat × Bool)} (h : Owns w B rs) (hk : rs[k]? = some (stRn g n cap A f L)) {t i : Nat} {b : Bool} (ht : L[t]? = some (i, b)) :
    w.cell? ⟨g, t * 6, none⟩ = some (.int .i64 (sF A i b : Int)) ∧ w.cell? ⟨g, t * 6 + 1, none⟩ = some (.int .i64 (sT A i b : Int)) ∧ w.cell? ⟨g, t * 6 + 2, none⟩ = some (.int .i64 (cst A i)) ∧ w.cell? ⟨g, t * 6 + 3, none⟩ = some (.int .i64 (sR A f i b)) ∧
      w.cell? ⟨g, t * 6 + 4, none⟩ = some (.int .i64 (i : Int)) ∧ w.cell? ⟨g, t * 6 + 5, none⟩ = some (.bool b) := by
  obtain ⟨_, h6⟩ := own_blk6g h hk
  have key : ∀ j x, j < 6 → (st1 A f i b)[j]? = some x → w.cell? ⟨g, t * 6 + j, none⟩ = some x := fun j x hj hx => h6 (t * 6 + j) x (by rw [stVs_get A f ht j hj]; exact hx)
  exact ⟨key 0 _ (by omega) rfl, key 1 _ (by omega) rfl, key 2 _ (by omega) rfl, key 3 _ (by omega) rfl, key 4 _ (by omega) rfl, key 5 _ (by omega) rfl⟩
theorem way_head {A : List Ark} {P : List (Nat × Bool)} {a t : Nat} (h : Way A P a t) (h0 : 0 < P.length) : ∃ i b, P[0]? = some (i, b) ∧ sF A i b = a := by
  cases P with
  | nil => simp at h0
  | cons x P => exact ⟨x.1, x.2, rfl, h.1⟩
theorem way_last {A : List Ark} : ∀ {P : List (Nat × Bool)} {a t np : Nat}, Way A P a t → P.length = np + 1 → ∃ i b, P[np]? = some (i, b) ∧ sT A i b = t
  | [], _, _, _, _, h0 => by simp at h0
  | [x], a, t, np, h, h0 => by
    have : np = 0 := by simpa using h0.symm
    subst this
    exact ⟨x.1, x.2, rfl, h.2⟩
  | x :: y :: P, a, t, np, h, h0 => by
    cases np with
    | zero => simp at h0
    | succ np =>
      obtain ⟨i, b, h1, h2⟩ := way_last (np := np) h.2 (by simpa using h0)
      exact ⟨i, b, by simpa using h1, h2⟩
theorem addP_bd {s : List Int} {A : List Ark} (hV : vN s A) {f : List Int} (hf : Fit A f) {P : List (Nat × Bool)} (hp : P.Pairwise fun x y => x.1 ≠ y.1) (hm : ∀ x ∈ P, x.1 < A.length) {k : Int} (h0 : 0 < k) (hk : k ≤ 2148532224) (j : Nat) {i : Nat} (hi : i < A.length) :
    -2148532224 ≤ ge (addP f k (P.take j)) i ∧ ge (addP f k (P.take j)) i ≤ 2150000000 := by
  rw [ge_addP k (P.take j) f (hp.sublist (List.take_sublist j P)) (fun x hx => by rw [hf.l]; exact hm x (List.mem_of_mem_take hx))]
  have h1 := hf.b i hi
  have h2 := (hV.a i hi).2.2.1.2
  split
  · omega
  · split <;> omega
theorem route_q (pv r : Option Addr) (nl cv V cr : Nat) (s xs : List Int) (A : List Ark) (f : List Int) (π : Nat → Int) (w : World) (hV : vN s A) (hp : Pot A f π) (hS : Stps w pv A f (resL A f A.length)) (hX : Ints w r xs) (hl : (resL A f A.length).length = nl) (hn : s.length = V) (hx : xs.length = V) :
    Calls Tryd.prog 85 #[.agg #[.slice pv nl cv, .func (.func 91) #[] #[]], .slice r V cr] w fun e w' => Grew w w' ∧ ∃ lp ln lc, e = .returned (.slice lp ln lc) ∧ ((ln = 0 ∧ NoWay V farP (fun v => 0 < ge xs v) A (resL A f A.length) xs) ∨
      ∃ g P, lp = some ⟨g, 0, none⟩ ∧ P.length = ln ∧ 0 < ln ∧ Owns w' w.heap.size [stRn g ln lc A f P] ∧ WayTo V farP (fun v => 0 < ge xs v) A (resL A f A.length) xs P) := by
  apply Calls.mono
  with_reducible exact route_p pv r nl cv V cr s xs A f π w hV hp hS hX hl hn hx
  rintro e w' ⟨hg, ⟨h1, h2⟩ | ⟨g, n, c, P, h1, h2, h3, h4, h5⟩⟩
  · exact ⟨hg, none, 0, 0, h1, Or.inl ⟨rfl, h2⟩⟩
  · exact ⟨hg, _, n, c, h1, Or.inr ⟨g, P, rfl, h2, h3, h4, h5⟩⟩

set_option maxRecDepth 8000 in
set_option maxHeartbeats 16000000 in
theorem solve_p (p q : Option Addr) (n cp m cq : Nat) (s : List Int) (A : List Ark) (w : World) (hS : Ints w p s) (hA : Arks w q A) (hn : s.length = n) (hm : A.length = m) (hnil : p = none → n = 0 ∧ cp = 0) :
    Calls Tryd.prog 69 #[.agg #[.slice p n cp, .slice q m cq]] w fun e w' => Grew w w' ∧ ((¬ vN s A ∧ e = .returned (.tuple #[.slice none 0 0, .int .i64 1])) ∨ (vN s A ∧ Cut s A ∧ e = .returned (.tuple #[.slice none 0 0, .int .i64 15])) ∨
      (vN s A ∧ ∃ g f, isFlow s A f ∧ (∃ π, Pot A f π) ∧ e = .returned (.tuple #[.slice (some ⟨g, 0, none⟩) m m, .int .i64 0]) ∧ Owns w' w.heap.size [rI g m f])) := by
  have Hval := Lib.hid (fun (W : World) (hg : Grew w W) => valid_p p q n cp m cq s A W (hS.grew hg) (hA.grew hg) hn hm)
  subst hn hm
  have HS := Lib.hid hS
  have HA := Lib.hid hA
  have Hnil := Lib.hid hnil
  have ham := hA.1
  clear hS hA hnil
  cases hv : nB s A
  · have Hno : Hid (¬ vN s A) := Lib.hid (fun h => by rw [nB_iff.2 h] at hv; cases hv)
    rw [hv] at Hval
    clear hv
    go_enter Tryd.func69, Tryd.ntmps69
    go_wp2_with ((go_at_call 72; apply Calls.mono; (with_reducible exact Hval.out _ (by (repeat (first | exact gR _ | refine gO ?_ _ | refine gA ?_ _ | refine gD ?_ | refine gN ?_ _)))); rintro e w' ⟨rfl, x, rfl⟩))
    go_ret2
    exact ⟨by (repeat (first | exact gR _ | refine gO ?_ _ | refine gA ?_ _ | refine gD ?_ | refine gN ?_ _)), Or.inl ⟨Hno.out, rfl⟩⟩
  have HV := Lib.hid (nB_iff.1 hv)
  have h256 := HV.out.n
  have h2048 := HV.out.m
  rw [hv] at Hval
  clear hv
  go_enter Tryd.func69, Tryd.ntmps69
  go_upto_region 1 with fail
  obtain ⟨wz, hwz⟩ : ∃ wz, w.alloc (.cells #[.slice p s.length cp, .slice q A.length cq] 31) = wz := ⟨_, rfl⟩
  have x0 : wz.cell? ⟨w.heap.size, 0, none⟩ = some (.slice p s.length cp) := by rw [← hwz]; simp [go_sem]
  have x1 : wz.cell? ⟨w.heap.size, 1, none⟩ = some (.slice q A.length cq) := by rw [← hwz]; simp [go_sem]
  have Hgz : Hid (Grew w wz) := Lib.hid (by rw [← hwz]; (repeat (first | exact gR _ | refine gO ?_ _ | refine gA ?_ _ | refine gD ?_ | refine gN ?_ _)))
  have hbz : w.heap.size < wz.heap.size := by rw [← hwz]; simp
  have hmk := make_ints A.length (by omega)
  rw [hwz]
  clear hwz
  go_upto_region 3 with (go_at_call 72; apply Calls.mono; (with_reducible exact Hval.out _ Hgz.out); rintro e wa ⟨rfl, hga⟩; have Hga := Lib.hid hga; replace x0 := hga.cellEq x0; replace x1 := hga.cellEq x1; have hbz := Nat.lt_of_lt_of_le hbz hga.below.size; clear hga)
  obtain ⟨g4, hg4⟩ : ∃ g4, wa.heap.size = g4 := ⟨_, rfl⟩
  go_upto_region 4 with fail
  obtain ⟨wb, hwb⟩ : ∃ wb, wa.alloc (.cells (Array.replicate A.length (.int .i64 0)) 3) = wb := ⟨_, rfl⟩
  have HOb : Hid (Owns wb wa.heap.size [rI g4 A.length (List.replicate A.length 0)]) := Lib.hid (by rw [← hwb]; exact own_newI (Owns.nil _ _) (Nat.le_refl _) A.length _ (by omega) hg4.symm)
  have Hgb : Hid (Grew wa wb) := Lib.hid (by rw [← hwb]; (repeat (first | exact gR _ | refine gO ?_ _ | refine gA ?_ _ | refine gD ?_ | refine gN ?_ _)))
  have hab : wa.heap.size ≤ wb.heap.size := Hgb.out.below.size
  rw [hwb]
  clear hwb hg4 hmk
  have Hx0 := Lib.hid x0
  have Hx1 := Lib.hid x1
  have x0b := Hgb.out.cellEq x0
  have x1b := Hgb.out.cellEq x1
  clear x0 x1
  have hbz2 := Nat.lt_of_lt_of_le hbz hab
  go_upto_region 5 with (go_at_call 57; apply Calls.mono; (with_reducible exact clone_g p s.length cp s _ (HS.out.grew (Hgz.out.trans (Hga.out.trans Hgb.out))) rfl (by omega) Hnil.out); rintro e w1 ⟨hg1, v5, rfl, hO1⟩; have Hg1 := Lib.hid (Hgb.out.trans hg1); have HO1 := Lib.hid (own_join HOb.out hg1 hO1 hab); obtain ⟨pl, cl, rfl⟩ := own_form HO1.out (k := 0) rfl; clear hg1 hO1)
  have HF0 := Lib.hid (Fi.begin s A)
  have Hgwa := Lib.hid (Hgz.out.trans Hga.out)
  have x1 := Hg1.out.cellEq Hx1.out
  have hb1 := Nat.lt_of_lt_of_le hbz Hg1.out.below.size
  clear HOb Hgb x0b x1b hbz2 hab Hgz Hga
  go_wp2
  go_loopw [29] (fun v29 wr => ∃ (j : Nat) (f xs : List Int), j ≤ A.length ∧ v29 = .int .i64 j ∧ Fi s A f xs j ∧ Owns wr wa.heap.size [lR (.slice pl s.length cl) s.length xs, rI g4 A.length f] ∧ Grew wa wr) (fun v29 _ => A.length - (intOf v29).toNat)
  case atStart => exact ⟨0, _, _, Nat.zero_le _, rfl, HF0.out, HO1.out, Hg1.out⟩
  case round =>
    clear HF0 HO1 Hg1 x1 hb1
    obtain ⟨j, f, xs, hj, rfl, hF, hO, hg⟩ := hrel
    have HF := Lib.hid hF
    have HO := Lib.hid hO
    have Hg := Lib.hid hg
    clear hF hO hg
    by_cases hlt : j < A.length
    · obtain ⟨b2, o2, rfl, hb2, c0, c1, c2, c3⟩ := (HA.out.grew (Hgwa.out.trans Hg.out)).open hlt
      have hF1 := HV.out.vF hlt
      have hT1 := HV.out.vT hlt
      rw [HV.out.fr hlt] at c0
      rw [HV.out.ed hlt] at c1
      have hcap : (aK A j).cap = cap A j := rfl
      have hcos : (aK A j).cost = cst A j := rfl
      have hcb := (HV.out.a j hlt).2.2
      rw [hcap] at c2
      rw [hcos] at c3
      have hbd := fun t ht => HF.out.bd HV.out (by omega) (v := t) ht
      have Hneg := Lib.hid (HF.out.neg HV.out hlt)
      have Hnon := Lib.hid (HF.out.non hlt)
      have hxl := HF.out.xl
      obtain ⟨u, hu⟩ : ∃ x, vF A j = x := ⟨_, rfl⟩
      obtain ⟨v, hv⟩ : ∃ x, vT A j = x := ⟨_, rfl⟩
      obtain ⟨cj, hcj⟩ : ∃ x, cap A j = x := ⟨_, rfl⟩
      obtain ⟨kj, hkj⟩ : ∃ x, cst A j = x := ⟨_, rfl⟩
      rw [hu] at c0 hF1 Hneg
      rw [hv] at c1 hT1 Hneg
      rw [hcj] at c2 hcb Hneg
      rw [hkj] at c3 hcb Hneg Hnon
      obtain ⟨gl, rfl, hglB, hgl⟩ := own_some HO.out (k := 0) rfl (by omega)
      have hb1 := hbd u hF1
      have hb2v := hbd v hT1
      have hgv : ge (xs.set u (ge xs u - cj)) v = if v = u then ge xs u - cj else ge xs v := ge_set xs (by rw [hxl]; exact hF1) _ v
      obtain ⟨xu, hxu⟩ : ∃ x, ge xs u = x := ⟨_, rfl⟩
      obtain ⟨xs2, hxs2⟩ : ∃ l, xs.set u (ge xs u - cj) = l := ⟨_, rfl⟩
      rw [hxs2] at hgv Hneg
      obtain ⟨xv, hxv⟩ : ∃ x, ge xs2 v = x := ⟨_, rfl⟩
      rw [hxv] at hgv Hneg
      have hxvb : -2160000000 ≤ xv ∧ xv ≤ 2160000000 := by rw [hgv]; split <;> omega
      rw [hxu] at hb1 hxs2
      have hwr1 : IntKind.i64.wrap (xu - cj) = xu - cj := IntWalk.i64_in _ ⟨by omega, by omega⟩
      have hwr2 : IntKind.i64.wrap (xv + cj) = xv + cj := IntWalk.i64_in _ ⟨by omega, by omega⟩
      have hl2 : xs2.length = s.length := by rw [← hxs2, List.length_set]; exact hxl
      have Hxs2 := Lib.hid hxs2
      have Hxu := Lib.hid hxu
      have Hxv := Lib.hid hxv
      have Hl2 := Lib.hid hl2
      have Hxl := Lib.hid hxl
      clear hbd hu hv hcj hkj hxl hgv hxs2 hxu hxv hl2 hcap hcos
      go_upto_region 8 with fail
      obtain ⟨w3, hw3⟩ : ∃ w3, wr.alloc (.cells #[.int .i64 (u : Int), .int .i64 (v : Int), .int .i64 cj, .int .i64 kj] 63) = w3 := ⟨_, rfl⟩
      obtain ⟨aw, haw⟩ : ∃ aw, wr.heap.size = aw := ⟨_, rfl⟩
      have hg3 : Grew wr w3 := by rw [← hw3]; (repeat (first | exact gR _ | refine gO ?_ _ | refine gA ?_ _ | refine gD ?_ | refine gN ?_ _))
      have HO3 : Hid (Owns w3 wa.heap.size [⟨.slice (some ⟨aw, 0, none⟩) 4 4, 63, 1, 4, [.int .i64 (u : Int), .int .i64 (v : Int), .int .i64 cj, .int .i64 kj]⟩, rC gl s.length cl xs, rI g4 A.length f]) := Lib.hid (by rw [← hw3]; exact HO.out.made Hg.out.below.size #[.int .i64 (u : Int), .int .i64 (v : Int), .int .i64 cj, .int .i64 kj] 63 1 4 aw rfl (by decide) haw.symm)
      have Hg3 := Lib.hid (Hg.out.trans hg3)
      rw [hw3]
      try rw [haw]
      clear hw3 haw hg3 c0 c1 c2 c3 HO Hg hb2 hgl
      have hbz3 := own_blk HO3.out (j := 0) rfl
      have z0 := hbz3.2.2.2.2 0 _ rfl
      have z1 := hbz3.2.2.2.2 1 _ rfl
      have z2 := hbz3.2.2.2.2 2 _ rfl
      have z3 := hbz3.2.2.2.2 3 _ rfl
      have ha3 := hbz3.2.2.1
      clear hbz3
      by_cases hk0 : kj < 0
      · have HF2 := Lib.hid (Hneg.out hk0)
        have e4 := own_atI HO3.out (j := 2) rfl (i := j) hlt
        have b4 := own_lt HO3.out (j := 2) rfl
        have f4 := own_fr HO3.out (j := 2) rfl
        replace f4 := f4 j
        have HO4 := Lib.hid (own_setI HO3.out (j := 2) rfl j cj)
        have Hg4 := Lib.hid (HO3.out.setGrew (w0 := wa) (Nat.le_refl _) Hg3.out (k := 2) rfl j (.int .i64 cj))
        go_upto_region 10 with fail
        obtain ⟨w4, hw4⟩ : ∃ w4, w3.setCell ⟨g4, j, none⟩ (.int .i64 cj) = w4 := ⟨_, rfl⟩
        replace HO4 : Hid (Owns w4 wa.heap.size [⟨.slice (some ⟨aw, 0, none⟩) 4 4, 63, 1, 4, [.int .i64 (u : Int), .int .i64 (v : Int), .int .i64 cj, .int .i64 kj]⟩, rC gl s.length cl xs, rI g4 A.length (f.set j cj)]) := Lib.hid (by rw [← hw4]; exact HO4.out)
        replace Hg4 : Hid (Grew wa w4) := Lib.hid (by rw [← hw4]; exact Hg4.out)
        rw [hw4]
        clear hw4 z0 z1 z2 z3 ha3 HO3 Hg3 e4 b4 f4
        have hbz4 := own_blk HO4.out (j := 0) rfl
        have z0 := hbz4.2.2.2.2 0 _ rfl
        have z2 := hbz4.2.2.2.2 2 _ rfl
        have ha4 := hbz4.2.2.1
        clear hbz4
        have e0 := own_atC HO4.out (j := 1) rfl (i := u) (by rw [Hxl.out]; exact hF1)
        rw [Hxu.out] at e0
        have bg := own_lt HO4.out (j := 1) rfl
        have fg := own_fr HO4.out (j := 1) rfl
        replace fg := fg u
        have HO5 := Lib.hid (own_setC HO4.out (j := 1) rfl u (xu - cj))
        have Hg5 := Lib.hid (HO4.out.setGrew (w0 := wa) (Nat.le_refl _) Hg4.out (k := 1) rfl u (.int .i64 (xu - cj)))
        refine wp_region_lex (One 9 (fun b => if b then w4.setCell ⟨gl, u, none⟩ (.int .i64 (xu - cj)) else w4)) (by kernel_rfl) (by kernel_rfl) ?_ ?_
        · (repeat (first | exact Grew.refl _ | refine Grew.over ?_ _ | refine Grew.alloc ?_ _ | refine Grew.drew ?_ | refine Grew.drewN ?_ _))
        repeat (first
          | (refine lex_skip rfl ?_ ?_
             · exact One.keep (by decide)
             (try simp only [Act.put, List.setIfInBounds_toArray, List.set_cons_zero, List.set_cons_succ]))
          | (refine lex_pure (v := ?_) rfl ?_ (fun d w hd hr hC => ?_) ?_
             rotate_left
             · exact One.keep (by decide)
             · ((try (have hs := closed_undone (s := 9) hr.2 rfl (by decide +kernel) hd; unfold One at hC; rw [hs] at hC)); obtain ⟨x, rfl⟩ := hC; simp [go_sem, ↓IntWalk.iteOmega, z0, z2, e0, fg, hwr1]; try rfl)
             (try simp only [Act.put, List.setIfInBounds_toArray, List.set_cons_zero, List.set_cons_succ]))
          | (refine lex_call (v := ?_) (f := ?_) (args := ?_) rfl ?_ One.grew (fun d w hd hr hC => ?_) (fun d w hd hr hC => ?_) ?_
             rotate_left 3
             · exact One.keep (by decide)
             · ((try (have hs := closed_undone (s := 9) hr.2 rfl (by decide +kernel) hd; unfold One at hC; rw [hs] at hC)); obtain ⟨x, rfl⟩ := hC; simp [go_sem, ↓IntWalk.iteOmega, z0, z2, e0, fg, hwr1]; (refine ⟨?_, ?_⟩ <;> rfl))
             · ((try (have hs := closed_undone (s := 9) hr.2 rfl (by decide +kernel) hd; unfold One at hC; rw [hs] at hC)); obtain ⟨x, rfl⟩ := hC; (fail))
             (try simp only [Act.put, List.setIfInBounds_toArray, List.set_cons_zero, List.set_cons_succ]))
          | (refine lex_store rfl (fun d w hd hr hC => ?_) ?_
             · (unfold One at hC ⊢; rw [hd] at hC; rw [mark_same]; obtain ⟨x, rfl⟩ := hC; refine ⟨?_, ?_, ?_⟩; rotate_left; (simp [go_sem, ↓IntWalk.iteOmega, z0, z2, e0, fg, hwr1]; try rfl); (simp; exact ⟨_, rfl⟩))
             (try simp only [Act.put, List.setIfInBounds_toArray, List.set_cons_zero, List.set_cons_succ])))
        refine lex_nil ?_
        intro dLx w5 hd hw5
        unfold One at hw5; rw [hd 9 (by decide)] at hw5; simp only [if_true] at hw5
        have HO6 : Hid (Owns w5 wa.heap.size [⟨.slice (some ⟨aw, 0, none⟩) 4 4, 63, 1, 4, [.int .i64 (u : Int), .int .i64 (v : Int), .int .i64 cj, .int .i64 kj]⟩, rC gl s.length cl xs2, rI g4 A.length (f.set j cj)]) := Lib.hid (by
          have h := HO5.out.grew hw5
          rw [← Hxs2.out]
          exact h)
        have Hg6 := Lib.hid (Hg5.out.trans hw5)
        clear hw5 z0 z2 ha4 e0 bg fg HO5 Hg5 HO4 Hg4 hwr1
        have hbz6 := own_blk HO6.out (j := 0) rfl
        have z1 := hbz6.2.2.2.2 1 _ rfl
        have z2 := hbz6.2.2.2.2 2 _ rfl
        have ha6 := hbz6.2.2.1
        clear hbz6
        have e1 := own_atC HO6.out (j := 1) rfl (i := v) (by rw [Hl2.out]; exact hT1)
        rw [Hxv.out] at e1
        have bg := own_lt HO6.out (j := 1) rfl
        have fg := own_fr HO6.out (j := 1) rfl
        replace fg := fg v
        have HO7 := Lib.hid (own_setC HO6.out (j := 1) rfl v (xv + cj))
        have Hg7 := Lib.hid (HO6.out.setGrew (w0 := wa) (Nat.le_refl _) Hg6.out (k := 1) rfl v (.int .i64 (xv + cj)))
        go_upto_region 11 with fail
        refine wp_region_lex (One 9 (fun b => if b then w5.setCell ⟨gl, v, none⟩ (.int .i64 (xv + cj)) else w5)) (by kernel_rfl) (by kernel_rfl) ?_ ?_
        · (repeat (first | exact Grew.refl _ | refine Grew.over ?_ _ | refine Grew.alloc ?_ _ | refine Grew.drew ?_ | refine Grew.drewN ?_ _))
        repeat (first
          | (refine lex_skip rfl ?_ ?_
             · exact One.keep (by decide)
             (try simp only [Act.put, List.setIfInBounds_toArray, List.set_cons_zero, List.set_cons_succ]))
          | (refine lex_pure (v := ?_) rfl ?_ (fun d w hd hr hC => ?_) ?_
             rotate_left
             · exact One.keep (by decide)
             · ((try (have hs := closed_undone (s := 9) hr.2 rfl (by decide +kernel) hd; unfold One at hC; rw [hs] at hC)); obtain ⟨x, rfl⟩ := hC; simp [go_sem, ↓IntWalk.iteOmega, z1, z2, e1, fg, hwr2]; try rfl)
             (try simp only [Act.put, List.setIfInBounds_toArray, List.set_cons_zero, List.set_cons_succ]))
          | (refine lex_call (v := ?_) (f := ?_) (args := ?_) rfl ?_ One.grew (fun d w hd hr hC => ?_) (fun d w hd hr hC => ?_) ?_
             rotate_left 3
             · exact One.keep (by decide)
             · ((try (have hs := closed_undone (s := 9) hr.2 rfl (by decide +kernel) hd; unfold One at hC; rw [hs] at hC)); obtain ⟨x, rfl⟩ := hC; simp [go_sem, ↓IntWalk.iteOmega, z1, z2, e1, fg, hwr2]; (refine ⟨?_, ?_⟩ <;> rfl))
             · ((try (have hs := closed_undone (s := 9) hr.2 rfl (by decide +kernel) hd; unfold One at hC; rw [hs] at hC)); obtain ⟨x, rfl⟩ := hC; (fail))
             (try simp only [Act.put, List.setIfInBounds_toArray, List.set_cons_zero, List.set_cons_succ]))
          | (refine lex_store rfl (fun d w hd hr hC => ?_) ?_
             · (unfold One at hC ⊢; rw [hd] at hC; rw [mark_same]; obtain ⟨x, rfl⟩ := hC; refine ⟨?_, ?_, ?_⟩; rotate_left; (simp [go_sem, ↓IntWalk.iteOmega, z1, z2, e1, fg, hwr2]; try rfl); (simp; exact ⟨_, rfl⟩))
             (try simp only [Act.put, List.setIfInBounds_toArray, List.set_cons_zero, List.set_cons_succ])))
        refine lex_nil ?_
        intro dLx w6 hd hw6
        unfold One at hw6; rw [hd 9 (by decide)] at hw6; simp only [if_true] at hw6
        have HO8 := Lib.hid ((HO7.out.grew hw6).tail)
        have Hg8 := Lib.hid (Hg7.out.trans hw6)
        clear hw6
        go_wp2
        go_roundw
        case rel => exact ⟨j + 1, _, _, by omega, by go_num, HF2.out, HO8.out, Hg8.out⟩
        case measure => simp [intOf]; omega
      · have HF2 := Lib.hid (Hnon.out hk0)
        have HO4 := Lib.hid HO3.out.tail
        go_wp2
        go_roundw
        case rel => exact ⟨j + 1, f, xs, by omega, by go_num, HF2.out, HO4.out, Hg3.out⟩
        case measure => simp [intOf]; omega
    · have hje : j = A.length := by omega
      subst hje
      have HSt0 := Lib.hid (HF.out.done HV.out)
      clear HF
      go_wp2
      go_loopg [11] (mp s.length xs) (fun gk v11 wr => ∃ (f xs : List Int), St s A f xs ∧ mp s.length xs = gk ∧ Owns wr wa.heap.size [lR (.slice pl s.length cl) s.length xs, rI g4 A.length f] ∧ Grew wa wr)
      case atStart => exact ⟨f, xs, HSt0.out, rfl, HO.out, Hg.out⟩
      case round =>
        clear HSt0 HO Hg
        obtain ⟨f, xs, hSt, hgk, hO, hg⟩ := hrel
        have HSt := Lib.hid hSt
        have HO := Lib.hid hO
        have Hg := Lib.hid hg
        have Hgk := Lib.hid hgk
        have hxl := hSt.xl
        have hfl := hSt.fit.l
        have HxI : Hid (Ints wr pl xs) := Lib.hid (own_intsG hO (k := 0) rfl hxl (by omega) (ints_mem hxl (fun v hv => hSt.bd HV.out hv) (by decide) (by decide)))
        have HfI : Hid (Ints wr (some ⟨g4, 0, none⟩) f) := Lib.hid (own_ints hO (k := 1) rfl hfl (by omega) (ints_mem hfl (fun v hv => by have h1 := hSt.fit.b v hv; have h2 := (HV.out.a v hv).2.2.1.2; exact ⟨h1.1, Int.le_trans h1.2 h2⟩) (by decide) (by decide)))
        clear hSt hO hg hgk
        have x0 := Hg.out.cellEq Hx0.out
        have x1 := Hg.out.cellEq Hx1.out
        have hbw := Nat.lt_of_lt_of_le hbz Hg.out.below.size
        go_upto_if 62 with (go_at_call 82; apply Calls.mono; (with_reducible exact contains_p pl s.length cl xs _ HxI.out hxl); rintro e w' ⟨⟨r, rfl, hr⟩, rfl⟩)
        rcases hr with ⟨rfl, hno⟩ | ⟨rfl, a0, ha0, hpos⟩
        · have Hfin := Lib.hid (HSt.out.done HV.out (fun v hv => by have := hno v (by omega); omega))
          clear hno
          go_wp2
          go_ret2
          exact ⟨Hgwa.out.trans Hg.out, Or.inr (Or.inr ⟨HV.out, g4, f, Hfin.out.1, Hfin.out.2, rfl, (HO.out.tail).base Hgwa.out.below.size⟩)⟩
        · obtain ⟨π, hπ⟩ := HSt.out.pot
          have Hπ := Lib.hid hπ
          have Hpos := Lib.hid hpos
          clear hπ hpos
          go_upto_region 15 with (first
            | (go_at_call 84; apply Calls.mono; (with_reducible exact rest_p p q (some ⟨g4, 0, none⟩) s.length cp A.length cq A.length A.length s A f _ (HA.out.grew (Hgwa.out.trans Hg.out)) HfI.out rfl hfl HV.out HSt.out.fit); rintro e w2 ⟨hg2, v2, rfl, hO2⟩; obtain ⟨pv, cv, rfl, hSp⟩ := own_stps hO2 (k := 0) rfl; have HSp := Lib.hid hSp; have Hg2 := Lib.hid hg2; clear hO2 hSp hg2)
            | (go_at_call 85; apply Calls.mono; (with_reducible exact route_q pv pl _ cv s.length cl s xs A f π _ HV.out Hπ.out HSp.out (HxI.out.grew Hg2.out) rfl rfl hxl); rintro e w3 ⟨hg3, lp, ln, lc, rfl, hr⟩; have Hg3 := Lib.hid (Hg2.out.trans hg3); have Hg23 := Lib.hid hg3; clear hg3))
          rcases hr with ⟨rfl, hno⟩ | ⟨gP, P, rfl, hPl, hn0, hOP, hWT⟩
          · have Hno := Lib.hid (HSt.out.none HV.out hno (by omega) Hpos.out)
            clear hno
            go_wp2
            go_ret2
            exact ⟨Hgwa.out.trans (Hg.out.trans Hg3.out), Or.inr (Or.inl ⟨HV.out, Hno.out, rfl⟩)⟩
          · obtain ⟨d, ch, a, t, hStt, hWy, hxa, htV, hxt⟩ := hWT
            have haV := hWy.vs
            obtain ⟨gl, rfl, hglB, hgl⟩ := own_some HO.out (k := 0) rfl (by omega)
            obtain ⟨np, rfl⟩ : ∃ np, ln = np + 1 := ⟨ln - 1, by omega⟩
            obtain ⟨i0, bb0, hP0, hsF⟩ := way_head hWy.way (by omega)
            obtain ⟨i1, bb1, hP1, hsT⟩ := way_last hWy.way hPl
            have HO3 := Lib.hid (own_join (HO.out.grew Hg2.out) Hg23.out hOP (Nat.le_trans Hg.out.below.size Hg2.out.below.size))
            have Hg3a := Lib.hid (Hg.out.trans Hg3.out)
            have hPs := hWy.len
            have harc := Lib.hid hWy.arcs
            have hmA : Hid (∀ x ∈ P, x.1 < A.length) := Lib.hid (fun x hx => (mem_resL (i := x.1) (b := x.2)).1 (hWy.stp x hx).1 |>.1)
            have HWP : Hid (∃ d ch, Wy s.length A (resL A f A.length) farP d ch P a t) := Lib.hid ⟨d, ch, hWy⟩
            have Hsend := Lib.hid (fun (k : Int) (hk : Snd s A f xs P a t k) => HSt.out.send HV.out hStt hWy htV hk)
            have hba := HSt.out.bd HV.out haV
            have hbt := HSt.out.bd HV.out htV
            obtain ⟨xa, exa⟩ : ∃ x, ge xs a = x := ⟨_, rfl⟩
            obtain ⟨xt, ext⟩ : ∃ x, ge xs t = x := ⟨_, rfl⟩
            rw [exa] at hxa hba
            rw [ext] at hxt hbt
            obtain ⟨nt, hnt⟩ : ∃ x, -xt = x := ⟨_, rfl⟩
            have hnt0 : 0 < nt ∧ nt ≤ 2148532224 := by omega
            obtain ⟨hnt1, hnt2⟩ := hnt0
            have hwn : IntKind.i64.wrap (-xt) = nt := by rw [hnt]; exact IntWalk.i64_in _ ⟨by omega, by omega⟩
            have Hexa := Lib.hid exa
            have Hext := Lib.hid ext
            have Hnt := Lib.hid hnt
            have Hxa := Lib.hid hxa
            have c0 := (own_step6 HO3.out (k := 0) rfl hP0).1
            have c1 := (own_step6 HO3.out (k := 0) rfl hP1).2.1
            rw [hsF] at c0
            rw [hsT] at c1
            rw [Nat.zero_mul] at c0
            have bP := (own_blk6g HO3.out (k := 0) rfl).1
            have e0 := own_atC HO3.out (j := 1) rfl (i := a) (by omega)
            have e1 := own_atC HO3.out (j := 1) rfl (i := t) (by omega)
            rw [exa] at e0
            rw [ext] at e1
            have bl := own_lt HO3.out (j := 1) rfl
            clear hOP hStt hWy exa ext hnt hP0 hP1 hsF hsT HO Hg Hg2 Hg3 Hg23 x0 x1 HxI HfI hbw
            go_upto_region 17 with fail
            refine wp_region_over (by kernel_rfl) (by kernel_rfl) ?_; (repeat (go_big_quiet_step (fail))); refine wpQuiet_nil ?_; intro w4 hW; replace hW : Grew _ w4 := hW
            have HO4 := Lib.hid (HO3.out.grew hW)
            have Hg4 := Lib.hid (Hg3a.out.trans hW)
            replace e0 := hW.cellEq e0
            replace e1 := hW.cellEq e1
            replace bl := Nat.lt_of_lt_of_le bl hW.below.size
            clear hW c0 c1 bP HO3 Hg3a
            go_upto_region 18 with fail
            refine wp_region_over (by kernel_rfl) (by kernel_rfl) ?_; (repeat (go_big_quiet_step (fail))); refine wpQuiet_nil ?_; intro w5 hW; replace hW : Grew _ w5 := hW
            have HO5 := Lib.hid (HO4.out.grew hW)
            have Hg5 := Lib.hid (Hg4.out.trans hW)
            obtain ⟨k0, hk0⟩ : ∃ k0, (if nt < xa then nt else xa) = k0 := ⟨_, rfl⟩
            have Hk0 : Hid (0 < k0 ∧ k0 ≤ xa ∧ k0 ≤ nt) := Lib.hid (by rw [← hk0]; split <;> omega)
            rw [hk0]
            clear hk0
            clear hW HO4 Hg4 e0 e1 bl
            go_wp2
            go_loopw [11, 94] (fun v11 v94 wk => ∃ (j : Nat) (k : Int), j ≤ np + 1 ∧ v94 = .int .i64 j ∧ v11 = .int .i64 k ∧ (0 < k ∧ k ≤ xa ∧ k ≤ nt) ∧ (∀ i x, i < j → P[i]? = some x → k ≤ sR A f x.1 x.2) ∧ Grew w5 wk) (fun _ v94 _ => np + 1 - (intOf v94).toNat)
            case atStart => exact ⟨0, k0, Nat.zero_le _, rfl, rfl, Hk0.out, fun i x hi => (by omega), Grew.refl _⟩
            case round =>
              clear Hk0
              obtain ⟨j, k, hj, rfl, rfl, hk, hall, hg⟩ := hrel
              have Hk := Lib.hid hk
              have Hall := Lib.hid hall
              have Hg := Lib.hid hg
              have HO := Lib.hid (HO5.out.grew hg)
              clear hk hall hg
              by_cases hlt : j < np + 1
              · obtain ⟨⟨i, b⟩, hib⟩ : ∃ x, P[j]? = some x := ⟨_, List.getElem?_eq_getElem (by omega)⟩
                have bP := (own_blk6g HO.out (k := 0) rfl).1
                obtain ⟨c0, c1, c2, c3, c4, c5⟩ := own_step6 HO.out (k := 0) rfl hib
                have hrm : Hid (0 < sR A f i b) := Lib.hid ((mem_resL (i := i) (b := b)).1 (by obtain ⟨d, ch, h⟩ := HWP.out; exact (h.stp (i, b) (List.mem_of_getElem? hib)).1)).2
                have Hib := Lib.hid hib
                clear hib
                obtain ⟨uu, huu⟩ : ∃ x, sF A i b = x := ⟨_, rfl⟩
                obtain ⟨vv, hvv⟩ : ∃ x, sT A i b = x := ⟨_, rfl⟩
                obtain ⟨co, hco⟩ : ∃ x, cst A i = x := ⟨_, rfl⟩
                obtain ⟨ro, hro⟩ : ∃ x, sR A f i b = x := ⟨_, rfl⟩
                rw [huu] at c0
                rw [hvv] at c1
                rw [hco] at c2
                rw [hro] at c3 hrm
                have Hro := Lib.hid hro
                clear huu hvv hco hro
                go_upto_region 22 with fail
                obtain ⟨w6, hw6⟩ : ∃ w6, wr.alloc (.cells #[.int .i64 (uu : Int), .int .i64 (vv : Int), .int .i64 co, .int .i64 ro, .int .i64 (i : Int), .bool b] 120) = w6 := ⟨_, rfl⟩
                obtain ⟨aw, haw⟩ : ∃ aw, wr.heap.size = aw := ⟨_, rfl⟩
                have z3 : w6.cell? ⟨aw, 3, none⟩ = some (.int .i64 ro) := by rw [← hw6, ← haw]; simp [go_sem]
                have Hg6 : Hid (Grew w5 w6) := Lib.hid (by rw [← hw6]; exact Hg.out.trans (by (repeat (first | exact gR _ | refine gO ?_ _ | refine gA ?_ _ | refine gD ?_ | refine gN ?_ _))))
                rw [hw6]
                try rw [haw]
                clear hw6 haw c0 c1 c2 c3 c4 c5 bP
                by_cases hrk : ro < k
                · have Hk2 : Hid (0 < ro ∧ ro ≤ xa ∧ ro ≤ nt) := Lib.hid (by have := Hk.out; have := hrm.out; omega)
                  have Ha2 : Hid (∀ i x, i < j + 1 → P[i]? = some x → ro ≤ sR A f x.1 x.2) := Lib.hid (fun i' x hi' hx => by
                    by_cases e : i' = j
                    · subst e; rw [Hib.out] at hx; cases hx; rw [Hro.out]; exact Int.le_refl _
                    · have := Hall.out i' x (by omega) hx; omega)
                  go_wp2
                  go_roundw
                  case rel => exact ⟨j + 1, ro, by omega, by go_num, rfl, Hk2.out, Ha2.out, Hg6.out⟩
                  case measure => simp [intOf]; omega
                · have Ha2 : Hid (∀ i x, i < j + 1 → P[i]? = some x → k ≤ sR A f x.1 x.2) := Lib.hid (fun i' x hi' hx => by
                    by_cases e : i' = j
                    · subst e; rw [Hib.out] at hx; cases hx; rw [Hro.out]; omega
                    · exact Hall.out i' x (by omega) hx)
                  go_wp2
                  go_roundw
                  case rel => exact ⟨j + 1, k, by omega, by go_num, rfl, Hk.out, Ha2.out, Hg6.out⟩
                  case measure => simp [intOf]; omega
              · have Hsnd : Hid (Snd s A f xs P a t k) := Lib.hid ⟨Hk.out.1, by rw [Hexa.out]; exact Hk.out.2.1, by rw [Hext.out, Hnt.out]; exact Hk.out.2.2, fun x hx => by
                  obtain ⟨i, hi⟩ := List.getElem?_of_mem hx
                  have := (List.getElem?_eq_some_iff.1 hi).1
                  exact Hall.out i x (by omega) hi⟩
                have Hst2 := Lib.hid (Hsend.out k Hsnd.out)
                have hk1 := Hk.out
                obtain ⟨hk1, hk2, hk3⟩ := hk1
                have Hgg := Lib.hid (Hg5.out.trans Hg.out)
                have HOO : Hid (Owns wr wa.heap.size [stRn gP (np + 1) lc A f P, rC gl s.length cl xs, rI g4 A.length (addP f k (P.take 0))]) := Lib.hid HO.out
                clear Hall HO Hg HO5 Hg5
                go_wp2
                go_loopw [105] (fun v105 wk => ∃ j : Nat, j ≤ np + 1 ∧ v105 = .int .i64 j ∧ Owns wk wa.heap.size [stRn gP (np + 1) lc A f P, rC gl s.length cl xs, rI g4 A.length (addP f k (P.take j))] ∧ Grew wa wk) (fun v105 _ => np + 1 - (intOf v105).toNat)
                case atStart => exact ⟨0, Nat.zero_le _, rfl, HOO.out, Hgg.out⟩
                case round =>
                  clear HOO Hgg
                  obtain ⟨j, hj, rfl, hO, hg⟩ := hrel
                  have HO := Lib.hid hO
                  have Hg := Lib.hid hg
                  clear hO hg
                  by_cases hlt : j < np + 1
                  · obtain ⟨⟨i, b⟩, hib⟩ : ∃ x, P[j]? = some x := ⟨_, List.getElem?_eq_getElem (by omega)⟩
                    have hiA := hmA.out _ (List.mem_of_getElem? hib)
                    simp only at hiA
                    have bP := (own_blk6g HO.out (k := 0) rfl).1
                    obtain ⟨c0, c1, c2, c3, c4, c5⟩ := own_step6 HO.out (k := 0) rfl hib
                    have hbd := addP_bd HV.out HSt.out.fit harc.out hmA.out hk1 (by omega) j hiA
                    have Hnx : Hid (addP f k (P.take (j + 1)) = (addP f k (P.take j)).set i (if b then ge (addP f k (P.take j)) i - k else ge (addP f k (P.take j)) i + k)) := Lib.hid (by rw [take_snoc hib, addP_snoc])
                    have hfl2 : (addP f k (P.take j)).length = A.length := by rw [addP_length]; exact hfl
                    obtain ⟨fj, hfj⟩ : ∃ x, addP f k (P.take j) = x := ⟨_, rfl⟩
                    rw [hfj] at HO Hnx hbd hfl2
                    obtain ⟨fi, hfi⟩ : ∃ x, ge fj i = x := ⟨_, rfl⟩
                    rw [hfi] at Hnx hbd
                    have Hfi := Lib.hid hfi
                    obtain ⟨uu, huu⟩ : ∃ x, sF A i b = x := ⟨_, rfl⟩
                    obtain ⟨vv, hvv⟩ : ∃ x, sT A i b = x := ⟨_, rfl⟩
                    obtain ⟨co, hco⟩ : ∃ x, cst A i = x := ⟨_, rfl⟩
                    obtain ⟨ro, hro⟩ : ∃ x, sR A f i b = x := ⟨_, rfl⟩
                    rw [huu] at c0
                    rw [hvv] at c1
                    rw [hco] at c2
                    rw [hro] at c3
                    clear huu hvv hco hro hib hfj hfi hfl2
                    go_upto_region 27 with fail
                    obtain ⟨w6, hw6⟩ : ∃ w6, wr.alloc (.cells #[.int .i64 (uu : Int), .int .i64 (vv : Int), .int .i64 co, .int .i64 ro, .int .i64 (i : Int), .bool b] 120) = w6 := ⟨_, rfl⟩
                    obtain ⟨aw, haw⟩ : ∃ aw, wr.heap.size = aw := ⟨_, rfl⟩
                    have HO6 : Hid (Owns w6 wa.heap.size [⟨.slice (some ⟨aw, 0, none⟩) 6 6, 120, 1, 6, [.int .i64 (uu : Int), .int .i64 (vv : Int), .int .i64 co, .int .i64 ro, .int .i64 (i : Int), .bool b]⟩, stRn gP (np + 1) lc A f P, rC gl s.length cl xs, rI g4 A.length fj]) :=
                      Lib.hid (by rw [← hw6]; exact HO.out.made Hg.out.below.size #[.int .i64 (uu : Int), .int .i64 (vv : Int), .int .i64 co, .int .i64 ro, .int .i64 (i : Int), .bool b] 120 1 6 aw rfl (by decide) haw.symm)
                    have Hg6 : Hid (Grew wa w6) := Lib.hid (by rw [← hw6]; exact Hg.out.trans (by (repeat (first | exact gR _ | refine gO ?_ _ | refine gA ?_ _ | refine gD ?_ | refine gN ?_ _))))
                    rw [hw6]
                    try rw [haw]
                    clear hw6 haw c0 c1 c2 c3 c4 c5 bP HO Hg
                    have hbz6 := own_blk HO6.out (j := 0) rfl
                    have z4 := hbz6.2.2.2.2 4 _ rfl
                    have z5 := hbz6.2.2.2.2 5 _ rfl
                    have ha6 := hbz6.2.2.1
                    clear hbz6
                    have e4 := own_atI HO6.out (j := 3) rfl (i := i) hiA
                    rw [Hfi.out] at e4
                    have b4 := own_lt HO6.out (j := 3) rfl
                    have f4 := own_fr HO6.out (j := 3) rfl
                    replace f4 := f4 i
                    cases b
                    · have hwr : IntKind.i64.wrap (fi + k) = fi + k := IntWalk.i64_in _ ⟨by omega, by omega⟩
                      have HO7 : Hid (Owns (w6.setCell ⟨g4, i, none⟩ (.int .i64 (fi + k))) wa.heap.size [stRn gP (np + 1) lc A f P, rC gl s.length cl xs, rI g4 A.length (addP f k (P.take (j + 1)))]) := Lib.hid (by rw [Hnx.out]; exact (own_setI HO6.out (j := 3) rfl i (fi + k)).tail)
                      have Hg7 := Lib.hid (HO6.out.setGrew (w0 := wa) (Nat.le_refl _) Hg6.out (k := 3) rfl i (.int .i64 (fi + k)))
                      go_wp2
                      go_roundw
                      case rel => exact ⟨j + 1, by omega, by go_num, HO7.out, Hg7.out⟩
                      case measure => simp [intOf]; omega
                    · have hwr : IntKind.i64.wrap (fi - k) = fi - k := IntWalk.i64_in _ ⟨by omega, by omega⟩
                      have HO7 : Hid (Owns (w6.setCell ⟨g4, i, none⟩ (.int .i64 (fi - k))) wa.heap.size [stRn gP (np + 1) lc A f P, rC gl s.length cl xs, rI g4 A.length (addP f k (P.take (j + 1)))]) := Lib.hid (by rw [Hnx.out]; exact (own_setI HO6.out (j := 3) rfl i (fi - k)).tail)
                      have Hg7 := Lib.hid (HO6.out.setGrew (w0 := wa) (Nat.le_refl _) Hg6.out (k := 3) rfl i (.int .i64 (fi - k)))
                      go_wp2
                      go_roundw
                      case rel => exact ⟨j + 1, by omega, by go_num, HO7.out, Hg7.out⟩
                      case measure => simp [intOf]; omega
                  · have hje : j = np + 1 := by omega
                    subst hje
                    have HO2 : Hid (Owns wr wa.heap.size [rC gl s.length cl xs, rI g4 A.length (addP f k P)]) := Lib.hid (by
                      have h := HO.out.tail
                      rwa [List.take_of_length_le (by omega)] at h)
                    clear HO
                    have hta : t ≠ a := fun e => (by
                      have h1 := Hexa.out
                      have h2 := Hext.out
                      rw [e] at h2
                      have := Hxa.out
                      have := Hnt.out
                      omega)
                    have e0 := own_atC HO2.out (j := 0) rfl (i := a) (by omega)
                    rw [Hexa.out] at e0
                    have b0 := own_lt HO2.out (j := 0) rfl
                    have f0 := own_fr HO2.out (j := 0) rfl
                    replace f0 := f0 a
                    have hwr : IntKind.i64.wrap (xa - k) = xa - k := IntWalk.i64_in _ ⟨by omega, by omega⟩
                    have HO3 := Lib.hid (own_setC HO2.out (j := 0) rfl a (xa - k))
                    have Hg3 := Lib.hid (HO2.out.setGrew (w0 := wa) (Nat.le_refl _) Hg.out (k := 0) rfl a (.int .i64 (xa - k)))
                    go_upto_region 32 with fail
                    obtain ⟨w7, hw7⟩ : ∃ w7, wr.setCell ⟨gl, a, none⟩ (.int .i64 (xa - k)) = w7 := ⟨_, rfl⟩
                    replace HO3 : Hid (Owns w7 wa.heap.size [rC gl s.length cl (xs.set a (xa - k)), rI g4 A.length (addP f k P)]) := Lib.hid (by rw [← hw7]; exact HO3.out)
                    replace Hg3 : Hid (Grew wa w7) := Lib.hid (by rw [← hw7]; exact Hg3.out)
                    rw [hw7]
                    clear hw7 HO2 Hg e0 b0 f0 hwr
                    have hx2 : ge (xs.set a (xa - k)) t = xt := by rw [ge_set xs (by omega), if_neg hta]; exact Hext.out
                    have e1 := own_atC HO3.out (j := 0) rfl (i := t) (by rw [List.length_set]; omega)
                    rw [hx2] at e1
                    have b1 := own_lt HO3.out (j := 0) rfl
                    have f1 := own_fr HO3.out (j := 0) rfl
                    replace f1 := f1 t
                    have hwr : IntKind.i64.wrap (xt + k) = xt + k := IntWalk.i64_in _ ⟨by omega, by omega⟩
                    have HO4 := Lib.hid (own_setC HO3.out (j := 0) rfl t (xt + k))
                    have Hg4 := Lib.hid (HO3.out.setGrew (w0 := wa) (Nat.le_refl _) Hg3.out (k := 0) rfl t (.int .i64 (xt + k)))
                    have Hst3 : Hid (St s A (addP f k P) ((xs.set a (xa - k)).set t (xt + k)) ∧ mp s.length ((xs.set a (xa - k)).set t (xt + k)) < gk) := Lib.hid (by
                      have h := Hst2.out
                      rw [Hexa.out, hx2, Hgk.out] at h
                      exact h)
                    clear Hst2 hx2
                    go_wp2
                    go_roundg (mp s.length ((xs.set a (xa - k)).set t (xt + k)))
                    case rel => exact ⟨_, _, Hst3.out.1, rfl, HO4.out, Hg4.out⟩
                    case measure => exact Hst3.out.2
end Go.Proofs.YtiihgpgpbgafiaaDoor.Fl

/- The augmentation of the reference. -/
set_option linter.unusedSimpArgs false
set_option linter.unusedVariables false
namespace Go.Proofs.YtiihgpgpbgafiaaDoor.Fl
open Go.RowKit
attribute [local go_sem ↓] Go.wp_at_zero Go.wp_at_succ

end Go.Proofs.YtiihgpgpbgafiaaDoor.Fl

/- Solve of the reference. -/
set_option linter.unusedSimpArgs false
set_option linter.unusedVariables false
namespace Go.Proofs.YtiihgpgpbgafiaaDoor.Fl
open Go.RowKit
attribute [local go_sem ↓] Go.wp_at_zero Go.wp_at_succ

theorem Fi.fill {s : List Int} {A : List Ark} {f xs : List Int} (h : Fi s A f xs A.length) (hV : vN s A) : St s A f (exL s A f A.length) := by
  have h1 := h.done hV
  rw [h1.ex hV]
  exact h1
end Go.Proofs.YtiihgpgpbgafiaaDoor.Fl

/- The network of an embedded graph, plain: definitions. -/
set_option linter.unusedSimpArgs false
set_option linter.unusedVariables false
namespace Go.Proofs.YtiihgpgpbgafiaaDoor
open Go.RowKit

theorem sub_len : ∀ {L l : List Int}, L.Nodup → (∀ x ∈ L, x ∈ l) → L.length ≤ l.length
  | [], _, _, _ => Nat.zero_le _
  | x :: L, l, hn, hs => by
    obtain ⟨h1, h2⟩ := List.nodup_cons.1 hn
    have hx := hs x (List.mem_cons_self ..)
    have := sub_len (L := L) (l := l.erase x) h2 (fun y hy => (List.mem_erase_of_ne (fun e => h1 (by rw [← e]; exact hy))).2 (hs y (List.mem_cons_of_mem _ hy)))
    rw [List.length_erase_of_mem hx] at this
    have h0 : 0 < l.length := List.length_pos_of_mem hx
    rw [List.length_cons]
    omega
theorem idL_nodup (N : Nat) : (idL N).Nodup := by
  unfold idL
  rw [List.nodup_iff_pairwise_ne, List.pairwise_map]
  exact (List.nodup_range (n := N)).imp (fun h e => h (by omega))
theorem mem_idL {N : Nat} {x : Int} : x ∈ idL N ↔ 0 ≤ x ∧ x < N := by
  unfold idL
  rw [List.mem_map]
  exact ⟨fun ⟨v, hv, e⟩ => by have := List.mem_range.1 hv; omega, fun ⟨h0, h1⟩ => ⟨x.toNat, List.mem_range.2 (by omega), by omega⟩⟩
/-- One component: all vertices are reached from the first one. -/
theorem one_comp {E : List (Int × Int)} {N : Nat} (hN : 0 < N) : cntL E N = 1 ↔ ∀ v : Nat, v < N → Cn E E.length 0 v := by
  have h0 : isL E E.length ((0 : Nat) : Int) := fun u h1 h2 => by omega
  constructor
  · intro hc v
    induction v using Nat.strongRecOn with
    | _ v ih =>
      intro hv
      by_cases e : v = 0
      · subst e; exact Cn.refl _
      · by_cases hL : isL E E.length (v : Int)
        · exfalso
          unfold cntL at hc
          have h1 := cntP_drop (p := fun v : Nat => isL E E.length v) (q := fun u : Nat => isL E E.length u ∧ u ≠ v) (x := v) hL (fun h => h.2 rfl) hv (fun u _ hu => ⟨fun h => ⟨h, hu⟩, fun h => h.1⟩)
          have h2 := cntP_drop (p := fun u : Nat => isL E E.length u ∧ u ≠ v) (q := fun u : Nat => (isL E E.length u ∧ u ≠ v) ∧ u ≠ 0) (x := 0) ⟨h0, by omega⟩ (fun h => h.2 rfl) hN (fun u _ hu => ⟨fun h => ⟨h, hu⟩, fun h => h.1⟩)
          omega
        · obtain ⟨u, h1, h2, h3⟩ : ∃ u : Int, 0 ≤ u ∧ u < v ∧ Cn E E.length u v := by
            apply Classical.byContradiction
            intro hn
            exact hL (fun u h1 h2 h3 => hn ⟨u, h1, h2, h3⟩)
          have := ih u.toNat (by omega) (by omega)
          rw [show ((u.toNat : Nat) : Int) = u by omega] at this
          exact this.trans h3
  · intro hall
    unfold cntL
    rw [cntP_congr (q := fun v : Nat => v = 0) (fun v hv => ⟨fun h => by
      by_cases e : v = 0
      · exact e
      · exact absurd (hall v hv) (h 0 (by omega) (by omega)), fun h => by rw [h]; exact h0⟩)]
    obtain ⟨n, rfl⟩ : ∃ n, N = n + 1 := ⟨N - 1, by omega⟩
    clear hN hall
    induction n with
    | zero => simp [cntP]
    | succ n ih => rw [cntP, ih]; simp
/-- The faces as lists. -/
structure FcsOK (M : Nat) (F : List (List Int)) : Prop where
  inn : ∀ i, i < F.length → ∀ d ∈ rowOf F i, 0 ≤ d ∧ d < (M : Int)
  dis : ∀ i j, i < F.length → j < F.length → ∀ d, d ∈ rowOf F i → d ∈ rowOf F j → i = j
  cov : ∀ d : Int, 0 ≤ d → d < M → ∃ i, i < F.length ∧ d ∈ rowOf F i
  len : F.length ≤ M
  row : ∀ i, i < F.length → (rowOf F i).length ≤ M
theorem facs_ok {N : Int} {E : List (Int × Int)} {A : List (List Int)} (hV : vRot N E A) : FcsOK (2 * E.length) (facesO N E A) := by
  have hD := fac_dec hV
  have hF : facesO N E A = facesF A (2 * E.length) := by unfold facesO; rw [if_pos (vRotB_iff.2 hV)]
  rw [hF]
  obtain ⟨F, hFe⟩ : ∃ F, facesF A (2 * E.length) = F := ⟨_, rfl⟩
  rw [hFe] at hD ⊢
  have hmem : ∀ i, i < F.length → rowOf F i ∈ F := fun i hi => by rw [rowOf_eq F hi]; exact List.getElem_mem hi
  have hinn : ∀ i, i < F.length → ∀ d ∈ rowOf F i, 0 ≤ d ∧ d < ((2 * E.length : Nat) : Int) := fun i hi d hd => by
    have := (hD.mem d).1 (List.mem_flatten.2 ⟨_, hmem i hi, hd⟩)
    omega
  have hnd := hD.nd
  unfold List.Nodup at hnd
  rw [List.pairwise_flatten] at hnd
  have hdis : ∀ i j, i < j → j < F.length → ∀ d, d ∈ rowOf F i → d ∈ rowOf F j → False := fun i j hij hj d h1 h2 => by
    have := (List.pairwise_iff_getElem.1 hnd.2) i j (by omega) hj hij
    rw [rowOf_eq F (by omega)] at h1
    rw [rowOf_eq F hj] at h2
    exact this d h1 d h2 rfl
  have hrow : ∀ i, i < F.length → (rowOf F i).length ≤ 2 * E.length := fun i hi => int_nodup_len (hnd.1 _ (hmem i hi)) (hinn i hi)
  refine ⟨hinn, fun i j hi hj d h1 h2 => ?_, fun d d0 d1 => ?_, ?_, hrow⟩
  · rcases Nat.lt_trichotomy i j with h | h | h
    · exact (hdis i j h hj d h1 h2).elim
    · exact h
    · exact (hdis j i h hi d h2 h1).elim
  · obtain ⟨l, hl, hd⟩ := List.mem_flatten.1 ((hD.mem d).2 ⟨d0, by omega⟩)
    obtain ⟨i, hi, rfl⟩ := List.getElem_of_mem hl
    exact ⟨i, hi, by rw [rowOf_eq F hi]; exact hd⟩
  · have h1 : F.length ≤ F.flatten.length := by
      have hne : ∀ l ∈ F, l ≠ [] := fun l hl => (hD.cyc l hl).ne
      clear hD hmem hinn hnd hdis hrow hFe
      induction F with
      | nil => simp
      | cons l F ih =>
        have := List.length_pos_iff.2 (hne l (by simp))
        have := ih (fun l hl => hne l (List.mem_cons_of_mem _ hl))
        rw [List.flatten_cons, List.length_append, List.length_cons]
        omega
    have h2 := int_nodup_len (M := 2 * E.length) hD.nd (fun x hx => by have := (hD.mem x).1 hx; omega)
    omega
/-- The number of the face of a dart, or -1. -/
def faceF (F : List (List Int)) (d : Int) : Int := match F.findIdx? (fun l => decide (d ∈ l)) with
  | some i => (i : Int)
  | none => -1
theorem faceF_at {F : List (List Int)} {d : Int} {i : Nat} (hi : i < F.length) (h : d ∈ rowOf F i) (hn : ∀ j, j < i → d ∉ rowOf F j) : faceF F d = i := by
  unfold faceF
  have : F.findIdx? (fun l => decide (d ∈ l)) = some i := by
    rw [List.findIdx?_eq_some_iff_getElem]
    refine ⟨hi, by rw [← rowOf_eq F hi]; exact decide_eq_true h, fun j hj => ?_⟩
    rw [← rowOf_eq F (by omega)]
    simpa using hn j hj
  rw [this]
theorem faceF_none {F : List (List Int)} {d : Int} (hn : ∀ j, j < F.length → d ∉ rowOf F j) : faceF F d = -1 := by
  unfold faceF
  have : F.findIdx? (fun l => decide (d ∈ l)) = none := by
    rw [List.findIdx?_eq_none_iff]
    intro l hl
    obtain ⟨i, hi, rfl⟩ := List.getElem_of_mem hl
    have := hn i hi
    rw [rowOf_eq F hi] at this
    exact decide_eq_false this
  rw [this]
theorem FcsOK.face {M : Nat} {F : List (List Int)} (h : FcsOK M F) {d : Int} {i : Nat} (hi : i < F.length) (hd : d ∈ rowOf F i) : faceF F d = i :=
  faceF_at hi hd fun j hj hm => by have := h.dis i j hi (by omega) d hd hm; omega
theorem FcsOK.fc {M : Nat} {F : List (List Int)} (h : FcsOK M F) {d : Int} (h0 : 0 ≤ d) (h1 : d < M) : ∃ i : Nat, faceF F d = i ∧ i < F.length ∧ d ∈ rowOf F i := by
  obtain ⟨i, hi, hd⟩ := h.cov d h0 h1
  exact ⟨i, h.face hi hd, hi, hd⟩

/-! ### The network -/
def supV (A : List (List Int)) : List Int := tab A.length fun v => 4 - ((rowOf A v).length : Int)
def supF (F : List (List Int)) (o : Int) : List Int := tab F.length fun i => if faceF F o = i then -4 - ((rowOf F i).length : Int) else 4 - ((rowOf F i).length : Int)
def supL (A F : List (List Int)) (o : Int) : List Int := supV A ++ supF F o
def arcP (n : Nat) (F : List (List Int)) (E : List (Int × Int)) (d : Nat) : List Fl.Ark := [⟨tailE E d, n + faceF F (oth d), 3, 0⟩, ⟨n + faceF F d, n + faceF F (oth d), 64, 1⟩]
def arcK (n : Nat) (F : List (List Int)) (E : List (Int × Int)) (k : Nat) : List Fl.Ark := (List.range k).flatMap (arcP n F E)
theorem arcK_succ (n : Nat) (F : List (List Int)) (E : List (Int × Int)) (k : Nat) : arcK n F E (k + 1) = arcK n F E k ++ arcP n F E k := by
  unfold arcK; rw [List.range_succ, List.flatMap_append]; simp
theorem arcK_len (n : Nat) (F : List (List Int)) (E : List (Int × Int)) : ∀ k, (arcK n F E k).length = 2 * k
  | 0 => rfl
  | k + 1 => by rw [arcK_succ, List.length_append, arcK_len n F E k]; simp [arcP]; omega
open Classical in
/-- Why there is no network. -/
noncomputable def netE (N : Int) (E : List (Int × Int)) (A : List (List Int)) (o : Int) : Int :=
  if vRotB N E A = false ∨ genusF N E A ≠ 0 then 13 else if cntL E A.length ≠ 1 then 12 else if ∃ v, v < A.length ∧ 4 < (rowOf A v).length then 11 else if o < 0 ∨ 2 * (E.length : Int) ≤ o ∧ 1 ≤ o then 3 else 0
/-- What is known where there is one. -/
structure NetOK (N : Int) (E : List (Int × Int)) (A : List (List Int)) (o : Int) : Prop where
  v : vRot N E A
  g : genusF N E A = 0
  c : cntL E A.length = 1
  d : ∀ v, v < A.length → (rowOf A v).length ≤ 4
  o : 0 ≤ o ∧ (o < 2 * (E.length : Int) ∨ o < 1)
theorem net_ok {N : Int} {E : List (Int × Int)} {A : List (List Int)} {o : Int} (h : netE N E A o = 0) : NetOK N E A o := by
  unfold netE at h
  split at h
  · omega
  · rename_i h1
    split at h
    · omega
    · rename_i h2
      split at h
      · omega
      · rename_i h3
        split at h
        · omega
        · rename_i h4
          have hv : vRotB N E A = true := by cases e : vRotB N E A <;> simp [e] at h1 ⊢
          refine ⟨vRotB_iff.1 hv, ?_, ?_, fun v hv => ?_, by omega⟩
          · exact Classical.byContradiction fun e => h1 (Or.inr e)
          · omega
          · exact Classical.byContradiction fun e => h3 ⟨v, hv, by omega⟩
theorem NetOK.e {N : Int} {E : List (Int × Int)} {A : List (List Int)} {o : Int} (h : NetOK N E A o) : netE N E A o = 0 := by
  unfold netE
  rw [if_neg (by rw [vRotB_iff.2 h.v, h.g]; simp), if_neg (by rw [h.c]; simp), if_neg (fun ⟨v, hv, k⟩ => by have := h.d v hv; omega), if_neg (by have := h.o; omega)]
/-- The supply, the arcs and the error. -/
noncomputable def netS (N : Int) (E : List (Int × Int)) (A : List (List Int)) (o : Int) : List Int := if netE N E A o = 0 ∧ E ≠ [] then supL A (facesO N E A) o else []
noncomputable def netA (N : Int) (E : List (Int × Int)) (A : List (List Int)) (o : Int) : List Fl.Ark := if netE N E A o = 0 ∧ E ≠ [] then arcK A.length (facesO N E A) E (2 * E.length) else []
def NetPost (s : List Int) (a : List Fl.Ark) (er : Int) (w : World) (e : Ending) (w' : World) : Prop :=
  Grew w w' ∧ ∃ p cp q cq, e = .returned (.tuple #[.agg #[.slice p s.length cp, .slice q a.length cq], .int .i64 er]) ∧ Fl.Ints w' p s ∧ Fl.Arks w' q a ∧ (p = none → s.length = 0 ∧ cp = 0)
end Go.Proofs.YtiihgpgpbgafiaaDoor

/- single and components of the program, Face of the reference. -/
namespace Go.Proofs.YtiihgpgpbgafiaaDoor
open Go.RowKit
attribute [local go_sem ↓] Go.wp_at_zero Go.wp_at_succ

theorem single_p (N : Int) (pE pA : Option Addr) (nE nA cE cA : Nat) (w : World) (r : Bool) (hr : decide (N = 1 ∧ nE = 0) = r) :
    Calls Tryd.prog 32 #[.agg #[.int .i64 N, .slice pE nE cE, .slice pA nA cA]] w fun e w' => e = .returned (.bool r) ∧ Grew w w' := by
  by_cases h1 : N = 1
  · subst h1
    by_cases h2 : nE = 0
    · subst h2
      have e : r = true := by rw [← hr]; simp
      subst e
      clear hr
      go_enter Tryd.func32, Tryd.ntmps32
      go_wp2
      go_ret
      exact ⟨rfl, by (repeat (first | exact gR _ | refine gO ?_ _ | refine gA ?_ _ | refine gD ?_ | refine gN ?_ _))⟩
    · have h3 : ((nE : Int) == 0) = false := beq_eq_false_iff_ne.2 (by omega)
      have e : r = false := by rw [← hr]; exact decide_eq_false (fun h => h2 h.2)
      subst e
      clear hr h2
      go_enter Tryd.func32, Tryd.ntmps32
      go_wp2
      go_ret
      exact ⟨rfl, by (repeat (first | exact gR _ | refine gO ?_ _ | refine gA ?_ _ | refine gD ?_ | refine gN ?_ _))⟩
  · have h3 : (N == 1) = false := beq_eq_false_iff_ne.2 h1
    have e : r = false := by rw [← hr]; exact decide_eq_false (fun h => h1 h.1)
    subst e
    clear hr h1
    go_enter Tryd.func32, Tryd.ntmps32
    go_wp2
    go_ret
    exact ⟨rfl, by (repeat (first | exact gR _ | refine gO ?_ _ | refine gA ?_ _ | refine gD ?_ | refine gN ?_ _))⟩

set_option maxRecDepth 8000 in
set_option maxHeartbeats 8000000 in
theorem components_p (N : Int) (pE pA : Option Addr) (nE nA cE cA : Nat) (E : List (Int × Int)) (A : List (List Int)) (f : Nat) (w : World) (hR : RotAt w pE pA E A) (hnE : E.length = nE) (hnA : A.length = nA) (hN : 0 ≤ N ∧ N ≤ 1000) (hf2 : f ≤ 1000) :
    Calls Tryd.prog 31 #[.agg #[.int .i64 N, .slice pE nE cE, .slice pA nA cA], .int .i64 f] w fun e w' => e = .returned (.int .i64 ((N - E.length + ((f : Int) + isoN A)).tdiv 2)) ∧ Grew w w' := by
  subst hnE hnA
  have he1 := hR.e1
  have ha1 := hR.a1
  have HR := Lib.hid hR
  clear hR
  go_enter Tryd.func31, Tryd.ntmps31
  go_wp2
  go_loop [1, 10] (fun vf i => ∃ v : Nat, v ≤ A.length ∧ i = .int .i64 v ∧ vf = .int .i64 ((f : Int) + cntP (fun u => (rowOf A u).length = 0) v)) (fun _ i => A.length - (intOf i).toNat)
  case atStart => exact ⟨0, Nat.zero_le _, rfl, by simp [cntP]⟩
  case round =>
    obtain ⟨v, hv, rfl, rfl⟩ := hrel
    have hce := cntP_le (fun u => (rowOf A u).length = 0) v
    have Hcs : Hid (cntP (fun u => (rowOf A u).length = 0) (v + 1) = cntP (fun u => (rowOf A u).length = 0) v + if (rowOf A v).length = 0 then 1 else 0) := Lib.hid (by simp only [cntP]; split <;> rename_i h <;> simp [h])
    by_cases hlv : v < A.length
    · obtain ⟨c, hc⟩ : ∃ c, cntP (fun u => (rowOf A u).length = 0) v = c := ⟨_, rfl⟩
      rw [hc] at hce Hcs ⊢
      clear hc
      obtain ⟨bA, oA, rp, rc, rfl, lA, cA'⟩ := HR.out.hA.rows (by omega)
      obtain ⟨a1, _⟩ := cA' w (Grew.refl _) v hlv
      obtain ⟨rv, hrv⟩ : ∃ rv, rp v = rv := ⟨_, rfl⟩
      rw [hrv] at a1
      have hrl := HR.out.r1 v hlv
      clear cA' hrv
      by_cases h0 : rowOf A v = []
      · have Hcs2 : Hid (cntP (fun u => (rowOf A u).length = 0) (v + 1) = c + 1) := Lib.hid (by rw [Hcs.out, if_pos (by rw [h0]; rfl)])
        rw [h0] at a1
        clear h0 hrl
        go_wp2
        go_round
        case rel => exact ⟨v + 1, by omega, by go_num, by rw [Hcs2.out]; go_num⟩
        case measure => simp [intOf]; omega
      · have h0l : 0 < (rowOf A v).length := List.length_pos_iff.2 h0
        have Hcs2 : Hid (cntP (fun u => (rowOf A u).length = 0) (v + 1) = c) := Lib.hid (by rw [Hcs.out, if_neg (by omega)]; rfl)
        go_wp2
        go_round
        case rel => exact ⟨v + 1, by omega, by go_num, by rw [Hcs2.out]⟩
        case measure => simp [intOf]; omega
    · have hve : v = A.length := by omega
      subst hve
      have Hi : Hid (isoN A = cntP (fun u => (rowOf A u).length = 0) A.length) := Lib.hid rfl
      obtain ⟨c, hc⟩ : ∃ c, cntP (fun u => (rowOf A u).length = 0) A.length = c := ⟨_, rfl⟩
      rw [hc] at hce Hi ⊢
      clear hc Hcs
      have h1 : wrap64 (N - (E.length : Int)) = N - E.length := IntWalk.wrap64_in _ ⟨by omega, by omega⟩
      have h2 : wrap64 (N - (E.length : Int) + ((f : Int) + (c : Int))) = N - E.length + ((f : Int) + c) := IntWalk.wrap64_in _ ⟨by omega, by omega⟩
      go_wp2
      go_ret
      exact ⟨by rw [Hi.out]; rfl, by (repeat (first | exact gR _ | refine gO ?_ _ | refine gA ?_ _ | refine gD ?_ | refine gN ?_ _))⟩

set_option maxRecDepth 8000 in
set_option maxHeartbeats 8000000 in
theorem face_r (q : Option Addr) (nF cF : Nat) (F : List (List Int)) (d : Int) (w : World) (hM : Mat w q F) (hn : F.length = nF) (r : Int) (hr : faceF F d = r) :
    Calls Tryd.prog 26 #[.slice q nF cF, .int .i64 d] w fun e w' => e = .returned (.int .i64 r) ∧ w = w' := by
  subst hn
  have Hr := Lib.hid hr
  clear hr
  have hm := hM.1
  have HM := Lib.hid hM
  clear hM
  go_enter Tryd.func26, Tryd.ntmps26
  go_wp2
  go_loop [5] (fun i => ∃ v : Nat, v ≤ F.length ∧ i = .int .i64 v ∧ ∀ j, j < v → d ∉ rowOf F j) (fun i => F.length - (intOf i).toNat)
  case atStart => exact ⟨0, Nat.zero_le _, rfl, fun j hj => by omega⟩
  case round =>
    obtain ⟨v, hv, rfl, hall⟩ := hrel
    have Hall := Lib.hid hall
    clear hall
    by_cases hlv : v < F.length
    · obtain ⟨bA, oA, rp, rc, rfl, lA, cA'⟩ := HM.out.rows (by omega)
      obtain ⟨a1, hrow⟩ := cA' w (Grew.refl _) v hlv
      obtain ⟨rv, hrv⟩ : ∃ rv, rp v = rv := ⟨_, rfl⟩
      rw [hrv] at a1 hrow
      obtain ⟨R, hR⟩ : ∃ R, rowOf F v = R := ⟨_, rfl⟩
      rw [hR] at a1 hrow
      have HR := Lib.hid hR
      have hRm := hrow.1
      obtain ⟨_, _, b, o, h3, h4⟩ := hrow
      have H3 := Lib.hid h3
      have H4 := Lib.hid h4
      clear cA' hrv hR h3 h4
      go_wp2
      go_loop [6] (fun i => ∃ k : Nat, k ≤ R.length ∧ i = .int .i64 k ∧ ∀ j, j < k → ge R j ≠ d) (fun i => R.length - (intOf i).toNat)
      case atStart => exact ⟨0, Nat.zero_le _, rfl, fun j hj => by omega⟩
      case round =>
        obtain ⟨k, hk, rfl, hal2⟩ := hrel
        have Hal2 := Lib.hid hal2
        clear hal2
        by_cases hlt : k < R.length
        · obtain ⟨rfl, hb⟩ := H3.out (by omega)
          have hc := H4.out k hlt
          obtain ⟨x, hx⟩ : ∃ x, ge R k = x := ⟨_, rfl⟩
          rw [hx] at hc
          have Hx := Lib.hid hx
          clear hx
          by_cases he : x = d
          · have Hf := Lib.hid (faceF_at hlv (d := d) (by rw [HR.out, ← he, ← Hx.out]; exact ge_mem hlt) Hall.out)
            have he' : (x == d) = true := beq_iff_eq.2 he
            clear he
            go_wp2
            go_ret
            exact ⟨ret_int (Hf.out.symm.trans Hr.out), rfl⟩
          · have he' : (x == d) = false := beq_eq_false_iff_ne.2 he
            have He := Lib.hid he
            clear he
            go_wp2
            go_round
            case rel => exact ⟨k + 1, by omega, by go_num, fun j hj => by
              by_cases h : j = k
              · rw [h, Hx.out]; exact He.out
              · exact Hal2.out j (by omega)⟩
            case measure => (simp [intOf] <;> omega)
        · go_wp2
          go_round
          case rel => exact ⟨v + 1, by omega, by go_num, fun j hj => by
            by_cases h : j = v
            · rw [h, HR.out]
              intro hd
              obtain ⟨i, hi, e⟩ := List.getElem_of_mem hd
              exact Hal2.out i (by omega) (by rw [ge_eq R hi]; exact e)
            · exact Hall.out j (by omega)⟩
          case measure => (simp [intOf] <;> omega)
    · have Hf := Lib.hid (faceF_none (F := F) (d := d) fun j hj => Hall.out j (by omega))
      go_wp2
      go_ret
      exact ⟨ret_int (Hf.out.symm.trans Hr.out), rfl⟩
end Go.Proofs.YtiihgpgpbgafiaaDoor

/- Net of the program, where there is no network. -/
namespace Go.Proofs.YtiihgpgpbgafiaaDoor
open Go.RowKit
attribute [local go_sem ↓] Go.wp_at_zero Go.wp_at_succ

theorem netpost_none {w w' : World} (er : Int) (hg : Grew w w') : NetPost [] [] er w (.returned (.tuple #[.agg #[.slice none 0 0, .slice none 0 0], .int .i64 er])) w' := by
  refine ⟨hg, none, 0, none, 0, rfl, ?_, ?_, fun _ => ⟨rfl, rfl⟩⟩
  · exact ⟨by simp, by simp, 0, 0, by simp, by simp⟩
  · exact ⟨by simp, by simp, 0, 0, by simp, by simp⟩
theorem comps_of {N : Int} {E : List (Int × Int)} {A : List (List Int)} (hV : vRot N E A) (hg : genusF N E A = 0) : (N - E.length + (((facesO N E A).length : Int) + isoN A)).tdiv 2 = cntL E A.length := by
  have h := genus_eq hV
  rw [hg] at h
  unfold genX at h
  have e : facesO N E A = facesF A (2 * E.length) := by unfold facesO; rw [if_pos (vRotB_iff.2 hV)]
  rw [e]
  omega
theorem cnt_nil (n : Nat) : cntL [] n = n := by
  unfold cntL
  exact cntP_all fun v _ u h0 h1 hc => by have := Cn_zero hc; omega
set_option maxRecDepth 8000 in
set_option maxHeartbeats 8000000 in
theorem net_p_no (N : Int) (pE pA : Option Addr) (nE nA cE cA : Nat) (E : List (Int × Int)) (A : List (List Int)) (o : Int) (w : World) (hR : RotAt w pE pA E A) (hL : Lim w) (hnE : E.length = nE) (hnA : A.length = nA) (hE3 : E.length ≤ 30) (hA3 : A.length ≤ 30) (hno : netE N E A o ≠ 0 ∨ E = []) :
    Calls Tryd.prog 10 #[.agg #[.int .i64 N, .slice pE nE cE, .slice pA nA cA], .int .i64 o] w (NetPost [] [] (netE N E A o) w) := by
  subst hnE hnA
  have he1 := hR.e1
  have ha1 := hR.a1
  have HR := Lib.hid hR
  have HL := Lib.hid hL
  clear hR hL
  cases hv : vRotB N E A
  case false =>
    have Hf : Hid (netE N E A o = 13) := Lib.hid (by unfold netE; rw [if_pos (Or.inl hv)])
    have Hv := Lib.hid hv
    clear hv hno
    go_enter Tryd.func10, Tryd.ntmps10
    go_wp2_with (go_at_call 28; apply Calls.mono; (with_reducible exact valid_pe Hv.out (HR.out.grew (by (repeat (first | exact gR _ | refine gO ?_ _ | refine gA ?_ _ | refine gD ?_ | refine gN ?_ _)))) (HL.out.grew (by (repeat (first | exact gR _ | refine gO ?_ _ | refine gA ?_ _ | refine gD ?_ | refine gN ?_ _)))) rfl rfl); rintro e w' ⟨rfl, x, rfl⟩)
    refine bodyPost_ret (v := .tuple #[.agg #[.slice none 0 0, .slice none 0 0], .int .i64 13]) (by simp [results, Tryd.results10, go_sem, ↓IntWalk.iteOmega]) rfl ?_
    rw [Hf.out]
    exact netpost_none _ (by (repeat (first | exact gR _ | refine gO ?_ _ | refine gA ?_ _ | refine gD ?_ | refine gN ?_ _)))
  case true =>
  have Hv := Lib.hid hv
  have HV := Lib.hid (vRotB_iff.1 hv)
  have hN : N = A.length := HV.out.al.symm
  subst hN
  obtain ⟨g, hg⟩ : ∃ g, genusF A.length E A = g := ⟨_, rfl⟩
  have Hg : Hid (∀ W1, Grew w W1 → Calls Tryd.prog 29 #[.agg #[.int .i64 A.length, .slice pE E.length cE, .slice pA A.length cA]] W1 fun e w' => e = .returned (.int .i64 g) ∧ Grew W1 w') := Lib.hid (fun W1 h => by rw [← hg]; exact genus_p _ _ _ _ _ _ _ _ _ _ (HR.out.grew h) (HL.out.grew h) rfl rfl)
  by_cases hg0 : g ≠ 0
  · have Hf : Hid (netE A.length E A o = 13) := Lib.hid (by unfold netE; rw [if_pos (Or.inr (by rw [hg]; exact hg0))])
    have hgb : (g != 0) = true := by simpa using hg0
    clear hv hno hg hg0
    go_enter Tryd.func10, Tryd.ntmps10
    go_wp2_with (first
      | (go_at_call 28; apply Calls.mono; (with_reducible exact valid_pe Hv.out (HR.out.grew (by (repeat (first | exact gR _ | refine gO ?_ _ | refine gA ?_ _ | refine gD ?_ | refine gN ?_ _)))) (HL.out.grew (by (repeat (first | exact gR _ | refine gO ?_ _ | refine gA ?_ _ | refine gD ?_ | refine gN ?_ _)))) rfl rfl); rintro e w' ⟨rfl, x, rfl⟩)
      | (go_at_call 29; apply Calls.mono; (with_reducible exact Hg.out _ (by (repeat (first | exact gR _ | refine gO ?_ _ | refine gA ?_ _ | refine gD ?_ | refine gN ?_ _)))); rintro e w' ⟨rfl, x, rfl⟩))
    refine bodyPost_ret (v := .tuple #[.agg #[.slice none 0 0, .slice none 0 0], .int .i64 13]) (by simp [results, Tryd.results10, go_sem, ↓IntWalk.iteOmega]) rfl ?_
    rw [Hf.out]
    exact netpost_none _ (by (repeat (first | exact gR _ | refine gO ?_ _ | refine gA ?_ _ | refine gD ?_ | refine gN ?_ _)))
  have hg00 : g = 0 := Classical.byContradiction hg0
  subst hg00
  have Hff := Lib.hid (facs_ok HV.out)
  obtain ⟨f, hf⟩ : ∃ f, (facesO A.length E A).length = f := ⟨_, rfl⟩
  have hf2 : f ≤ 2 * E.length := by rw [← hf]; exact Hff.out.len
  have Hlf := Lib.hid hf
  obtain ⟨cl, hcl⟩ : ∃ cl, cntL E A.length = cl := ⟨_, rfl⟩
  have hcl2 : cl ≤ A.length := by rw [← hcl]; exact cntP_le _ _
  have Hc : Hid (∀ W1, Grew w W1 → Calls Tryd.prog 31 #[.agg #[.int .i64 A.length, .slice pE E.length cE, .slice pA A.length cA], .int .i64 f] W1 fun e w' => e = .returned (.int .i64 (cl : Int)) ∧ Grew W1 w') := Lib.hid (fun W1 h => by
    have h1 := components_p A.length pE pA E.length A.length cE cA E A f W1 (HR.out.grew h) rfl rfl (by omega) (by omega)
    rw [← hf, comps_of HV.out hg, hcl] at h1
    rw [← hf]
    exact h1)
  by_cases hc1 : cl ≠ 1
  · have Hf : Hid (netE A.length E A o = 12) := Lib.hid (by unfold netE; rw [if_neg (by rw [hv, hg]; simp), if_pos (by rw [hcl]; exact hc1)])
    have hcb : ((cl : Int) != 1) = true := by simp; omega
    clear hv hno hg hg0 hf hcl hc1
    go_enter Tryd.func10, Tryd.ntmps10
    go_wp2_with (first
      | (go_at_call 28; apply Calls.mono; (with_reducible exact valid_pe Hv.out (HR.out.grew (by (repeat (first | exact gR _ | refine gO ?_ _ | refine gA ?_ _ | refine gD ?_ | refine gN ?_ _)))) (HL.out.grew (by (repeat (first | exact gR _ | refine gO ?_ _ | refine gA ?_ _ | refine gD ?_ | refine gN ?_ _)))) rfl rfl); rintro e w' ⟨rfl, x, rfl⟩)
      | (go_at_call 29; apply Calls.mono; (with_reducible exact Hg.out _ (by (repeat (first | exact gR _ | refine gO ?_ _ | refine gA ?_ _ | refine gD ?_ | refine gN ?_ _)))); rintro e w' ⟨rfl, x, rfl⟩)
      | (go_at_call 30; apply Calls.mono; (with_reducible exact faces_p _ _ _ _ _ _ _ _ _ _ (HR.out.grew (by (repeat (first | exact gR _ | refine gO ?_ _ | refine gA ?_ _ | refine gD ?_ | refine gN ?_ _)))) (HL.out.grew (by (repeat (first | exact gR _ | refine gO ?_ _ | refine gA ?_ _ | refine gD ?_ | refine gN ?_ _)))) rfl rfl); rintro e w3 ⟨hg3, qF, cF, rfl, _⟩; obtain ⟨x3, rfl⟩ := hg3; rw [Hlf.out])
      | (go_at_call 31; apply Calls.mono; (with_reducible exact Hc.out _ (by (repeat (first | exact gR _ | refine gO ?_ _ | refine gA ?_ _ | refine gD ?_ | refine gN ?_ _)))); rintro e w' ⟨rfl, x, rfl⟩))
    refine bodyPost_ret (v := .tuple #[.agg #[.slice none 0 0, .slice none 0 0], .int .i64 12]) (by simp [results, Tryd.results10, go_sem, ↓IntWalk.iteOmega]) rfl ?_
    rw [Hf.out]
    exact netpost_none _ (by (repeat (first | exact gR _ | refine gO ?_ _ | refine gA ?_ _ | refine gD ?_ | refine gN ?_ _)))
  have hc11 : cl = 1 := Classical.byContradiction hc1
  subst hc11
  go_enter Tryd.func10, Tryd.ntmps10
  go_upto_region 6 with (first
    | (go_at_call 28; apply Calls.mono; (with_reducible exact valid_pe Hv.out (HR.out.grew (by (repeat (first | exact gR _ | refine gO ?_ _ | refine gA ?_ _ | refine gD ?_ | refine gN ?_ _)))) (HL.out.grew (by (repeat (first | exact gR _ | refine gO ?_ _ | refine gA ?_ _ | refine gD ?_ | refine gN ?_ _)))) rfl rfl); rintro e w' ⟨rfl, x, rfl⟩)
    | (go_at_call 29; apply Calls.mono; (with_reducible exact Hg.out _ (by (repeat (first | exact gR _ | refine gO ?_ _ | refine gA ?_ _ | refine gD ?_ | refine gN ?_ _)))); rintro e w' ⟨rfl, x, rfl⟩)
    | (go_at_call 30; apply Calls.mono; (with_reducible exact faces_p _ _ _ _ _ _ _ _ _ _ (HR.out.grew (by (repeat (first | exact gR _ | refine gO ?_ _ | refine gA ?_ _ | refine gD ?_ | refine gN ?_ _)))) (HL.out.grew (by (repeat (first | exact gR _ | refine gO ?_ _ | refine gA ?_ _ | refine gD ?_ | refine gN ?_ _)))) rfl rfl); rintro e w3 ⟨hg3, qF, cF, rfl, _⟩; obtain ⟨x3, rfl⟩ := hg3; rw [Hlf.out])
    | (go_at_call 31; apply Calls.mono; (with_reducible exact Hc.out _ (by (repeat (first | exact gR _ | refine gO ?_ _ | refine gA ?_ _ | refine gD ?_ | refine gN ?_ _)))); rintro e w' ⟨rfl, x, rfl⟩))
  have hA0 : 0 < A.length := by omega
  obtain ⟨bA, oA, rp, rc, rfl, lA, cA'⟩ := HR.out.hA.rows hA0
  have HcA := Lib.hid cA'
  clear cA'
  go_wp2
  go_loop [40] (fun i => ∃ v : Nat, v ≤ A.length ∧ i = .int .i64 v ∧ ∀ u, u < v → (rowOf A u).length ≤ 4) (fun i => A.length - (intOf i).toNat)
  case atStart => exact ⟨0, Nat.zero_le _, rfl, fun u hu => by omega⟩
  case round =>
    obtain ⟨v, hv2, rfl, hall⟩ := hrel
    have Hall := Lib.hid hall
    clear hall
    by_cases hlv : v < A.length
    · obtain ⟨a1, _⟩ := HcA.out w (Grew.refl _) v hlv
      obtain ⟨rv, hrv⟩ : ∃ rv, rp v = rv := ⟨_, rfl⟩
      rw [hrv] at a1
      obtain ⟨ln, hln⟩ : ∃ ln, (rowOf A v).length = ln := ⟨_, rfl⟩
      rw [hln] at a1
      have hl100 : ln ≤ 100 := by rw [← hln]; exact HR.out.r1 v hlv
      have Hln := Lib.hid hln
      by_cases h4 : 4 < ln
      · have Hf : Hid (netE A.length E A o = 11) := Lib.hid (by unfold netE; rw [if_neg (by rw [hv, hg]; simp), if_neg (by rw [hcl]; simp), if_pos ⟨v, hlv, by rw [Hln.out]; exact h4⟩])
        clear hrv hln hno hv hg hf hcl
        go_wp2
        refine bodyPost_ret (v := .tuple #[.agg #[.slice none 0 0, .slice none 0 0], .int .i64 11]) (by simp [results, Tryd.results10, go_sem, ↓IntWalk.iteOmega]) rfl ?_
        rw [Hf.out]
        exact netpost_none _ (by (repeat (first | exact gR _ | refine gO ?_ _ | refine gA ?_ _ | refine gD ?_ | refine gN ?_ _)))
      · clear hrv hln hno hv hg hf hcl
        go_wp2
        go_round
        case rel => exact ⟨v + 1, by omega, by go_num, fun u hu => by
          by_cases h : u = v
          · rw [h, Hln.out]; omega
          · exact Hall.out u (by omega)⟩
        case measure => (simp [intOf] <;> omega)
    · have hve : v = A.length := by omega
      subst hve
      have hdeg : ¬ ∃ v, v < A.length ∧ 4 < (rowOf A v).length := fun ⟨u, hu, k⟩ => by have := Hall.out u hu; omega
      by_cases h0 : o < 0
      · have Hf : Hid (netE A.length E A o = 3) := Lib.hid (by unfold netE; rw [if_neg (by rw [hv, hg]; simp), if_neg (by rw [hcl]; simp), if_neg hdeg, if_pos (Or.inl h0)])
        clear hno hv hg hf hcl hdeg
        go_wp2
        refine bodyPost_ret (v := .tuple #[.agg #[.slice none 0 0, .slice none 0 0], .int .i64 3]) (by simp [results, Tryd.results10, go_sem, ↓IntWalk.iteOmega]) rfl ?_
        rw [Hf.out]
        exact netpost_none _ (by (repeat (first | exact gR _ | refine gO ?_ _ | refine gA ?_ _ | refine gD ?_ | refine gN ?_ _)))
      · by_cases hE0 : E.length = 0
        · have hEn : E = [] := List.length_eq_zero_iff.1 hE0
          subst hEn
          have hA1 : A.length = 1 := by rw [cnt_nil] at hcl; exact hcl
          have Hs : Hid (∀ W1, Grew w W1 → Calls Tryd.prog 32 #[.agg #[.int .i64 1, .slice pE 0 cE, .slice (some ⟨bA, oA, none⟩) 1 cA]] W1 fun e w' => e = .returned (.bool true) ∧ Grew W1 w') := Lib.hid (fun W1 h => single_p _ _ _ _ _ _ _ _ _ (by simp))
          by_cases h1 : 1 ≤ o
          · have Hf : Hid (netE 1 [] A o = 3) := Lib.hid (by rw [← show (A.length : Int) = 1 by omega]; unfold netE; rw [if_neg (by rw [hv, hg]; simp), if_neg (by rw [hcl]; simp), if_neg hdeg, if_pos (Or.inr (by simp; omega))])
            clear hno hv hg hf hcl hdeg hE0
            go_wp2
            refine bodyPost_ret (v := .tuple #[.agg #[.slice none 0 0, .slice none 0 0], .int .i64 3]) (by simp [results, Tryd.results10, go_sem, ↓IntWalk.iteOmega]) rfl ?_
            rw [Hf.out]
            exact netpost_none _ (by (repeat (first | exact gR _ | refine gO ?_ _ | refine gA ?_ _ | refine gD ?_ | refine gN ?_ _)))
          · have Hf : Hid (netE A.length [] A o = 0) := Lib.hid (by unfold netE; rw [if_neg (by rw [hv, hg]; simp), if_neg (by rw [hcl]; simp), if_neg hdeg, if_neg (by simp; omega)])
            clear hno hv hg hf hcl hdeg hE0
            go_wp2_with (go_at_call 32; apply Calls.mono; (with_reducible exact Hs.out _ (by (repeat (first | exact gR _ | refine gO ?_ _ | refine gA ?_ _ | refine gD ?_ | refine gN ?_ _)))); rintro e w' ⟨rfl, x, rfl⟩)
            refine bodyPost_ret (v := .tuple #[.agg #[.slice none 0 0, .slice none 0 0], .int .i64 0]) (by simp [results, Tryd.results10, go_sem, ↓IntWalk.iteOmega]) rfl ?_
            rw [Hf.out]
            exact netpost_none _ (by (repeat (first | exact gR _ | refine gO ?_ _ | refine gA ?_ _ | refine gD ?_ | refine gN ?_ _)))
        · by_cases h1 : 2 * (E.length : Int) ≤ o
          · have Hf : Hid (netE A.length E A o = 3) := Lib.hid (by unfold netE; rw [if_neg (by rw [hv, hg]; simp), if_neg (by rw [hcl]; simp), if_neg hdeg, if_pos (Or.inr ⟨h1, by omega⟩)])
            clear hno hv hg hf hcl hdeg
            go_wp2
            refine bodyPost_ret (v := .tuple #[.agg #[.slice none 0 0, .slice none 0 0], .int .i64 3]) (by simp [results, Tryd.results10, go_sem, ↓IntWalk.iteOmega]) rfl ?_
            rw [Hf.out]
            exact netpost_none _ (by (repeat (first | exact gR _ | refine gO ?_ _ | refine gA ?_ _ | refine gD ?_ | refine gN ?_ _)))
          · exfalso
            have Hf : netE A.length E A o = 0 := by unfold netE; rw [if_neg (by rw [hv, hg]; simp), if_neg (by rw [hcl]; simp), if_neg hdeg, if_neg (by omega)]
            rcases hno with h | h
            · exact h Hf
            · rw [h] at hE0; exact hE0 rfl
end Go.Proofs.YtiihgpgpbgafiaaDoor

/- Memory of the network in the making. -/
namespace Go.Proofs.YtiihgpgpbgafiaaDoor
open Go.RowKit

/-- A struct in a block of its own. -/
abbrev bx (g : Nat) (T : TypeId) (sz : Nat) (vs : List Value) : Row := ⟨.slice (some ⟨g, 0, none⟩) 1 1, T, sz, 1, vs⟩
theorem own_bx {w : World} {B : Nat} {rs : List Row} (h : Owns w B rs) {j g sz : Nat} {T : TypeId} {vs : List Value} (hk : rs[j]? = some (bx g T sz vs)) :
    B ≤ g ∧ g < w.heap.size ∧ (∀ i, w.frozen? ⟨g, i, none⟩ = false) ∧ ∀ i u, vs[i]? = some u → w.cell? ⟨g, i, none⟩ = some u := by
  obtain ⟨g', c, e, h1, h2, _, _, h5, h6⟩ := h.some hk (by omega)
  simp only [Value.slice.injEq, Option.some.injEq, Addr.mk.injEq] at e
  obtain ⟨⟨rfl, _⟩, _⟩ := e
  exact ⟨h1, h2, h5, h6⟩
theorem eight_news {w : World} {g : Nat} {a b c d e f x y : Value} (h0 : w.cell? ⟨g, 0, none⟩ = some a) (h1 : w.cell? ⟨g, 1, none⟩ = some b) (h2 : w.cell? ⟨g, 2, none⟩ = some c) (h3 : w.cell? ⟨g, 3, none⟩ = some d) (h4 : w.cell? ⟨g, 4, none⟩ = some e) (h5 : w.cell? ⟨g, 5, none⟩ = some f) (h6 : w.cell? ⟨g, 6, none⟩ = some x) (h7 : w.cell? ⟨g, 7, none⟩ = some y) :
    ∀ q, some (⟨g, 0, none⟩ : Addr) = some q → ∀ j u, [a, b, c, d, e, f, x, y][j]? = some u → w.cell? (q.add j) = some u := by
  intro q hq j u hj
  cases hq
  rw [Addr.add_lit, Nat.zero_add]
  match j, hj with
  | 0, hj => simp at hj; subst hj; exact h0
  | 1, hj => simp at hj; subst hj; exact h1
  | 2, hj => simp at hj; subst hj; exact h2
  | 3, hj => simp at hj; subst hj; exact h3
  | 4, hj => simp at hj; subst hj; exact h4
  | 5, hj => simp at hj; subst hj; exact h5
  | 6, hj => simp at hj; subst hj; exact h6
  | 7, hj => simp at hj; subst hj; exact h7
theorem Tryd.infoArk : (Tryd.prog.info? 63).map (fun i => (i.zero, i.size, i.bytes)) = some (some (.agg #[.int .i64 0, .int .i64 0, .int .i64 0, .int .i64 0]), 4, 32) := by kernel_rfl

/-! ### Arcs in memory of the call's own -/
def ak4 (a : Fl.Ark) : List Value := [.int .i64 a.fr, .int .i64 a.ed, .int .i64 a.cap, .int .i64 a.cost]
def akVs (A : List Fl.Ark) : List Value := A.flatMap ak4
theorem akVs_app (A B : List Fl.Ark) : akVs (A ++ B) = akVs A ++ akVs B := by simp [akVs]
theorem akVs_get : ∀ {A : List Fl.Ark} {i : Nat}, i < A.length → ∀ k, k < 4 → (akVs A)[i * 4 + k]? = (ak4 (Fl.aK A i))[k]?
  | [], i, h, _, _ => by simp at h
  | x :: A, 0, h, k, hk => by
    show (ak4 x ++ akVs A)[0 * 4 + k]? = _
    rw [Nat.zero_mul, Nat.zero_add, List.getElem?_append_left (by simp [ak4]; exact hk)]
    rfl
  | x :: A, i + 1, h, k, hk => by
    show (ak4 x ++ akVs A)[(i + 1) * 4 + k]? = _
    rw [List.getElem?_append_right (by simp [ak4]; omega)]
    have e : (i + 1) * 4 + k - (ak4 x).length = i * 4 + k := by simp [ak4]; omega
    rw [e]
    exact akVs_get (by simpa using h) k hk
abbrev aR (v : Value) (n : Nat) (A : List Fl.Ark) : Row := ⟨v, 63, 4, n, akVs A⟩
theorem own_arks {w : World} {B : Nat} {rs : List Row} {k n : Nat} {v : Value} {A : List Fl.Ark} (h : Owns w B rs) (hk : rs[k]? = some (aR v n A)) (hn : A.length = n) (hm : n ≤ 100000) (hw : ∀ i, i < A.length → Fl.w64 (Fl.aK A i).fr ∧ Fl.w64 (Fl.aK A i).ed ∧ Fl.w64 (Fl.aK A i).cap ∧ Fl.w64 (Fl.aK A i).cost) :
    ∃ q c, v = .slice q n c ∧ Fl.Arks w q A := by
  subst hn
  rcases (h.get hk).2 with ⟨g1, g2⟩ | ⟨g, cap, g1, g2, g3, g4, _, _, g6⟩
  · exact ⟨none, 0, by rw [g1, g2], by omega, hw, 0, 0, fun h0 => by omega, fun i hi => by omega⟩
  · refine ⟨_, cap, g1, by omega, hw, g, 0, fun _ => ⟨rfl, g3⟩, fun i hi => ?_⟩
    have key : ∀ j x, j < 4 → (ak4 (Fl.aK A i))[j]? = some x → w.cell? ⟨g, 0 + i * 4 + j, none⟩ = some x := fun j x hj hx => g6 (0 + i * 4 + j) x (by rw [Nat.zero_add, akVs_get hi j hj]; exact hx)
    exact ⟨key 0 _ (by omega) rfl, key 1 _ (by omega) rfl, key 2 _ (by omega) rfl, key 3 _ (by omega) rfl⟩

/-! ### What the network holds -/
section
variable {N : Int} {E : List (Int × Int)} {A : List (List Int)} {o : Int}
theorem NetOK.n (h : NetOK N E A o) : N = A.length := h.v.al.symm
theorem NetOK.fc (h : NetOK N E A o) {d : Int} (h0 : 0 ≤ d) (h1 : d < 2 * (E.length : Int)) : ∃ i : Nat, faceF (facesO N E A) d = i ∧ i < (facesO N E A).length ∧ d ∈ rowOf (facesO N E A) i :=
  (facs_ok h.v).fc h0 (by push_cast; exact h1)
theorem oth_bd {M : Nat} {d : Int} (h0 : 0 ≤ d) (h1 : d < 2 * (M : Int)) : 0 ≤ oth d ∧ oth d < 2 * (M : Int) := by unfold oth; split <;> omega
theorem supV_len (A : List (List Int)) : (supV A).length = A.length := tab_length _ _
theorem supF_len (F : List (List Int)) (o : Int) : (supF F o).length = F.length := tab_length _ _
theorem aK_get {n : Nat} {F : List (List Int)} {E : List (Int × Int)} : ∀ {k d : Nat}, d < k → Fl.aK (arcK n F E k) (2 * d) = ⟨tailE E d, n + faceF F (oth d), 3, 0⟩ ∧ Fl.aK (arcK n F E k) (2 * d + 1) = ⟨n + faceF F d, n + faceF F (oth d), 64, 1⟩
  | 0, d, h => by omega
  | k + 1, d, h => by
    have hl := arcK_len n F E k
    rw [arcK_succ]
    unfold Fl.aK
    by_cases e : d = k
    · subst e
      rw [List.getD_eq_getElem?_getD, List.getD_eq_getElem?_getD, List.getElem?_append_right (by omega), List.getElem?_append_right (by omega), hl, Nat.sub_self, show 2 * d + 1 - 2 * d = 1 by omega]
      exact ⟨rfl, rfl⟩
    · have ih := aK_get (n := n) (F := F) (E := E) (k := k) (d := d) (by omega)
      unfold Fl.aK at ih
      rw [List.getD_eq_getElem?_getD, List.getD_eq_getElem?_getD, List.getElem?_append_left (by omega), List.getElem?_append_left (by omega), ← List.getD_eq_getElem?_getD, ← List.getD_eq_getElem?_getD]
      exact ih
theorem NetOK.arcs (h : NetOK N E A o) {k : Nat} (hk : k ≤ 2 * E.length) (hA : A.length ≤ 1000) (hE : E.length ≤ 1000) : ∀ i, i < (arcK A.length (facesO N E A) E k).length → Fl.w64 (Fl.aK (arcK A.length (facesO N E A) E k) i).fr ∧ Fl.w64 (Fl.aK (arcK A.length (facesO N E A) E k) i).ed ∧ Fl.w64 (Fl.aK (arcK A.length (facesO N E A) E k) i).cap ∧ Fl.w64 (Fl.aK (arcK A.length (facesO N E A) E k) i).cost := by
  intro i hi
  rw [arcK_len] at hi
  have hl := (facs_ok h.v).len
  obtain ⟨d, hd⟩ : ∃ d, i = 2 * d ∨ i = 2 * d + 1 := ⟨i / 2, by omega⟩
  have hdk : d < k := by omega
  obtain ⟨e1, e2⟩ := aK_get (n := A.length) (F := facesO N E A) (E := E) hdk
  obtain ⟨a, ha, ha2, _⟩ := h.fc (d := d) (by omega) (by omega)
  have ho := oth_bd (M := E.length) (d := (d : Int)) (by omega) (by omega)
  obtain ⟨b, hb, hb2, _⟩ := h.fc ho.1 ho.2
  have ht := tail_in h.v (d := (d : Int)) (by omega) (by omega)
  have hn := h.n
  unfold Fl.w64
  rcases hd with rfl | rfl
  · rw [e1, hb]; dsimp only; omega
  · rw [e2, ha, hb]; dsimp only; omega
theorem NetOK.sup (h : NetOK N E A o) (hA : A.length ≤ 1000) (hE : E.length ≤ 1000) : ∀ x ∈ supL A (facesO N E A) o, -3000 ≤ x ∧ x ≤ 4 := by
  intro x hx
  unfold supL at hx
  have hr := (facs_ok h.v).row
  rcases List.mem_append.1 hx with hx | hx
  · unfold supV tab at hx
    obtain ⟨v, hv, rfl⟩ := List.mem_map.1 hx
    have := h.d v (List.mem_range.1 hv)
    omega
  · unfold supF tab at hx
    obtain ⟨i, hi, rfl⟩ := List.mem_map.1 hx
    have := hr i (List.mem_range.1 hi)
    split <;> omega
end
end Go.Proofs.YtiihgpgpbgafiaaDoor

/- Connected of the reference. -/
namespace Go.Proofs.YtiihgpgpbgafiaaDoor
open Go.RowKit
attribute [local go_sem ↓] Go.wp_at_zero Go.wp_at_succ

theorem bfs_one {E : List (Int × Int)} {N : Nat} {S : List Int} (hN : 0 < N) (h : Bfs E N 0 S []) : decide (S.length = N) = decide (cntL E N = 1) := by
  have hS := h.done
  rw [decide_eq_decide, one_comp hN]
  constructor
  · intro hl v hv
    have hv' : (v : Int) ∈ S := by
      apply Classical.byContradiction
      intro hn
      have h1 : Met N (S ++ [(v : Int)]) := h.met.snoc (by omega) (by omega) hn
      have := h1.len
      rw [List.length_append] at this
      simp at this; omega
    obtain ⟨u, h1, h2, h3⟩ := (hS _).1 hv'
    have : u = 0 := by omega
    subst this; exact h3
  · intro hall
    have h1 := h.met.len
    have h2 := sub_len (idL_nodup N) (l := S) (fun x hx => by
      obtain ⟨q0, q1⟩ := mem_idL.1 hx
      have := hall x.toNat (by omega)
      rw [show ((x.toNat : Nat) : Int) = x by omega] at this
      exact (hS x).2 ⟨0, by omega, by omega, this⟩)
    rw [idL_len] at h2
    omega

theorem own_c0 {w : World} {B n g : Nat} {e : TypeId} (h : Owns w B [⟨.slice (some ⟨g, 0, none⟩) n n, e, 1, n, List.replicate n (.bool false)⟩]) (hn : 0 < n) :
    w.cell? ⟨g, 0, none⟩ = some (.bool false) ∧ w.frozen? ⟨g, 0, none⟩ = false := by
  obtain ⟨g', c, e1, _, _, _, _, h1, h2⟩ := h.some (k := 0) rfl hn
  cases e1
  exact ⟨h2 0 _ (by simp [hn]), h1 0⟩
noncomputable def connB (E : List (Int × Int)) (A : List (List Int)) : Bool := decide (cntL E A.length = 1)

set_option maxRecDepth 8000 in
set_option maxHeartbeats 16000000 in
theorem connected_r (N : Int) (pE pA : Option Addr) (nE nA cE cA : Nat) (E : List (Int × Int)) (A : List (List Int)) (w : World) (hR : RotAt w pE pA E A) (hV : vRot N E A) (hnE : E.length = nE) (hnA : A.length = nA) :
    Calls Tryd.prog 49 #[.agg #[.int .i64 N, .slice pE nE cE, .slice pA nA cA]] w fun e w' => e = .returned (.bool (connB E A)) ∧ Grew w w' := by
  subst hnE hnA
  have he1 := hR.e1
  have ha1 := hR.a1
  have hN : N = A.length := hV.al.symm
  subst hN
  have HR := Lib.hid hR
  have HL := Lib.hid hR.r1
  have HV := Lib.hid hV
  have Hed := Lib.hid hV.ed
  clear hR hV
  by_cases hA0 : A.length = 0
  · have Hf : Hid (connB E A = false) := Lib.hid (by unfold connB cntL; rw [hA0]; simp [cntP])
    go_enter Tryd.func49, Tryd.ntmps49
    rw [hA0]
    go_wp2
    go_ret
    exact ⟨by rw [Hf.out]; rfl, by (repeat (first | exact gR _ | refine gO ?_ _ | refine gA ?_ _ | refine gD ?_ | refine gN ?_ _))⟩
  have hApos : 0 < A.length := by omega
  have hAi : ¬ ((A.length : Int) = 0) := by omega
  go_enter Tryd.func49, Tryd.ntmps49
  go_wp2_with (refine wp_make_owns rfl _ _ 74 rfl 4 1 (.bool false) Tryd.underlying74 Tryd.infoBool rfl .i64 .i64 _ _ A.length rfl rfl rfl rfl (by omega) (by simp only [maxLen]; omega) (w.heap.size + 1) [] (Owns.nil _ _) (by simp) ?_; intro w4 hO hg4 hs4; have HO4 := Lib.hid hO; have Hg4 := Lib.hid hg4; have hsz4 := hg4.below.size; (have ⟨hc4, hf4⟩ := own_c0 hO hApos); rw [World.size_alloc] at hc4 hf4; clear hO hg4)
  simp at hs4 hsz4
  have HwB : Hid (Grew w (w.alloc (.cells #[.int .i64 A.length, .slice pE E.length cE, .slice pA A.length cA] 25))) := Lib.hid ((Grew.refl w).alloc _)
  have Hc0 : Hid ((w.alloc (.cells #[.int .i64 A.length, .slice pE E.length cE, .slice pA A.length cA] 25)).cell? ⟨w.heap.size, 0, none⟩ = some (.int .i64 A.length)) := Lib.hid (by simp [go_sem])
  have Hc1 : Hid ((w.alloc (.cells #[.int .i64 A.length, .slice pE E.length cE, .slice pA A.length cA] 25)).cell? ⟨w.heap.size, 1, none⟩ = some (.slice pE E.length cE)) := Lib.hid (by simp [go_sem])
  have Hc2 : Hid ((w.alloc (.cells #[.int .i64 A.length, .slice pE E.length cE, .slice pA A.length cA] 25)).cell? ⟨w.heap.size, 2, none⟩ = some (.slice pA A.length cA)) := Lib.hid (by simp [go_sem])
  have hsB : (w.alloc (.cells #[.int .i64 A.length, .slice pE E.length cE, .slice pA A.length cA] 25)).heap.size = w.heap.size + 1 := by simp
  obtain ⟨wB, hwB⟩ : ∃ wB, w.alloc (.cells #[.int .i64 A.length, .slice pE E.length cE, .slice pA A.length cA] 25) = wB := ⟨_, rfl⟩
  rw [hwB] at Hg4 HwB Hc0 Hc1 Hc2 hsB HO4
  clear hwB
  rw [hsB] at HO4
  have HO5 : Hid (Owns (w4.setCell ⟨w.heap.size + 1, 0, none⟩ (.bool true)) (w.heap.size + 1) [⟨.slice (some ⟨w.heap.size + 1, 0, none⟩) A.length A.length, 4, 1, A.length, bls A.length [0]⟩]) := Lib.hid (by
    have h := HO4.out.set (k := 0) rfl 0 (.bool true)
    have e := bls_set [] hApos
    rw [bls_nil] at e
    replace h : Owns (w4.setCell ⟨w.heap.size + 1, 0, none⟩ (.bool true)) (w.heap.size + 1) [⟨.slice (some ⟨w.heap.size + 1, 0, none⟩) A.length A.length, 4, 1, A.length, (List.replicate A.length (.bool false)).set 0 (.bool true)⟩] := h
    rw [e] at h
    exact h)
  have Hg5 := Lib.hid (Hg4.out.setCell (show wB.heap.size ≤ (⟨w.heap.size + 1, 0, none⟩ : Addr).block by dsimp only; omega) (.bool true))
  clear hc4 hf4
  go_loopw [4, 5] (fun vQ iv wr => ∃ (i : Nat) (S : List Int), i ≤ S.length ∧ iv = .int .i64 i ∧ Bfs E A.length 0 S (S.drop i) ∧ Grew wB wr ∧ Owns wr (w.heap.size + 1) [⟨.slice (some ⟨w.heap.size + 1, 0, none⟩) A.length A.length, 4, 1, A.length, bls A.length S⟩, ⟨vQ, 3, 1, S.length, intVs S⟩]) (fun _ iv _ => 101 - (intOf iv).toNat)
  case atStart =>
    refine ⟨0, [0], Nat.zero_le _, rfl, ?_, Hg5.out.trans (by (repeat (first | exact gR _ | refine gO ?_ _ | refine gA ?_ _ | refine gD ?_ | refine gN ?_ _))), ?_⟩
    · have h := Bfs.start (E := E) (N := A.length) (v := 0) (S := []) ⟨List.nodup_nil, fun _ h => by cases h⟩ (fun x => ⟨fun h => (by cases h), fun h => (by obtain ⟨u, h1, h2, _⟩ := h; omega)⟩) hApos (by simp)
      exact h
    · exact (HO5.out.made (by simp; omega) #[.int .i64 0] 3 1 1 _ rfl (by decide) (by simp)).perm (List.Perm.swap _ _ _)
  case round =>
    clear HO4 HO5 Hg4 Hg5
    obtain ⟨i, S, hi, rfl, hB, hgB, hO⟩ := hrel
    have hSl := hB.met.len
    have hszr := hgB.below.size
    rw [hsB] at hszr
    obtain ⟨pQ, cQ, rfl⟩ := own_form hO (k := 1) rfl
    have hQn := own_nil hO (k := 1) rfl
    have Hgw : Hid (Grew w wr) := Lib.hid (HwB.out.trans hgB)
    have q0 := hgB.cellEq Hc0.out
    have q2 := hgB.cellEq Hc2.out
    by_cases hlt : i < S.length
    · obtain ⟨gQ, cQ', eQ, kQ, lQ, _, _, nQ, mQ⟩ := hO.some (k := 1) rfl (by omega)
      cases eQ
      have hxS : ge S i ∈ S := by rw [ge_eq S hlt]; exact List.getElem_mem hlt
      have hxr := hB.met.2 _ hxS
      obtain ⟨x, hx⟩ := Int.eq_ofNat_of_zero_le hxr.1
      have hxl : x < A.length := by omega
      have hxi : (x : Int) < (A.length : Int) := by omega
      have e0 := mQ i (.int .i64 (x : Int)) (by rw [intVs_get S hlt, hx])
      have E0 := Lib.hid e0
      have HB0 := Lib.hid hB
      have HgB := Lib.hid hgB
      have HO := Lib.hid hO
      have Hx := Lib.hid hx
      have hii : (i : Int) < (S.length : Int) := by omega
      have He0 : Hid (wr.cell? ⟨gQ, i, none⟩ = some (.int .i64 (x : Int))) := Lib.hid (by simpa using e0)
      clear hB hgB hO hQn nQ mQ hxr hx hxS e0 E0
      go_wp2
      go_loopw [4, 6] (fun vQ iv wk => ∃ k2 : Nat, k2 ≤ E.length ∧ iv = .int .i64 k2 ∧ ∃ S : List Int, i < S.length ∧ ge S i = (x : Int) ∧ Bfs E A.length 0 S (S.drop i) ∧ (∀ t, t < k2 → ((pr E t).1 = (x : Int) → (pr E t).2 ∈ S) ∧ ((pr E t).2 = (x : Int) → (pr E t).1 ∈ S)) ∧ Grew wB wk ∧
        Owns wk (w.heap.size + 1) [⟨.slice (some ⟨w.heap.size + 1, 0, none⟩) A.length A.length, 4, 1, A.length, bls A.length S⟩, ⟨vQ, 3, 1, S.length, intVs S⟩]) (fun _ iv _ => E.length - (intOf iv).toNat)
      case atStart => exact ⟨0, Nat.zero_le _, rfl, S, hlt, Hx.out, HB0.out, fun t ht => by omega, HgB.out.trans (by (repeat (first | exact gR _ | refine gO ?_ _ | refine gA ?_ _ | refine gD ?_ | refine gN ?_ _))), HO.out.grew (by (repeat (first | exact gR _ | refine gO ?_ _ | refine gA ?_ _ | refine gD ?_ | refine gN ?_ _)))⟩
      case round =>
        clear HB0 HgB HO Hx hSl hi hlt hii hszr Hgw lQ He0 q0 q2
        obtain ⟨k2, hk2, rfl, S, hlt, hx, hB, hhd, hgB, hO⟩ := hrel
        have hSl := hB.met.len
        have hszr := hgB.below.size
        rw [hsB] at hszr
        have Hgw : Hid (Grew w wr) := Lib.hid (HwB.out.trans hgB)
        have q1 := hgB.cellEq Hc1.out
        obtain ⟨gQ, cQ', rfl, kQ, lQ, _, _, nQ, mQ⟩ := hO.some (k := 1) rfl (by omega)
        have e0 := mQ i (.int .i64 (x : Int)) (by rw [intVs_get S hlt, hx])
        have hxS : (x : Int) ∈ S := by rw [← hx, ge_eq S hlt]; exact List.getElem_mem hlt
        have HxS := Lib.hid hxS
        have HB0 := Lib.hid hB
        have HgB := Lib.hid hgB
        have HO := Lib.hid hO
        have Hhd := Lib.hid hhd
        have Hx := Lib.hid hx
        have hii : (i : Int) < (S.length : Int) := by omega
        clear hB hgB hhd hx hxS nQ mQ
        by_cases hlk : k2 < E.length
        · have hoke := Hed.out k2 hlk
          unfold okEdge at hoke
          obtain ⟨bE, oE, rfl, lE, cE'⟩ := HR.out.hE.cells (by omega)
          obtain ⟨c1, c2⟩ := cE' wr Hgw.out k2 hlk
          obtain ⟨p1, hp1⟩ : ∃ p1, (pr E k2).1 = p1 := ⟨_, rfl⟩
          obtain ⟨p2, hp2⟩ : ∃ p2, (pr E k2).2 = p2 := ⟨_, rfl⟩
          rw [hp1] at c1 hoke
          rw [hp2] at c2 hoke
          have Hp1 := Lib.hid hp1
          have Hp2 := Lib.hid hp2
          obtain ⟨gM, cM, eM, _, kM, _, _, nM, mM⟩ := hO.some (k := 0) rfl (by omega)
          cases eM
          clear cE' hp1 hp2 hO
          have key : Hid (∀ (y : Nat), ((p1 = (x : Int) ∧ p2 = (y : Int)) ∨ (p2 = (x : Int) ∧ p1 = (y : Int))) → nbrJ E E.length (x : Int) (y : Int) ∧ ∀ S' : List Int, (y : Int) ∈ S' → ((pr E k2).1 = (x : Int) → (pr E k2).2 ∈ S') ∧ ((pr E k2).2 = (x : Int) → (pr E k2).1 ∈ S')) := Lib.hid (fun y h => by
            rw [Hp1.out, Hp2.out]
            refine ⟨⟨k2, hlk, by rw [Hp1.out, Hp2.out]; exact h⟩, fun S' hS => ⟨fun e => ?_, fun e => ?_⟩⟩
            · rcases h with ⟨a, b⟩ | ⟨a, b⟩
              · rw [b]; exact hS
              · omega
            · rcases h with ⟨a, b⟩ | ⟨a, b⟩
              · omega
              · rw [b]; exact hS)
          by_cases hc : p1 = (x : Int) ∨ p2 = (x : Int)
          case neg =>
            have hn1 : (p1 != (x : Int)) = true := by simp; exact fun e => hc (Or.inl e)
            have hn2 : (p2 != (x : Int)) = true := by simp; exact fun e => hc (Or.inr e)
            have Hno : Hid (((pr E k2).1 = (x : Int) → (pr E k2).2 ∈ S) ∧ ((pr E k2).2 = (x : Int) → (pr E k2).1 ∈ S)) := Lib.hid (by
              rw [Hp1.out, Hp2.out]
              exact ⟨fun e => absurd (Or.inl e) hc, fun e => absurd (Or.inr e) hc⟩)
            clear hc nM mM
            go_upto_region 13 with fail
            refine wp_region_over (by kernel_rfl) (by kernel_rfl) ?_; (repeat (go_big_quiet_step (fail))); refine wpQuiet_nil ?_; rintro _ ⟨x, rfl⟩
            go_wp2
            go_roundw
            case rel => exact ⟨k2 + 1, by omega, by go_num, S, hlt, Hx.out, HB0.out, fun t ht => (by
              by_cases e : t = k2
              · rw [e]; exact Hno.out
              · exact Hhd.out t (by omega)), HgB.out.trans (by (repeat (first | exact gR _ | refine gO ?_ _ | refine gA ?_ _ | refine gD ?_ | refine gN ?_ _))), HO.out.grew (by (repeat (first | exact gR _ | refine gO ?_ _ | refine gA ?_ _ | refine gD ?_ | refine gN ?_ _)))⟩
            case measure => simp [intOf]; omega
          case pos =>
          obtain ⟨y, hyc⟩ : ∃ y : Nat, (p1 = (x : Int) ∧ p2 = (y : Int)) ∨ (p2 = (x : Int) ∧ p1 = (y : Int)) := by
            rcases hc with h | h
            · exact ⟨p2.toNat, Or.inl ⟨h, by omega⟩⟩
            · exact ⟨p1.toNat, Or.inr ⟨h, by omega⟩⟩
          have hyl : y < A.length := by omega
          have hyi : (y : Int) < (A.length : Int) := by omega
          have hsum : p1 + p2 - (x : Int) = (y : Int) := by omega
          have Hnb := Lib.hid (key.out y hyc).1
          have Hky := Lib.hid (key.out y hyc).2
          have hg1 : (p1 != (x : Int)) = false ∨ ((p1 != (x : Int)) = true ∧ (p2 != (x : Int)) = false) := by
            by_cases e : p1 = (x : Int)
            · exact Or.inl (by simp [e])
            · exact Or.inr ⟨by simpa using e, by simp; omega⟩
          have x1 := mM y _ (bls_get _ hyl)
          have x2 := nM y
          have hw1 : wrap64 (p1 + p2) = p1 + p2 := IntWalk.wrap64_in _ ⟨by omega, by omega⟩
          clear nM mM hyc hc key
          by_cases hin : (y : Int) ∈ S
          · rw [decide_eq_true hin] at x1
            have Hin := Lib.hid (Hky.out S hin)
            clear hin
            rcases hg1 with hn1 | ⟨hn1, hn2⟩
            · go_upto_region 13 with fail
              refine wp_region_over (by kernel_rfl) (by kernel_rfl) ?_; (repeat (go_big_quiet_step (fail))); refine wpQuiet_nil ?_; rintro _ ⟨x, rfl⟩
              go_upto_region 14 with fail
              refine wp_region_over (by kernel_rfl) (by kernel_rfl) ?_; (repeat (go_big_quiet_step (fail))); refine wpQuiet_nil ?_; rintro _ ⟨x, rfl⟩
              go_wp2
              go_roundw
              case rel => exact ⟨k2 + 1, by omega, by go_num, S, hlt, Hx.out, HB0.out, fun t ht => (by
                by_cases e : t = k2
                · rw [e]; exact Hin.out
                · exact Hhd.out t (by omega)), HgB.out.trans (by (repeat (first | exact gR _ | refine gO ?_ _ | refine gA ?_ _ | refine gD ?_ | refine gN ?_ _))), HO.out.grew (by (repeat (first | exact gR _ | refine gO ?_ _ | refine gA ?_ _ | refine gD ?_ | refine gN ?_ _)))⟩
              case measure => simp [intOf]; omega
            · go_upto_region 13 with fail
              refine wp_region_over (by kernel_rfl) (by kernel_rfl) ?_; (repeat (go_big_quiet_step (fail))); refine wpQuiet_nil ?_; rintro _ ⟨x, rfl⟩
              go_upto_region 14 with fail
              refine wp_region_over (by kernel_rfl) (by kernel_rfl) ?_; (repeat (go_big_quiet_step (fail))); refine wpQuiet_nil ?_; rintro _ ⟨x, rfl⟩
              go_wp2
              go_roundw
              case rel => exact ⟨k2 + 1, by omega, by go_num, S, hlt, Hx.out, HB0.out, fun t ht => (by
                by_cases e : t = k2
                · rw [e]; exact Hin.out
                · exact Hhd.out t (by omega)), HgB.out.trans (by (repeat (first | exact gR _ | refine gO ?_ _ | refine gA ?_ _ | refine gD ?_ | refine gN ?_ _))), HO.out.grew (by (repeat (first | exact gR _ | refine gO ?_ _ | refine gA ?_ _ | refine gD ?_ | refine gN ?_ _)))⟩
              case measure => simp [intOf]; omega
          · have HB2 : Hid (Bfs E A.length 0 (S ++ [(y : Int)]) ((S ++ [(y : Int)]).drop i)) := Lib.hid (by
              rw [List.drop_append_of_le_length (by omega)]
              exact HB0.out.add HxS.out Hnb.out hin (by omega) (by omega))
            have hS2l := HB2.out.met.len
            have Hin := Lib.hid (Hky.out (S ++ [(y : Int)]) (by simp))
            simp only [List.length_append, List.length_cons, List.length_nil] at hS2l
            rw [decide_eq_false hin] at x1
            clear hin
            rcases hg1 with hn1 | ⟨hn1, hn2⟩
            · go_upto_region 13 with fail
              refine wp_region_over (by kernel_rfl) (by kernel_rfl) ?_; (repeat (go_big_quiet_step (fail))); refine wpQuiet_nil ?_; rintro _ ⟨x, rfl⟩
              go_upto_region 14 with fail
              refine wp_region_over (by kernel_rfl) (by kernel_rfl) ?_; (repeat (go_big_quiet_step (fail))); refine wpQuiet_nil ?_; rintro _ ⟨x, rfl⟩
              go_wp2_with (at_builtin; refine wp_append_owns rfl _ _ 28 rfl 3 1 8 (.int .i64 0) Tryd.underlying28 Tryd.infoInt rfl (by decide) (w.heap.size + 1) _ 1 _ S.length (intVs S) ((HO.out.grew (by (repeat (first | exact gR _ | refine gO ?_ _ | refine gA ?_ _ | refine gD ?_ | refine gN ?_ _)))).set (k := 0) rfl y (.bool true) |>.grew (by (repeat (first | exact gR _ | refine gO ?_ _ | refine gA ?_ _ | refine gD ?_ | refine gN ?_ _)))) rfl rfl _ 1 1 rfl [.int .i64 (y : Int)] rfl (by simp) (by intro b hb j u hj; cases hb; match j, hj with | 0, hj => (simp at hj; subst hj; (simp [go_sem, ↓IntWalk.iteOmega])) | j + 1, hj => (simp at hj)) (by simp [Value.oneCell']) (by simp only [maxLen]; omega) (by omega) (by first | rfl | omega | (simp <;> omega)) ?_; intro v1 w1 hO1 hg1 hb1 hb2; have HO1 := Lib.hid hO1; clear hO1 hb2)
              have Hg1 := Lib.hid (Grew.grownBy (w0 := wB) ((HgB.out.setCell (show wB.heap.size ≤ (⟨w.heap.size + 1, y, none⟩ : Addr).block by dsimp only; omega) (.bool true)).trans (by (repeat (first | exact gR _ | refine gO ?_ _ | refine gA ?_ _ | refine gD ?_ | refine gN ?_ _)))) hg1 (fun k h => by have := hb1 k h; omega))
              clear hg1 hb1
              go_roundw
              case rel =>
                refine ⟨k2 + 1, by omega, by go_num, S ++ [(y : Int)], by simp; omega, ?_, HB2.out, fun t ht => ?_, Hg1.out.trans (by (repeat (first | exact gR _ | refine gO ?_ _ | refine gA ?_ _ | refine gD ?_ | refine gN ?_ _))), ?_⟩
                · have := Hx.out
                  rw [ge_eq S hlt] at this
                  rw [ge_eq _ (by simp; omega), List.getElem_append_left hlt, this]
                · by_cases e : t = k2
                  · rw [e]; exact Hin.out
                  · exact ⟨fun h => List.mem_append_left _ ((Hhd.out t (by omega)).1 h), fun h => List.mem_append_left _ ((Hhd.out t (by omega)).2 h)⟩
                · have h := HO1.out
                  rw [bls_set _ hyl] at h
                  rw [intVs_app', List.length_append]
                  exact h.grew (by (repeat (first | exact gR _ | refine gO ?_ _ | refine gA ?_ _ | refine gD ?_ | refine gN ?_ _)))
              case measure => simp [intOf]; omega
            · go_upto_region 13 with fail
              refine wp_region_over (by kernel_rfl) (by kernel_rfl) ?_; (repeat (go_big_quiet_step (fail))); refine wpQuiet_nil ?_; rintro _ ⟨x, rfl⟩
              go_upto_region 14 with fail
              refine wp_region_over (by kernel_rfl) (by kernel_rfl) ?_; (repeat (go_big_quiet_step (fail))); refine wpQuiet_nil ?_; rintro _ ⟨x, rfl⟩
              go_wp2_with (at_builtin; refine wp_append_owns rfl _ _ 28 rfl 3 1 8 (.int .i64 0) Tryd.underlying28 Tryd.infoInt rfl (by decide) (w.heap.size + 1) _ 1 _ S.length (intVs S) ((HO.out.grew (by (repeat (first | exact gR _ | refine gO ?_ _ | refine gA ?_ _ | refine gD ?_ | refine gN ?_ _)))).set (k := 0) rfl y (.bool true) |>.grew (by (repeat (first | exact gR _ | refine gO ?_ _ | refine gA ?_ _ | refine gD ?_ | refine gN ?_ _)))) rfl rfl _ 1 1 rfl [.int .i64 (y : Int)] rfl (by simp) (by intro b hb j u hj; cases hb; match j, hj with | 0, hj => (simp at hj; subst hj; (simp [go_sem, ↓IntWalk.iteOmega])) | j + 1, hj => (simp at hj)) (by simp [Value.oneCell']) (by simp only [maxLen]; omega) (by omega) (by first | rfl | omega | (simp <;> omega)) ?_; intro v1 w1 hO1 hg1 hb1 hb2; have HO1 := Lib.hid hO1; clear hO1 hb2)
              have Hg1 := Lib.hid (Grew.grownBy (w0 := wB) ((HgB.out.setCell (show wB.heap.size ≤ (⟨w.heap.size + 1, y, none⟩ : Addr).block by dsimp only; omega) (.bool true)).trans (by (repeat (first | exact gR _ | refine gO ?_ _ | refine gA ?_ _ | refine gD ?_ | refine gN ?_ _)))) hg1 (fun k h => by have := hb1 k h; omega))
              clear hg1 hb1
              go_roundw
              case rel =>
                refine ⟨k2 + 1, by omega, by go_num, S ++ [(y : Int)], by simp; omega, ?_, HB2.out, fun t ht => ?_, Hg1.out.trans (by (repeat (first | exact gR _ | refine gO ?_ _ | refine gA ?_ _ | refine gD ?_ | refine gN ?_ _))), ?_⟩
                · have := Hx.out
                  rw [ge_eq S hlt] at this
                  rw [ge_eq _ (by simp; omega), List.getElem_append_left hlt, this]
                · by_cases e : t = k2
                  · rw [e]; exact Hin.out
                  · exact ⟨fun h => List.mem_append_left _ ((Hhd.out t (by omega)).1 h), fun h => List.mem_append_left _ ((Hhd.out t (by omega)).2 h)⟩
                · have h := HO1.out
                  rw [bls_set _ hyl] at h
                  rw [intVs_app', List.length_append]
                  exact h.grew (by (repeat (first | exact gR _ | refine gO ?_ _ | refine gA ?_ _ | refine gD ?_ | refine gN ?_ _)))
              case measure => simp [intOf]; omega
        · have hke : k2 = E.length := by omega
          have HBc : Hid (Bfs E A.length 0 S (S.drop (i + 1))) := Lib.hid (by
            have h := HB0.out
            rw [List.drop_eq_getElem_cons hlt, ← ge_eq S hlt, Hx.out] at h
            refine h.cut (fun y hn => ?_)
            obtain ⟨t, ht, ⟨a, b⟩ | ⟨a, b⟩⟩ := hn
            · rw [← b]; exact (Hhd.out t (by omega)).1 a
            · rw [← b]; exact (Hhd.out t (by omega)).2 a)
          go_wp2
          go_roundw
          case rel => exact ⟨i + 1, S, by omega, by go_num, HBc.out, HgB.out.trans (by (repeat (first | exact gR _ | refine gO ?_ _ | refine gA ?_ _ | refine gD ?_ | refine gN ?_ _))), HO.out.grew (by (repeat (first | exact gR _ | refine gO ?_ _ | refine gA ?_ _ | refine gD ?_ | refine gN ?_ _)))⟩
          case measure => simp [intOf]; omega
    · have hie : i = S.length := by omega
      have Hf : Hid (decide ((S.length : Int) = (A.length : Int)) = connB E A) := Lib.hid (by
        rw [hie, List.drop_length] at hB
        unfold connB
        rw [← bfs_one hApos hB, decide_eq_decide]
        omega)
      have HgB := Lib.hid hgB
      clear hB hgB hO hQn
      subst hie
      go_wp2
      go_ret
      exact ⟨by rw [← Hf.out]; rfl, Hgw.out.trans (by (repeat (first | exact gR _ | refine gO ?_ _ | refine gA ?_ _ | refine gD ?_ | refine gN ?_ _)))⟩

end Go.Proofs.YtiihgpgpbgafiaaDoor

/- Net of the program, where there is one. -/
namespace Go.Proofs.YtiihgpgpbgafiaaDoor
open Go.RowKit
attribute [local go_sem ↓] Go.wp_at_zero Go.wp_at_succ

theorem tab_succ (n : Nat) (f : Nat → Int) : tab (n + 1) f = tab n f ++ [f n] := by unfold tab; rw [List.range_succ, List.map_append]; rfl
theorem ge_append_right {a b : List Int} (i : Nat) : ge (a ++ b) (a.length + i) = ge b i := by unfold ge; rw [List.getD_eq_getElem?_getD, List.getElem?_append_right (by omega), Nat.add_sub_cancel_left, ← List.getD_eq_getElem?_getD]
/-- The supply of the outer face is set last. -/
theorem sup_end {A F : List (List Int)} {o : Int} {i : Nat} (h : faceF F o = i) (hi : i < F.length) :
    (supV A ++ tab F.length fun j => 4 - ((rowOf F j).length : Int)).set (A.length + i) (4 - ((rowOf F i).length : Int) - 8) = supL A F o := by
  have hl := supV_len A
  unfold supL supF
  rw [List.set_append_right _ _ (by omega), hl, Nat.add_sub_cancel_left, tab_set _ _ hi, h]
  refine congrArg _ (tab_congr fun u hu => ?_)
  by_cases e : u = i
  · subst e; rw [if_pos rfl, if_pos rfl]; omega
  · rw [if_neg e, if_neg (by omega)]
/-- The boxes of the call. -/
abbrev netB (h : Nat) (N : Int) (sE sA : Value) : List Row := [bx h 25 3 [.int .i64 N, sE, sA], bx (h + 1) 31 2 [.slice none 0 0, .slice none 0 0]]
theorem netB_start (w : World) (N : Int) (sE sA : Value) : Owns ((w.alloc (.cells #[.int .i64 N, sE, sA] 25)).alloc (.cells #[.slice none 0 0, .slice none 0 0] 31)) w.heap.size (netB w.heap.size N sE sA) := by
  have h1 := (Owns.nil w w.heap.size).made (Nat.le_refl _) #[.int .i64 N, sE, sA] 25 3 1 w.heap.size rfl (by decide) rfl
  have h2 := h1.made (by first | rfl | omega | (simp <;> omega)) #[.slice none 0 0, .slice none 0 0] 31 2 1 (w.heap.size + 1) rfl (by decide) (by simp)
  exact h2.perm (List.Perm.swap _ _ _)
set_option maxRecDepth 8000 in
set_option maxHeartbeats 16000000 in
theorem net_p_ok (N : Int) (pE pA : Option Addr) (nE nA cE cA : Nat) (E : List (Int × Int)) (A : List (List Int)) (o : Int) (w : World) (hR : RotAt w pE pA E A) (hL : Lim w) (hnE : E.length = nE) (hnA : A.length = nA) (hE3 : E.length ≤ 30) (hA3 : A.length ≤ 30) (hok : NetOK N E A o) (hE0 : 0 < E.length) :
    Calls Tryd.prog 10 #[.agg #[.int .i64 N, .slice pE nE cE, .slice pA nA cA], .int .i64 o] w (NetPost (supL A (facesO N E A) o) (arcK A.length (facesO N E A) E (2 * E.length)) 0 w) := by
  subst hnE hnA
  have hN := hok.n
  subst hN
  have HR := Lib.hid hR
  have HL := Lib.hid hL
  have HO := Lib.hid hok
  have Hv := Lib.hid (vRotB_iff.2 hok.v)
  have Hg : Hid (∀ W1, Grew w W1 → Calls Tryd.prog 29 #[.agg #[.int .i64 A.length, .slice pE E.length cE, .slice pA A.length cA]] W1 fun e w' => e = .returned (.int .i64 0) ∧ Grew W1 w') := Lib.hid (fun W1 h => by rw [← HO.out.g]; exact genus_p _ _ _ _ _ _ _ _ _ _ (HR.out.grew h) (HL.out.grew h) rfl rfl)
  have Hff := Lib.hid (facs_ok hok.v)
  have Hsup := Lib.hid (hok.sup (by omega) (by omega))
  obtain ⟨F, hF⟩ : ∃ F, facesO A.length E A = F := ⟨_, rfl⟩
  have Hfc : Hid (∀ d : Int, 0 ≤ d → d < 2 * (E.length : Int) → ∃ i : Nat, faceF F d = i ∧ i < F.length ∧ d ∈ rowOf F i) := Lib.hid (by rw [← hF]; exact fun d => hok.fc)
  have Harc : Hid (∀ k, k ≤ 2 * E.length → ∀ i, i < (arcK A.length F E k).length → Fl.w64 (Fl.aK (arcK A.length F E k) i).fr ∧ Fl.w64 (Fl.aK (arcK A.length F E k) i).ed ∧ Fl.w64 (Fl.aK (arcK A.length F E k) i).cap ∧ Fl.w64 (Fl.aK (arcK A.length F E k) i).cost) := Lib.hid (fun k hk => by rw [← hF]; exact hok.arcs hk (by omega) (by omega))
  rw [hF] at Hff Hsup
  obtain ⟨f, hf⟩ : ∃ f, F.length = f := ⟨_, rfl⟩
  have hf2 : f ≤ 2 * E.length := by rw [← hf]; exact Hff.out.len
  have Hlf := Lib.hid hf
  have Hfl2 : Hid (∀ W1, Grew w W1 → Calls Tryd.prog 30 #[.agg #[.int .i64 A.length, .slice pE E.length cE, .slice pA A.length cA]] W1 fun e w' => Grew W1 w' ∧ ∃ q cap, e = .returned (.slice q f cap) ∧ Mat w' q F) := Lib.hid (fun W1 h => by
    have h1 := faces_p (A.length : Int) pE pA E.length A.length cE cA E A W1 (HR.out.grew h) (HL.out.grew h) rfl rfl
    rw [hF] at h1
    refine h1.mono fun e w' ⟨h2, q, cap, h3, h4⟩ => ⟨h2, q, cap, by rw [h3, hf], h4⟩)
  have hcl := hok.c
  have hcl2 : 1 ≤ A.length := by rw [← hcl]; exact cntP_le _ _
  have Hc : Hid (∀ W1, Grew w W1 → Calls Tryd.prog 31 #[.agg #[.int .i64 A.length, .slice pE E.length cE, .slice pA A.length cA], .int .i64 f] W1 fun e w' => e = .returned (.int .i64 1) ∧ Grew W1 w') := Lib.hid (fun W1 h => by
    have h1 := components_p A.length pE pA E.length A.length cE cA E A f W1 (HR.out.grew h) rfl rfl (by omega) (by omega)
    rw [← hf, ← hF, comps_of HO.out.v HO.out.g, HO.out.c] at h1
    rw [← hf, ← hF]
    exact h1)
  have Hs : Hid (∀ W1, Grew w W1 → Calls Tryd.prog 32 #[.agg #[.int .i64 A.length, .slice pE E.length cE, .slice pA A.length cA]] W1 fun e w' => e = .returned (.bool false) ∧ Grew W1 w') := Lib.hid (fun W1 h => single_p _ _ _ _ _ _ _ _ _ (decide_eq_false (by omega)))
  have ho := hok.o
  obtain ⟨oN, hoN⟩ : ∃ oN : Nat, o = oN := ⟨o.toNat, by omega⟩
  subst hoN
  have ho2 : oN < 2 * E.length := by omega
  have hdeg := Lib.hid hok.d
  have Hb := Lib.hid (netB_start w A.length (.slice pE E.length cE) (.slice pA A.length cA))
  rw [hF]
  obtain ⟨bA, oA, rp, rc, rfl, lA, cA'⟩ := hR.hA.rows (by omega)
  have HcA := Lib.hid cA'
  obtain ⟨bE, oE, rfl, lE, cE'⟩ := hR.hE.cells (by omega)
  have HcE := Lib.hid cE'
  clear hR hL hok hcl ho cA' cE' hF hf
  go_enter Tryd.func10, Tryd.ntmps10
  go_upto_region 6 with (first
    | (go_at_call 28; apply Calls.mono; (with_reducible exact valid_pe Hv.out (HR.out.grew (by (repeat (first | exact gR _ | refine gO ?_ _ | refine gA ?_ _ | refine gD ?_ | refine gN ?_ _)))) (HL.out.grew (by (repeat (first | exact gR _ | refine gO ?_ _ | refine gA ?_ _ | refine gD ?_ | refine gN ?_ _)))) rfl rfl); rintro e w' ⟨rfl, x, rfl⟩)
    | (go_at_call 29; apply Calls.mono; (with_reducible exact Hg.out _ (by (repeat (first | exact gR _ | refine gO ?_ _ | refine gA ?_ _ | refine gD ?_ | refine gN ?_ _)))); rintro e w' ⟨rfl, x, rfl⟩)
    | (go_at_call 30; apply Calls.mono; (with_reducible exact Hfl2.out _ (by (repeat (first | exact gR _ | refine gO ?_ _ | refine gA ?_ _ | refine gD ?_ | refine gN ?_ _)))); rintro e w3 ⟨hg3, qF, cF, rfl, hM⟩; have Hw3 := Lib.hid (Grew.trans (show Grew w _ by (repeat (first | exact gR _ | refine gO ?_ _ | refine gA ?_ _ | refine gD ?_ | refine gN ?_ _))) hg3); have HM := Lib.hid hM; have HB3 := Lib.hid (Hb.out.grew (Grew.trans (by (repeat (first | exact gR _ | refine gO ?_ _ | refine gA ?_ _ | refine gD ?_ | refine gN ?_ _))) hg3)); clear hM hg3; have b0 := own_bx HB3.out (j := 0) rfl; have q0 := b0.2.2.2 0 _ rfl; have q1 := b0.2.2.2 1 _ rfl; have q2 := b0.2.2.2 2 _ rfl; clear b0)
    | (go_at_call 31; apply Calls.mono; (with_reducible exact Hc.out _ (Hw3.out.trans (by (repeat (first | exact gR _ | refine gO ?_ _ | refine gA ?_ _ | refine gD ?_ | refine gN ?_ _))))); rintro e w4 ⟨rfl, hg4⟩; have Hw4 := Lib.hid (Hw3.out.trans (Grew.trans (by (repeat (first | exact gR _ | refine gO ?_ _ | refine gA ?_ _ | refine gD ?_ | refine gN ?_ _))) hg4)); have HM4 := Lib.hid (HM.out.grew (Grew.trans (by (repeat (first | exact gR _ | refine gO ?_ _ | refine gA ?_ _ | refine gD ?_ | refine gN ?_ _))) hg4)); have HB4 := Lib.hid (HB3.out.grew (Grew.trans (by (repeat (first | exact gR _ | refine gO ?_ _ | refine gA ?_ _ | refine gD ?_ | refine gN ?_ _))) hg4)); clear q0 q1 q2 hg4; have b0 := own_bx HB4.out (j := 0) rfl; have q0 := b0.2.2.2 0 _ rfl; have q1 := b0.2.2.2 1 _ rfl; have q2 := b0.2.2.2 2 _ rfl; clear b0))
  go_wp2
  go_loop [40] (fun i => ∃ v : Nat, v ≤ A.length ∧ i = .int .i64 v) (fun i => A.length - (intOf i).toNat)
  case atStart => exact ⟨0, Nat.zero_le _, rfl⟩
  case round =>
    obtain ⟨v, hv2, rfl⟩ := hrel
    by_cases hlv : v < A.length
    · obtain ⟨a1, _⟩ := HcA.out w4 Hw4.out v hlv
      obtain ⟨rv, hrv⟩ : ∃ rv, rp v = rv := ⟨_, rfl⟩
      rw [hrv] at a1
      have hl4 := hdeg.out v hlv
      clear hrv
      go_wp2
      go_round
      case rel => exact ⟨v + 1, by omega, by go_num⟩
      case measure => (simp [intOf] <;> omega)
    · have hve : v = A.length := by omega
      subst hve
      clear HB3 HM Hw3
      go_upto_region 18 with (go_at_call 32; apply Calls.mono; (with_reducible exact Hs.out _ (Hw4.out.trans (by (repeat (first | exact gR _ | refine gO ?_ _ | refine gA ?_ _ | refine gD ?_ | refine gN ?_ _))))); rintro e w5 ⟨rfl, hg5⟩; have Hw5 := Lib.hid (Hw4.out.trans (Grew.trans (by (repeat (first | exact gR _ | refine gO ?_ _ | refine gA ?_ _ | refine gD ?_ | refine gN ?_ _))) hg5)); have HM5 := Lib.hid (HM4.out.grew (Grew.trans (by (repeat (first | exact gR _ | refine gO ?_ _ | refine gA ?_ _ | refine gD ?_ | refine gN ?_ _))) hg5)); have HB5 := Lib.hid (HB4.out.grew (Grew.trans (by (repeat (first | exact gR _ | refine gO ?_ _ | refine gA ?_ _ | refine gD ?_ | refine gN ?_ _))) hg5)); clear q0 q1 q2 hg5; have b0 := own_bx HB5.out (j := 0) rfl; have q0 := b0.2.2.2 0 _ rfl; have q1 := b0.2.2.2 1 _ rfl; have q2 := b0.2.2.2 2 _ rfl; clear b0)
      have HO6 : Hid (Owns (w5.alloc (.cells #[.slice none 0 0, .slice none 0 0] 31)) w5.heap.size [lR (.slice none 0 0) 0 (tab 0 fun v => 4 - ((rowOf A v).length : Int)), bx w5.heap.size 31 2 [.slice none 0 0, .slice none 0 0]]) :=
        Lib.hid (((Owns.nil w5 w5.heap.size).made (Nat.le_refl _) #[.slice none 0 0, .slice none 0 0] 31 2 1 w5.heap.size rfl (by decide) rfl).none 3 1)
      have HG6 : Hid (Grew w5 (w5.alloc (.cells #[.slice none 0 0, .slice none 0 0] 31))) := Lib.hid (by (repeat (first | exact gR _ | refine gO ?_ _ | refine gA ?_ _ | refine gD ?_ | refine gN ?_ _)))
      have Q0 := Lib.hid q0
      have Q1 := Lib.hid q1
      have Q2 := Lib.hid q2
      go_upto_region 19 with fail
      obtain ⟨g9, hg9⟩ : ∃ g9, w5.heap.size = g9 := ⟨_, rfl⟩
      have Hgs : Hid (w5.heap.size ≤ g9) := Lib.hid (Nat.le_of_eq hg9)
      obtain ⟨w6, hw6⟩ : ∃ w6, w5.alloc (.cells #[.slice none 0 0, .slice none 0 0] 31) = w6 := ⟨_, rfl⟩
      rw [hw6, hg9] at HO6
      rw [hw6] at HG6
      rw [hw6, hg9]
      clear hw6 hg9 q0 q1 q2 HB4 HM4 Hw4 hlv hv2
      have q2 := HG6.out.cellEq Q2.out
      go_wp2
      go_loopw [81] (fun kv wr => ∃ k : Nat, k ≤ A.length ∧ kv = .int .i64 k ∧ Grew w5 wr ∧ ∃ vS, Owns wr g9 [lR vS k (tab k fun v => 4 - ((rowOf A v).length : Int)), bx g9 31 2 [vS, .slice none 0 0]]) (fun kv _ => A.length - (intOf kv).toNat)
      case atStart => exact ⟨0, Nat.zero_le _, rfl, HG6.out.trans (by (repeat (first | exact gR _ | refine gO ?_ _ | refine gA ?_ _ | refine gD ?_ | refine gN ?_ _))), _, HO6.out.grew (by (repeat (first | exact gR _ | refine gO ?_ _ | refine gA ?_ _ | refine gD ?_ | refine gN ?_ _)))⟩
      case round =>
        obtain ⟨k, hk, rfl, hgr, vS, hOk⟩ := hrel
        obtain ⟨pS, cS, rfl⟩ := own_form hOk (k := 0) rfl
        have Hgr := Lib.hid hgr
        have HOk := Lib.hid hOk
        have hszr := hgr.below.size
        have hgs := Hgs.out
        have q2 := hgr.cellEq Q2.out
        have b1 := own_bx hOk (j := 1) rfl
        have g91 := b1.2.1
        have u0 := b1.2.2.2 0 _ rfl
        have u1 := b1.2.2.1 0
        clear hgr hOk b1 HO6 HG6
        by_cases hlk : k < A.length
        · obtain ⟨a1, _⟩ := HcA.out wr (Hw5.out.trans Hgr.out) k hlk
          obtain ⟨rv, hrv⟩ : ∃ rv, rp k = rv := ⟨_, rfl⟩
          rw [hrv] at a1
          obtain ⟨ln, hln⟩ : ∃ ln, (rowOf A k).length = ln := ⟨_, rfl⟩
          rw [hln] at a1
          have hl4 := hdeg.out k hlk
          rw [hln] at hl4
          have Hts : Hid (tab (k + 1) (fun v => 4 - ((rowOf A v).length : Int)) = tab k (fun v => 4 - ((rowOf A v).length : Int)) ++ [4 - (ln : Int)]) := Lib.hid (by rw [tab_succ, hln])
          clear hrv hln
          go_wp2_with ((at_builtin; refine wp_append_owns rfl _ _ 28 rfl 3 1 8 (.int .i64 0) Tryd.underlying28 Tryd.infoInt rfl (by decide) (g9) _ 0 _ _ _ (HOk.out.grew (by (repeat (first | exact gR _ | refine gO ?_ _ | refine gA ?_ _ | refine gD ?_ | refine gN ?_ _)))) rfl rfl _ 1 1 rfl [.int .i64 (4 - (ln : Int))] rfl (fun h => by cases h) (one_news _ (by first | (go_simp; done) | (simp [go_sem, ↓IntWalk.iteOmega, *]; done))) (by simp [Value.oneCell']) (by simp only [maxLen]; omega) (by omega) (by first | rfl | omega | (simp <;> omega)) ?_; intro v1 w1 hO1 hg1 hb1 hv1; obtain ⟨p1, c1, rfl⟩ := own_form hO1 (k := 0) rfl; have b1 := own_bx hO1 (j := 1) rfl; have g91' := b1.2.1; have u1 := b1.2.2.1 0; have u2 := b1.2.2.2 0 _ rfl; have HO7 := Lib.hid hO1; have Hg7 := Lib.hid (Grew.grownBy (w0 := w5) (Hgr.out.trans (by (repeat (first | exact gR _ | refine gO ?_ _ | refine gA ?_ _ | refine gD ?_ | refine gN ?_ _)))) hg1 (fun q h => by have := hb1 q h; omega)); clear hO1 hg1 hb1 hv1 b1))
          go_roundw
          case rel => exact ⟨k + 1, by omega, by go_num, (Owns.setGrew HO7.out hgs Hg7.out (k := 1) rfl 0 (.slice p1 (k + 1) c1)).trans (by (repeat (first | exact gR _ | refine gO ?_ _ | refine gA ?_ _ | refine gD ?_ | refine gN ?_ _))), .slice p1 (k + 1) c1, by
            rw [Hts.out, lR, intVs_app']
            exact (HO7.out.set (k := 1) rfl 0 (.slice p1 (k + 1) c1)).grew (by (repeat (first | exact gR _ | refine gO ?_ _ | refine gA ?_ _ | refine gD ?_ | refine gN ?_ _)))⟩
          case measure => (simp [intOf] <;> omega)
        · obtain rfl : k = A.length := by omega
          have q1 := Hgr.out.cellEq Q1.out
          have hmk : ∀ W, (Instr.makeSlice 28 (.int .i64 (2 * (E.length : Int))) (.int .i64 (2 * (E.length : Int)))).run Tryd.prog W = .ok (.slice (some ⟨W.heap.size, 0, none⟩) (2 * E.length) (2 * E.length)) (W.alloc (.cells (Array.replicate (2 * E.length) (.int .i64 0)) 3)) := fun W => by
            have := mk_ints (2 * E.length) (by omega) W
            push_cast at this
            exact this
          have HO8 := Lib.hid (own_newI HOk.out (by omega) (2 * E.length) wr.heap.size (by omega) rfl)
          have HG8 : Hid (Grew w5 (wr.alloc (.cells (Array.replicate (2 * E.length) (.int .i64 0)) 3))) := Lib.hid (Hgr.out.alloc _)
          go_upto_region 25 with fail
          obtain ⟨gf, hgf⟩ : ∃ gf, wr.heap.size = gf := ⟨_, rfl⟩
          obtain ⟨w8, hw8⟩ : ∃ w8, wr.alloc (.cells (Array.replicate (2 * E.length) (.int .i64 0)) 3) = w8 := ⟨_, rfl⟩
          rw [hw8, hgf] at HO8
          rw [hw8] at HG8
          rw [hw8, hgf]
          clear hw8 hgf q1 q2 u0 u1 HOk Hgr hlk hk hmk hszr g91
          go_wp2
          go_loopw [101] (fun kv wr => ∃ i : Nat, i ≤ f ∧ kv = .int .i64 i ∧ Grew w5 wr ∧ ∃ (vS : Value) (Y : List Int), Y.length = 2 * E.length ∧ Owns wr g9 [rI gf (2 * E.length) Y, lR vS (A.length + i) (supV A ++ tab i fun j => 4 - ((rowOf F j).length : Int)), bx g9 31 2 [vS, .slice none 0 0]] ∧ ∀ j, j < i → ∀ d : Nat, (d : Int) ∈ rowOf F j → ge Y d = (A.length : Int) + j) (fun kv _ => f - (intOf kv).toNat)
          case atStart => exact ⟨0, Nat.zero_le _, rfl, HG8.out.trans (by (repeat (first | exact gR _ | refine gO ?_ _ | refine gA ?_ _ | refine gD ?_ | refine gN ?_ _))), _, _, List.length_replicate, (by
            have h := HO8.out.grew (by (repeat (first | exact gR _ | refine gO ?_ _ | refine gA ?_ _ | refine gD ?_ | refine gN ?_ _)))
            rw [show supV A ++ tab 0 (fun j => 4 - ((rowOf F j).length : Int)) = supV A by unfold tab; simp]
            exact h), fun j hj => by omega⟩
          case round =>
            clear HO8 HG8
            obtain ⟨i, hi, rfl, hgr, vS, Y, hYl, hOk, hall⟩ := hrel
            obtain ⟨pS, cS, rfl⟩ := own_form hOk (k := 1) rfl
            have Hgr := Lib.hid hgr
            have HOk := Lib.hid hOk
            have Hall := Lib.hid hall
            have HYl := Lib.hid hYl
            have hszr := hgr.below.size
            clear hgr hOk hall hYl
            by_cases hlk : i < f
            · have hiF : i < F.length := by rw [Hlf.out]; exact hlk
              obtain ⟨bF, oF, rpF, rcF, rfl, lF, cF'⟩ := HM5.out.rows (by omega)
              obtain ⟨a1, _⟩ := cF' wr Hgr.out i hiF
              obtain ⟨_, a2⟩ := cF' w5 (Grew.refl _) i hiF
              obtain ⟨rv, hrv⟩ : ∃ rv, rpF i = rv := ⟨_, rfl⟩
              obtain ⟨R, hR⟩ : ∃ R, rowOf F i = R := ⟨_, rfl⟩
              have HRi : Hid (∀ d ∈ R, 0 ≤ d ∧ d < ((2 * E.length : Nat) : Int)) := Lib.hid (by rw [← hR]; exact Hff.out.inn i hiF)
              have hRl : R.length ≤ 2 * E.length := by rw [← hR]; exact Hff.out.row i hiF
              have HdR := Lib.hid hR
              rw [hrv, hR] at a1 a2
              have Ha2 := Lib.hid a2
              clear hrv hR cF' a2
              go_wp2
              go_loopw [108] (fun kv wq => ∃ t : Nat, t ≤ R.length ∧ kv = .int .i64 t ∧ Grew w5 wq ∧ ∃ (Y' : List Int), Y'.length = 2 * E.length ∧ Owns wq g9 [rI gf (2 * E.length) Y', lR (.slice pS (A.length + i) cS) (A.length + i) (supV A ++ tab i fun j => 4 - ((rowOf F j).length : Int)), bx g9 31 2 [.slice pS (A.length + i) cS, .slice none 0 0]] ∧ (∀ j, j < i → ∀ d : Nat, (d : Int) ∈ rowOf F j → ge Y' d = (A.length : Int) + j) ∧ ∀ s, s < t → ge Y' (ge R s).toNat = (A.length : Int) + i) (fun kv _ => R.length - (intOf kv).toNat)
              case atStart => exact ⟨0, Nat.zero_le _, rfl, Hgr.out.trans (by (repeat (first | exact gR _ | refine gO ?_ _ | refine gA ?_ _ | refine gD ?_ | refine gN ?_ _))), Y, HYl.out, HOk.out.grew (by (repeat (first | exact gR _ | refine gO ?_ _ | refine gA ?_ _ | refine gD ?_ | refine gN ?_ _))), Hall.out, fun s hs => by omega⟩
              case round =>
                clear HOk Hall HYl Y a1
                obtain ⟨t, ht, rfl, hgq, Y, hYl, hOq, hall, hal2⟩ := hrel
                have Hgq := Lib.hid hgq
                have HOq := Lib.hid hOq
                have Hall := Lib.hid hall
                have Hal2 := Lib.hid hal2
                have HYl := Lib.hid hYl
                have hszq := hgq.below.size
                clear hgq hOq hall hal2 hYl
                by_cases hlt : t < R.length
                · obtain ⟨bR, oR, rfl, lR', cR⟩ := Ha2.out.cells (by omega)
                  have e1 := cR wr Hgq.out t hlt
                  have q0 := Hgq.out.cellEq Q0.out
                  have hdr := HRi.out _ (ge_mem hlt)
                  obtain ⟨d, hd⟩ : ∃ d : Nat, ge R t = (d : Int) := ⟨(ge R t).toNat, by omega⟩
                  rw [hd] at e1 hdr
                  have Hd := Lib.hid hd
                  have hd2 : d < 2 * E.length := by omega
                  have x1 := own_atI HOq.out (j := 0) rfl hd2
                  have x2 := own_fr HOq.out (j := 0) rfl d
                  have hgl := own_lt HOq.out (j := 0) rfl
                  have hti : (t : Int) < (R.length : Int) := by omega
                  have hdi : (d : Int) < ((2 * E.length : Nat) : Int) := by omega
                  have hdi2 : (d : Int) < 2 * (E.length : Int) := by omega
                  have hw1 : wrap64 ((A.length : Int) + (i : Int)) = (A.length : Int) + i := IntWalk.wrap64_in _ ⟨by omega, by omega⟩
                  clear hd cR
                  go_wp2
                  go_roundw
                  case rel => exact ⟨t + 1, by omega, by go_num, (Owns.setGrew HOq.out Hgs.out Hgq.out (k := 0) rfl d (.int .i64 ((A.length : Int) + i))).trans (by (repeat (first | exact gR _ | refine gO ?_ _ | refine gA ?_ _ | refine gD ?_ | refine gN ?_ _))), Y.set d ((A.length : Int) + i), by rw [List.length_set]; exact HYl.out,
                    (own_setI HOq.out (j := 0) rfl d ((A.length : Int) + i)).grew (by (repeat (first | exact gR _ | refine gO ?_ _ | refine gA ?_ _ | refine gD ?_ | refine gN ?_ _))),
                    fun j hj e he => by
                      have hne : d ≠ e := fun h => by
                        have := Hff.out.dis i j hiF (by omega) (d : Int) (by rw [HdR.out, ← Hd.out]; exact ge_mem hlt) (by rw [h]; exact he)
                        omega
                      rw [ge_set_other _ hne]; exact Hall.out j hj e he,
                    fun s hs => by
                      by_cases h : d = (ge R s).toNat
                      · rw [← h, ge_set_same _ (by rw [HYl.out]; exact hd2)]
                      · rw [ge_set_other _ h]
                        refine Hal2.out s ?_
                        rcases Nat.lt_or_ge s t with k | k
                        · exact k
                        · exfalso
                          have : s = t := by omega
                          subst this
                          rw [Hd.out] at h
                          exact h (by omega)⟩
                  case measure => (simp [intOf] <;> omega)
                · obtain rfl : t = R.length := by omega
                  have hfil : Hid (∀ d : Nat, (d : Int) ∈ R → ge Y d = (A.length : Int) + i) := Lib.hid (fun d hd => by
                    obtain ⟨s, hs, e⟩ := List.getElem_of_mem hd
                    have := Hal2.out s hs
                    rw [ge_eq R hs, e] at this
                    simpa using this)
                  have b1 := own_bx HOq.out (j := 2) rfl
                  have g91 := b1.2.1
                  have u0 := b1.2.2.2 0 _ rfl
                  have u1 := b1.2.2.1 0
                  have hgs := Hgs.out
                  clear Hal2 b1
                  have Hts : Hid (supV A ++ tab (i + 1) (fun j => 4 - ((rowOf F j).length : Int)) = (supV A ++ tab i (fun j => 4 - ((rowOf F j).length : Int))) ++ [4 - (R.length : Int)]) := Lib.hid (by rw [tab_succ, HdR.out, List.append_assoc])
                  go_wp2_with ((at_builtin; refine wp_append_owns rfl _ _ 28 rfl 3 1 8 (.int .i64 0) Tryd.underlying28 Tryd.infoInt rfl (by decide) (g9) _ 1 _ _ _ (HOq.out.grew (by (repeat (first | exact gR _ | refine gO ?_ _ | refine gA ?_ _ | refine gD ?_ | refine gN ?_ _)))) rfl rfl _ 1 1 rfl [.int .i64 (4 - (R.length : Int))] rfl (fun h => by cases h) (one_news _ (by first | (go_simp; done) | (simp [go_sem, ↓IntWalk.iteOmega, *]; done))) (by simp [Value.oneCell']) (by simp only [maxLen]; omega) (by omega) (by first | rfl | omega | (simp <;> omega)) ?_; intro v1 w1 hO1 hg1 hb1 hv1; obtain ⟨p1, c1, rfl⟩ := own_form hO1 (k := 1) rfl; have b1 := own_bx hO1 (j := 2) rfl; have g91' := b1.2.1; have u1 := b1.2.2.1 0; have u2 := b1.2.2.2 0 _ rfl; have HO7 := Lib.hid hO1; have Hg7 := Lib.hid (Grew.grownBy (w0 := w5) (Hgq.out.trans (by (repeat (first | exact gR _ | refine gO ?_ _ | refine gA ?_ _ | refine gD ?_ | refine gN ?_ _)))) hg1 (fun q h => by have := hb1 q h; omega)); clear hO1 hg1 hb1 hv1 b1))
                  go_roundw
                  case rel => exact ⟨i + 1, by omega, by go_num, (Owns.setGrew HO7.out hgs Hg7.out (k := 2) rfl 0 (.slice p1 (A.length + i + 1) c1)).trans (by (repeat (first | exact gR _ | refine gO ?_ _ | refine gA ?_ _ | refine gD ?_ | refine gN ?_ _))), .slice p1 (A.length + i + 1) c1, Y, HYl.out, by
                    rw [Hts.out, lR, intVs_app']
                    exact (HO7.out.set (k := 2) rfl 0 (.slice p1 (A.length + i + 1) c1)).grew (by (repeat (first | exact gR _ | refine gO ?_ _ | refine gA ?_ _ | refine gD ?_ | refine gN ?_ _))), fun j hj d hd => by
                      by_cases h : j = i
                      · rw [h] at hd ⊢; exact hfil.out d (by rw [← HdR.out]; exact hd)
                      · exact Hall.out j (by omega) d hd⟩
                  case measure => (simp [intOf] <;> omega)
            · obtain rfl : i = f := by omega
              obtain ⟨fo, hfo, hfo2, hfo3⟩ := Hfc.out oN (by omega) (by omega)
              have hfo4 : fo < i := by rw [← Hlf.out]; exact hfo2
              obtain ⟨gS, rfl, hgS1, hgS2⟩ := own_some HOk.out (k := 1) rfl (by omega)
              obtain ⟨nf, hnf⟩ : ∃ nf, A.length + fo = nf := ⟨_, rfl⟩
              have hYo : ge Y oN = (nf : Int) := by rw [Hall.out fo hfo4 oN hfo3, ← hnf]; push_cast; rfl
              have hXl : (supV A ++ tab i fun j => 4 - ((rowOf F j).length : Int)).length = A.length + i := by rw [List.length_append, supV_len, tab_length]
              have hXv : ge (supV A ++ tab i fun j => 4 - ((rowOf F j).length : Int)) nf = 4 - ((rowOf F fo).length : Int) := by
                rw [← hnf, ← supV_len A, ge_append_right, ge_tab _ hfo4]
              have hlr := Hff.out.row fo hfo2
              have hend : Hid ((supV A ++ tab i fun j => 4 - ((rowOf F j).length : Int)).set nf (4 - ((rowOf F fo).length : Int) - 8) = supL A F oN) := Lib.hid (by rw [← hnf]; have := sup_end (A := A) hfo hfo2; rw [Hlf.out] at this; exact this)
              have y1 := own_atI HOk.out (j := 0) rfl ho2
              rw [hYo] at y1
              have y2 := own_atC HOk.out (j := 1) rfl (i := nf) (by rw [hXl]; omega)
              rw [hXv] at y2
              obtain ⟨ln, hln⟩ : ∃ ln, (rowOf F fo).length = ln := ⟨_, rfl⟩
              rw [hln] at y2 hlr hend
              have y3 := own_fr HOk.out (j := 1) rfl nf
              have b1 := own_bx HOk.out (j := 2) rfl
              have g91 := b1.2.1
              have y0 := b1.2.2.2 0 _ rfl
              have hgl := own_lt HOk.out (j := 0) rfl
              have hnfi : (nf : Int) < ((A.length + i : Nat) : Int) := by omega
              have hnfi2 : (nf : Int) < (A.length : Int) + (i : Int) := by omega
              have hoi : (oN : Int) < ((2 * E.length : Nat) : Int) := by omega
              have hoi2 : (oN : Int) < 2 * (E.length : Int) := by omega
              have hw8 : wrap64 (4 - (ln : Int) - 8) = 4 - (ln : Int) - 8 := IntWalk.wrap64_in _ ⟨by omega, by omega⟩
              have hw9 : IntKind.i64.wrap (4 - (ln : Int) - 8) = 4 - (ln : Int) - 8 := IntWalk.i64_in _ ⟨by omega, by omega⟩
              have Hgr2 := Lib.hid (Owns.setGrew HOk.out Hgs.out Hgr.out (k := 1) rfl nf (.int .i64 (4 - (ln : Int) - 8)))
              have HOs := own_setC HOk.out (j := 1) rfl nf (4 - (ln : Int) - 8)
              rw [hend.out] at HOs
              have HOs := Lib.hid HOs
              have Hfa : Hid (∀ d : Nat, d < 2 * E.length → ge Y d = (A.length : Int) + faceF F d) := Lib.hid (fun d hd => by
                obtain ⟨a, h1, h2, h3⟩ := Hfc.out d (by omega) (by omega)
                rw [h1]; exact Hall.out a (by have := Hlf.out; omega) d h3)
              clear hYo hXl hXv hln b1 hend hfo hfo2 hfo3 HOk Hall hnf
              go_upto_region 35 with fail
              refine wp_region_T (s := 10) (S := fun w' => w'.cell? ⟨g9, 0, none⟩ = some (.slice (some ⟨gS, 0, none⟩) (A.length + i) cS) ∧ w'.cell? ⟨gf, oN, none⟩ = some (.int .i64 (nf : Int)) ∧ w'.cell? ⟨gS, nf, none⟩ = some (.int .i64 (4 - (ln : Int)))) (by kernel_rfl) ⟨y0, y1, y2⟩ (fun hH => ?_)
              refine wpAnyT_takeL (i := 0) (v := ?_) rfl (by kernel_rfl) (by kernel_rfl) (by kernel_rfl) (by kernel_rfl) (fun _ _ _ h => h) (Or.inl ⟨by rfl, ?_⟩) (by assumption) ?_
              rotate_left
              · (intro w hSw; (try dsimp only at hSw); go_simp; (try with_reducible rfl))
              (try simp only [Act.put, List.setIfInBounds_toArray, List.set_cons_zero, List.set_cons_succ])
              refine wpAnyT_takeL (i := 1) (v := ?_) rfl (by kernel_rfl) (by kernel_rfl) (by kernel_rfl) (by kernel_rfl) (fun _ _ _ h => h) (Or.inl ⟨by rfl, ?_⟩) (by assumption) ?_
              rotate_left
              · (intro w hSw; (try dsimp only at hSw); go_simp; (try with_reducible rfl))
              (try simp only [Act.put, List.setIfInBounds_toArray, List.set_cons_zero, List.set_cons_succ])
              refine wpAnyT_takeL (i := 2) (v := ?_) rfl (by kernel_rfl) (by kernel_rfl) (by kernel_rfl) (by kernel_rfl) (fun _ _ _ h => h) (Or.inl ⟨by rfl, ?_⟩) (by assumption) ?_
              rotate_left
              · (intro w hSw; (try dsimp only at hSw); go_simp; (try with_reducible rfl))
              (try simp only [Act.put, List.setIfInBounds_toArray, List.set_cons_zero, List.set_cons_succ])
              refine wpAnyT_takeL (i := 3) (v := ?_) rfl (by kernel_rfl) (by kernel_rfl) (by kernel_rfl) (by kernel_rfl) (fun _ _ _ h => h) (Or.inl ⟨by rfl, ?_⟩) (by assumption) ?_
              rotate_left
              · (intro w hSw; (try dsimp only at hSw); go_simp; (try with_reducible rfl))
              (try simp only [Act.put, List.setIfInBounds_toArray, List.set_cons_zero, List.set_cons_succ])
              refine wpAnyT_takeL (i := 4) (v := ?_) rfl (by kernel_rfl) (by kernel_rfl) (by kernel_rfl) (by kernel_rfl) (fun _ _ _ h => h) (Or.inl ⟨by rfl, ?_⟩) (by assumption) ?_
              rotate_left
              · (intro w hSw; (try dsimp only at hSw); go_simp; (try with_reducible rfl))
              (try simp only [Act.put, List.setIfInBounds_toArray, List.set_cons_zero, List.set_cons_succ])
              refine wpAnyT_takeL (i := 5) (v := ?_) rfl (by kernel_rfl) (by kernel_rfl) (by kernel_rfl) (by kernel_rfl) (fun _ _ _ h => h) (Or.inl ⟨by rfl, ?_⟩) (by assumption) ?_
              rotate_left
              · (intro w hSw; (try dsimp only at hSw); go_simp; (try with_reducible rfl))
              (try simp only [Act.put, List.setIfInBounds_toArray, List.set_cons_zero, List.set_cons_succ])
              refine wpAnyT_takeL (i := 6) (v := ?_) rfl (by kernel_rfl) (by kernel_rfl) (by kernel_rfl) (by kernel_rfl) (fun _ _ _ h => h) (Or.inl ⟨by rfl, ?_⟩) (by assumption) ?_
              rotate_left
              · (intro w hSw; (try dsimp only at hSw); go_simp; (try with_reducible rfl))
              (try simp only [Act.put, List.setIfInBounds_toArray, List.set_cons_zero, List.set_cons_succ])
              refine wpAnyT_takeL (i := 7) (v := ?_) rfl (by kernel_rfl) (by kernel_rfl) (by kernel_rfl) (by kernel_rfl) (fun _ _ _ h => h) (Or.inl ⟨by rfl, ?_⟩) (by assumption) ?_
              rotate_left
              · (intro w hSw; (try dsimp only at hSw); go_simp; (try with_reducible rfl))
              (try simp only [Act.put, List.setIfInBounds_toArray, List.set_cons_zero, List.set_cons_succ])
              refine wpAnyT_takeL (i := 8) (v := ?_) rfl (by kernel_rfl) (by kernel_rfl) (by kernel_rfl) (by kernel_rfl) (fun _ _ _ h => h) (Or.inl ⟨by rfl, ?_⟩) (by assumption) ?_
              rotate_left
              · (intro w hSw; (try dsimp only at hSw); go_simp; (try with_reducible rfl))
              (try simp only [Act.put, List.setIfInBounds_toArray, List.set_cons_zero, List.set_cons_succ])
              refine wpAnyT_takeL (i := 9) (v := ?_) rfl (by kernel_rfl) (by kernel_rfl) (by kernel_rfl) (by kernel_rfl) (fun _ _ _ h => h) (Or.inl ⟨by rfl, ?_⟩) (by assumption) ?_
              rotate_left
              · (intro w hSw; (try dsimp only at hSw); go_simp; (try with_reducible rfl))
              (try simp only [Act.put, List.setIfInBounds_toArray, List.set_cons_zero, List.set_cons_succ])
              refine wpAnyT_all (rs := [10]) (by kernel_rfl) (by simp) (AllT.lastL rfl (fun K hK => ?_))
              go_simp
              refine hK.out _ _ ?_
              clear hK K
              (try simp only [Act.put, List.setIfInBounds_toArray, List.set_cons_zero, List.set_cons_succ])
              refine wpAnyT_done (by kernel_rfl) ?_ _
              obtain ⟨wS, hwS⟩ : ∃ wS, wr.setCell ⟨gS, nf, none⟩ (.int .i64 (4 - (ln : Int) - 8)) = wS := ⟨_, rfl⟩
              rw [hwS] at HOs Hgr2
              try rw [hwS]
              clear hwS y0 y1 y2 y3
              have HO10 : Hid (Owns wS g9 [aR (.slice none 0 0) 0 (arcK A.length F E 0), rI gf (2 * E.length) Y, lR (.slice (some ⟨gS, 0, none⟩) (A.length + i) cS) (A.length + i) (supL A F oN), bx g9 31 2 [.slice (some ⟨gS, 0, none⟩) (A.length + i) cS, .slice none 0 0]]) := Lib.hid (HOs.out.none 63 4)
              clear HOs
              go_wp2
              go_loopw [141] (fun kv wr => ∃ d : Nat, d ≤ 2 * E.length ∧ kv = .int .i64 d ∧ Grew w5 wr ∧ ∃ vA, Owns wr g9 [aR vA (2 * d) (arcK A.length F E d), rI gf (2 * E.length) Y, lR (.slice (some ⟨gS, 0, none⟩) (A.length + i) cS) (A.length + i) (supL A F oN), bx g9 31 2 [.slice (some ⟨gS, 0, none⟩) (A.length + i) cS, vA]]) (fun kv _ => 2 * E.length - (intOf kv).toNat)
              case atStart => exact ⟨0, Nat.zero_le _, rfl, Hgr2.out.trans (by (repeat (first | exact gR _ | refine gO ?_ _ | refine gA ?_ _ | refine gD ?_ | refine gN ?_ _))), _, HO10.out.grew (by (repeat (first | exact gR _ | refine gO ?_ _ | refine gA ?_ _ | refine gD ?_ | refine gN ?_ _)))⟩
              case round =>
                clear HO10 Hgr2
                obtain ⟨d, hd, rfl, hgr, vA, hOd⟩ := hrel
                obtain ⟨pK, cK, rfl⟩ := own_form hOd (k := 0) rfl
                have Hgr := Lib.hid hgr
                have HOd := Lib.hid hOd
                have hszr := hgr.below.size
                have hgs := Hgs.out
                clear hgr hOd
                by_cases hlt : d < 2 * E.length
                · obtain ⟨dx, hdx⟩ : ∃ dx : Nat, oth (d : Int) = (dx : Int) := ⟨(oth d).toNat, by have := oth_bd (M := E.length) (d := (d : Int)) (by omega) (by omega); omega⟩
                  have hx2l : dx < 2 * E.length := by have := oth_bd (M := E.length) (d := (d : Int)) (by omega) (by omega); omega
                  have hd2 := hlt
                  have hx2 : bits BinOp.xor IntKind.i64 (d : Int) 1 = (dx : Int) := by rw [← hdx]; exact xor_small d (by omega)
                  obtain ⟨u, hu⟩ : ∃ u, ge Y d = u := ⟨_, rfl⟩
                  obtain ⟨v, hv⟩ : ∃ v, ge Y dx = v := ⟨_, rfl⟩
                  have Hgu := Lib.hid hu
                  have Hgv := Lib.hid hv
                  have Hfu : Hid ((A.length : Int) + faceF F d = u) := Lib.hid (by rw [← hu]; exact (Hfa.out d hlt).symm)
                  have Hfv : Hid ((A.length : Int) + faceF F (oth d) = v) := Lib.hid (by rw [← hv, hdx]; exact (Hfa.out dx hx2l).symm)
                  have y1 := own_atI HOd.out (j := 1) rfl hd2
                  have y2 := own_atI HOd.out (j := 1) rfl hx2l
                  rw [hu] at y1
                  rw [hv] at y2
                  have b1 := own_bx HOd.out (j := 3) rfl
                  have g91 := b1.2.1
                  have y0 := b1.2.2.2 1 _ rfl
                  have hgl := own_lt HOd.out (j := 1) rfl
                  have q1 := Hgr.out.cellEq Q1.out
                  obtain ⟨c1, c2⟩ := HcE.out wr (Hw5.out.trans Hgr.out) (d / 2) (by omega)
                  have hdi : (d : Int) < ((2 * E.length : Nat) : Int) := by omega
                  have hdi2 : (d : Int) < 2 * (E.length : Int) := by omega
                  have hxi : (dx : Int) < ((2 * E.length : Nat) : Int) := by omega
                  have hxi2 : (dx : Int) < 2 * (E.length : Int) := by omega
                  have hd2l : d / 2 < E.length := by omega
                  clear hu hv hdx b1
                  by_cases hp : d % 2 = 0
                  · have hp' := hp
                    have hpar : (((d : Int) % 2) == 1) = false := by rw [beq_eq_false_iff_ne]; omega
                    have hpar2 : (((d : Int).tmod 2) == 1) = false := by rw [Int.tmod_eq_emod_of_nonneg (by omega)]; exact hpar
                    have Htl : Hid (tailE E d = (pr E (d / 2)).1) := Lib.hid (by unfold tailE; rw [if_pos (by omega)]; rfl)
                    have Harp : Hid (akVs (arcP A.length F E d) = [.int .i64 (pr E (d / 2)).1, .int .i64 v, .int .i64 3, .int .i64 0, .int .i64 u, .int .i64 v, .int .i64 64, .int .i64 1]) := Lib.hid (by
                      unfold arcP akVs ak4
                      rw [Htl.out, ← Hfu.out, ← Hfv.out]
                      rfl)
                    go_upto_region 43 with fail
                    refine wp_region_T (s := 22) (S := fun w' => w'.cell? ⟨g9, 1, none⟩ = some (.slice pK (2 * d) cK) ∧ w'.cell? ⟨gf, d, none⟩ = some (.int .i64 u) ∧ w'.cell? ⟨gf, dx, none⟩ = some (.int .i64 v)) (by kernel_rfl) (by (refine ⟨?_, ?_, ?_⟩ <;> (first | (go_simp; done) | (simp [go_sem, ↓IntWalk.iteOmega, *]; done)))) (fun hH => ?_)
                    refine wpAnyT_takeL (i := 0) (v := ?_) rfl (by kernel_rfl) (by kernel_rfl) (by kernel_rfl) (by kernel_rfl) (fun _ _ _ h => h) (Or.inl ⟨by rfl, ?_⟩) (by assumption) ?_
                    rotate_left
                    · (intro w hSw; (try dsimp only at hSw); go_simp; (try with_reducible rfl))
                    (try simp only [Act.put, List.setIfInBounds_toArray, List.set_cons_zero, List.set_cons_succ])
                    refine wpAnyT_takeL (i := 1) (v := ?_) rfl (by kernel_rfl) (by kernel_rfl) (by kernel_rfl) (by kernel_rfl) (fun _ _ _ h => h) (Or.inl ⟨by rfl, ?_⟩) (by assumption) ?_
                    rotate_left
                    · (intro w hSw; (try dsimp only at hSw); go_simp; (try with_reducible rfl))
                    (try simp only [Act.put, List.setIfInBounds_toArray, List.set_cons_zero, List.set_cons_succ])
                    refine wpAnyT_takeL (i := 2) (v := ?_) rfl (by kernel_rfl) (by kernel_rfl) (by kernel_rfl) (by kernel_rfl) (fun _ _ _ h => h) (Or.inl ⟨by rfl, ?_⟩) (by assumption) ?_
                    rotate_left
                    · (intro w hSw; (try dsimp only at hSw); go_simp; (try with_reducible rfl))
                    (try simp only [Act.put, List.setIfInBounds_toArray, List.set_cons_zero, List.set_cons_succ])
                    refine wpAnyT_takeL (i := 3) (v := ?_) rfl (by kernel_rfl) (by kernel_rfl) (by kernel_rfl) (by kernel_rfl) (fun _ _ _ h => h) (Or.inl ⟨by rfl, ?_⟩) (by assumption) ?_
                    rotate_left
                    · (intro w hSw; (try dsimp only at hSw); go_simp; (try with_reducible rfl))
                    (try simp only [Act.put, List.setIfInBounds_toArray, List.set_cons_zero, List.set_cons_succ])
                    refine wpAnyT_takeL (i := 4) (v := ?_) rfl (by kernel_rfl) (by kernel_rfl) (by kernel_rfl) (by kernel_rfl) (fun _ _ _ h => h) (Or.inl ⟨by rfl, ?_⟩) (by assumption) ?_
                    rotate_left
                    · (intro w hSw; (try dsimp only at hSw); go_simp; (try with_reducible rfl))
                    (try simp only [Act.put, List.setIfInBounds_toArray, List.set_cons_zero, List.set_cons_succ])
                    refine wpAnyT_takeL (i := 5) (v := ?_) rfl (by kernel_rfl) (by kernel_rfl) (by kernel_rfl) (by kernel_rfl) (fun _ _ _ h => h) (Or.inl ⟨by rfl, ?_⟩) (by assumption) ?_
                    rotate_left
                    · (intro w hSw; (try dsimp only at hSw); go_simp; (try with_reducible rfl))
                    (try simp only [Act.put, List.setIfInBounds_toArray, List.set_cons_zero, List.set_cons_succ])
                    refine wpAnyT_takeL (i := 6) (v := ?_) rfl (by kernel_rfl) (by kernel_rfl) (by kernel_rfl) (by kernel_rfl) (fun _ _ _ h => h) (Or.inl ⟨by rfl, ?_⟩) (by assumption) ?_
                    rotate_left
                    · (intro w hSw; (try dsimp only at hSw); go_simp; (try with_reducible rfl))
                    (try simp only [Act.put, List.setIfInBounds_toArray, List.set_cons_zero, List.set_cons_succ])
                    refine wpAnyT_takeL (i := 7) (v := ?_) rfl (by kernel_rfl) (by kernel_rfl) (by kernel_rfl) (by kernel_rfl) (fun _ _ _ h => h) (Or.inl ⟨by rfl, ?_⟩) (by assumption) ?_
                    rotate_left
                    · (intro w hSw; (try dsimp only at hSw); go_simp; (try with_reducible rfl))
                    (try simp only [Act.put, List.setIfInBounds_toArray, List.set_cons_zero, List.set_cons_succ])
                    refine wpAnyT_takeL (i := 8) (v := ?_) rfl (by kernel_rfl) (by kernel_rfl) (by kernel_rfl) (by kernel_rfl) (fun _ _ _ h => h) (Or.inl ⟨by rfl, ?_⟩) (by assumption) ?_
                    rotate_left
                    · (intro w hSw; (try dsimp only at hSw); go_simp; (try with_reducible rfl))
                    (try simp only [Act.put, List.setIfInBounds_toArray, List.set_cons_zero, List.set_cons_succ])
                    refine wpAnyT_takeL (i := 9) (v := ?_) rfl (by kernel_rfl) (by kernel_rfl) (by kernel_rfl) (by kernel_rfl) (fun _ _ _ h => h) (Or.inl ⟨by rfl, ?_⟩) (by assumption) ?_
                    rotate_left
                    · (intro w hSw; (try dsimp only at hSw); go_simp; (try with_reducible rfl))
                    (try simp only [Act.put, List.setIfInBounds_toArray, List.set_cons_zero, List.set_cons_succ])
                    refine wpAnyT_takeL (i := 10) (v := ?_) rfl (by kernel_rfl) (by kernel_rfl) (by kernel_rfl) (by kernel_rfl) (fun _ _ _ h => h) (Or.inl ⟨by rfl, ?_⟩) (by assumption) ?_
                    rotate_left
                    · (intro w hSw; (try dsimp only at hSw); go_simp; (try with_reducible rfl))
                    (try simp only [Act.put, List.setIfInBounds_toArray, List.set_cons_zero, List.set_cons_succ])
                    refine wpAnyT_takeL (i := 11) (v := ?_) rfl (by kernel_rfl) (by kernel_rfl) (by kernel_rfl) (by kernel_rfl) (fun _ _ _ h => h) (Or.inl ⟨by rfl, ?_⟩) (by assumption) ?_
                    rotate_left
                    · (intro w hSw; (try dsimp only at hSw); go_simp; (try with_reducible rfl))
                    (try simp only [Act.put, List.setIfInBounds_toArray, List.set_cons_zero, List.set_cons_succ])
                    refine wpAnyT_takeL (i := 12) (v := ?_) rfl (by kernel_rfl) (by kernel_rfl) (by kernel_rfl) (by kernel_rfl) (fun _ _ _ h => h) (Or.inl ⟨by rfl, ?_⟩) (by assumption) ?_
                    rotate_left
                    · (intro w hSw; (try dsimp only at hSw); go_simp; (try with_reducible rfl))
                    (try simp only [Act.put, List.setIfInBounds_toArray, List.set_cons_zero, List.set_cons_succ])
                    refine wpAnyT_takeL (i := 13) (v := ?_) rfl (by kernel_rfl) (by kernel_rfl) (by kernel_rfl) (by kernel_rfl) (fun _ _ _ h => h) (Or.inl ⟨by rfl, ?_⟩) (by assumption) ?_
                    rotate_left
                    · (intro w hSw; (try dsimp only at hSw); go_simp; (try with_reducible rfl))
                    (try simp only [Act.put, List.setIfInBounds_toArray, List.set_cons_zero, List.set_cons_succ])
                    refine wpAnyT_takeL (i := 14) (v := ?_) rfl (by kernel_rfl) (by kernel_rfl) (by kernel_rfl) (by kernel_rfl) (fun _ _ _ h => h) (Or.inl ⟨by rfl, ?_⟩) (by assumption) ?_
                    rotate_left
                    · (intro w hSw; (try dsimp only at hSw); go_simp; (try with_reducible rfl))
                    (try simp only [Act.put, List.setIfInBounds_toArray, List.set_cons_zero, List.set_cons_succ])
                    refine wpAnyT_takeL (i := 15) (v := ?_) rfl (by kernel_rfl) (by kernel_rfl) (by kernel_rfl) (by kernel_rfl) (fun _ _ _ h => h) (Or.inl ⟨by rfl, ?_⟩) (by assumption) ?_
                    rotate_left
                    · (intro w hSw; (try dsimp only at hSw); go_simp; (try with_reducible rfl))
                    (try simp only [Act.put, List.setIfInBounds_toArray, List.set_cons_zero, List.set_cons_succ])
                    refine wpAnyT_takeL (i := 16) (v := ?_) rfl (by kernel_rfl) (by kernel_rfl) (by kernel_rfl) (by kernel_rfl) (fun _ _ _ h => h) (Or.inl ⟨by rfl, ?_⟩) (by assumption) ?_
                    rotate_left
                    · (intro w hSw; (try dsimp only at hSw); go_simp; (try with_reducible rfl))
                    (try simp only [Act.put, List.setIfInBounds_toArray, List.set_cons_zero, List.set_cons_succ])
                    refine wpAnyT_takeL (i := 17) (v := ?_) rfl (by kernel_rfl) (by kernel_rfl) (by kernel_rfl) (by kernel_rfl) (fun _ _ _ h => h) (Or.inl ⟨by rfl, ?_⟩) (by assumption) ?_
                    rotate_left
                    · (intro w hSw; (try dsimp only at hSw); go_simp; (try with_reducible rfl))
                    (try simp only [Act.put, List.setIfInBounds_toArray, List.set_cons_zero, List.set_cons_succ])
                    refine wpAnyT_takeL (i := 18) (v := ?_) rfl (by kernel_rfl) (by kernel_rfl) (by kernel_rfl) (by kernel_rfl) (fun _ _ _ h => h) (Or.inl ⟨by rfl, ?_⟩) (by assumption) ?_
                    rotate_left
                    · (intro w hSw; (try dsimp only at hSw); go_simp; (try with_reducible rfl))
                    (try simp only [Act.put, List.setIfInBounds_toArray, List.set_cons_zero, List.set_cons_succ])
                    refine wpAnyT_all (rs := [19]) (by kernel_rfl) (by simp) (AllT.consL (i := 19) rfl (fun K hK => ?_) AllT.nil)
                    go_simp
                    refine hK.out _ _ ?_ (fun hH => ?_)
                    · (first | (simp [go_sem, ↓IntWalk.iteOmega, *]; done) | go_keep)
                    clear hK K
                    (try simp only [Act.put, List.setIfInBounds_toArray, List.set_cons_zero, List.set_cons_succ])
                    refine wpAnyT_all (rs := [20]) (by kernel_rfl) (by simp) (AllT.consL (i := 20) rfl (fun K hK => ?_) AllT.nil)
                    refine step_append_owns rfl _ _ 29 (by rfl) 63 4 32 (.agg #[.int .i64 0, .int .i64 0, .int .i64 0, .int .i64 0]) Tryd.underlying29 Tryd.infoArk rfl (by decide) g9 _ 0 _ _ _ (HOd.out.grew (by (repeat (first | exact gR _ | refine gO ?_ _ | refine gA ?_ _ | refine gD ?_ | refine gN ?_ _)))) rfl (by rfl) _ 2 2 (by rfl) [.int .i64 (pr E (d / 2)).1, .int .i64 v, .int .i64 3, .int .i64 0, .int .i64 u, .int .i64 v, .int .i64 64, .int .i64 1] rfl (fun h => by cases h) (eight_news (by (simp [go_sem, ↓IntWalk.iteOmega])) (by (simp [go_sem, ↓IntWalk.iteOmega])) (by (simp [go_sem, ↓IntWalk.iteOmega])) (by (simp [go_sem, ↓IntWalk.iteOmega])) (by (simp [go_sem, ↓IntWalk.iteOmega])) (by (simp [go_sem, ↓IntWalk.iteOmega])) (by (simp [go_sem, ↓IntWalk.iteOmega])) (by (simp [go_sem, ↓IntWalk.iteOmega]))) (by simp [Value.oneCell']) (by simp only [maxLen]; omega) (by omega) (by first | rfl | omega | (simp <;> omega)) ?_; intro v1 w1 hO1 hg1 hb1 _; obtain ⟨p1, c1, rfl⟩ := own_form hO1 (k := 0) rfl; have b1 := own_bx hO1 (j := 3) rfl; have g91' := b1.2.1; have y0 := b1.2.2.2 1 _ rfl; have u1 := b1.2.2.1 1; have y1 := own_atI hO1 (j := 1) rfl hd2; have y2 := own_atI hO1 (j := 1) rfl hx2l; have HO7 := Lib.hid hO1; have Hg7 := Lib.hid (Grew.grownBy (w0 := w5) (Hgr.out.trans (by (repeat (first | exact gR _ | refine gO ?_ _ | refine gA ?_ _ | refine gD ?_ | refine gN ?_ _)))) hg1 (fun q h => by have := hb1 q h; omega)); rw [Hgu.out] at y1; rw [Hgv.out] at y2; clear hO1 hg1 hb1 b1
                    refine hK.out _ _ ?_ (fun hH => ?_)
                    · (first | (simp [go_sem, ↓IntWalk.iteOmega, *]; done) | go_keep)
                    clear hK K
                    (try simp only [Act.put, List.setIfInBounds_toArray, List.set_cons_zero, List.set_cons_succ])
                    refine wpAnyT_takeL (i := 21) (v := ?_) rfl (by kernel_rfl) (by kernel_rfl) (by kernel_rfl) (by kernel_rfl) (fun _ _ _ h => h) (Or.inl ⟨by rfl, ?_⟩) (by assumption) ?_
                    rotate_left
                    · (intro w hSw; (try dsimp only at hSw); go_simp; (try with_reducible rfl))
                    (try simp only [Act.put, List.setIfInBounds_toArray, List.set_cons_zero, List.set_cons_succ])
                    refine wpAnyT_all (rs := [22]) (by kernel_rfl) (by simp) (AllT.lastL rfl (fun K hK => ?_))
                    go_simp
                    refine hK.out _ _ ?_
                    clear hK K
                    (try simp only [Act.put, List.setIfInBounds_toArray, List.set_cons_zero, List.set_cons_succ])
                    refine wpAnyT_done (by kernel_rfl) ?_ _
                    go_wp2
                    go_roundw
                    case rel => exact ⟨d + 1, by omega, by go_num, (Owns.setGrew HO7.out Hgs.out Hg7.out (k := 3) rfl 1 (.slice p1 (2 * d + 2) c1)).trans (by (repeat (first | exact gR _ | refine gO ?_ _ | refine gA ?_ _ | refine gD ?_ | refine gN ?_ _))), .slice p1 (2 * d + 2) c1, by
                      have hz := (HO7.out.set (k := 3) rfl 1 (.slice p1 (2 * d + 2) c1))
                      rw [← Harp.out, ← akVs_app, ← arcK_succ] at hz
                      have hl2 : 2 * d + 2 = 2 * (d + 1) := by omega
                      rw [hl2] at hz ⊢
                      exact hz.grew (by (repeat (first | exact gR _ | refine gO ?_ _ | refine gA ?_ _ | refine gD ?_ | refine gN ?_ _)))⟩
                    case measure => (simp [intOf] <;> omega)
                  · have hp' := hp
                    have hpar : (((d : Int) % 2) == 1) = true := by rw [beq_iff_eq]; omega
                    have hpar2 : (((d : Int).tmod 2) == 1) = true := by rw [Int.tmod_eq_emod_of_nonneg (by omega)]; exact hpar
                    have Htl : Hid (tailE E d = (pr E (d / 2)).2) := Lib.hid (by unfold tailE; rw [if_neg (by omega)]; rfl)
                    have Harp : Hid (akVs (arcP A.length F E d) = [.int .i64 (pr E (d / 2)).2, .int .i64 v, .int .i64 3, .int .i64 0, .int .i64 u, .int .i64 v, .int .i64 64, .int .i64 1]) := Lib.hid (by
                      unfold arcP akVs ak4
                      rw [Htl.out, ← Hfu.out, ← Hfv.out]
                      rfl)
                    go_upto_region 43 with fail
                    refine wp_region_T (s := 22) (S := fun w' => w'.cell? ⟨g9, 1, none⟩ = some (.slice pK (2 * d) cK) ∧ w'.cell? ⟨gf, d, none⟩ = some (.int .i64 u) ∧ w'.cell? ⟨gf, dx, none⟩ = some (.int .i64 v)) (by kernel_rfl) (by (refine ⟨?_, ?_, ?_⟩ <;> (first | (go_simp; done) | (simp [go_sem, ↓IntWalk.iteOmega, *]; done)))) (fun hH => ?_)
                    refine wpAnyT_takeL (i := 0) (v := ?_) rfl (by kernel_rfl) (by kernel_rfl) (by kernel_rfl) (by kernel_rfl) (fun _ _ _ h => h) (Or.inl ⟨by rfl, ?_⟩) (by assumption) ?_
                    rotate_left
                    · (intro w hSw; (try dsimp only at hSw); go_simp; (try with_reducible rfl))
                    (try simp only [Act.put, List.setIfInBounds_toArray, List.set_cons_zero, List.set_cons_succ])
                    refine wpAnyT_takeL (i := 1) (v := ?_) rfl (by kernel_rfl) (by kernel_rfl) (by kernel_rfl) (by kernel_rfl) (fun _ _ _ h => h) (Or.inl ⟨by rfl, ?_⟩) (by assumption) ?_
                    rotate_left
                    · (intro w hSw; (try dsimp only at hSw); go_simp; (try with_reducible rfl))
                    (try simp only [Act.put, List.setIfInBounds_toArray, List.set_cons_zero, List.set_cons_succ])
                    refine wpAnyT_takeL (i := 2) (v := ?_) rfl (by kernel_rfl) (by kernel_rfl) (by kernel_rfl) (by kernel_rfl) (fun _ _ _ h => h) (Or.inl ⟨by rfl, ?_⟩) (by assumption) ?_
                    rotate_left
                    · (intro w hSw; (try dsimp only at hSw); go_simp; (try with_reducible rfl))
                    (try simp only [Act.put, List.setIfInBounds_toArray, List.set_cons_zero, List.set_cons_succ])
                    refine wpAnyT_takeL (i := 3) (v := ?_) rfl (by kernel_rfl) (by kernel_rfl) (by kernel_rfl) (by kernel_rfl) (fun _ _ _ h => h) (Or.inl ⟨by rfl, ?_⟩) (by assumption) ?_
                    rotate_left
                    · (intro w hSw; (try dsimp only at hSw); go_simp; (try with_reducible rfl))
                    (try simp only [Act.put, List.setIfInBounds_toArray, List.set_cons_zero, List.set_cons_succ])
                    refine wpAnyT_takeL (i := 4) (v := ?_) rfl (by kernel_rfl) (by kernel_rfl) (by kernel_rfl) (by kernel_rfl) (fun _ _ _ h => h) (Or.inl ⟨by rfl, ?_⟩) (by assumption) ?_
                    rotate_left
                    · (intro w hSw; (try dsimp only at hSw); go_simp; (try with_reducible rfl))
                    (try simp only [Act.put, List.setIfInBounds_toArray, List.set_cons_zero, List.set_cons_succ])
                    refine wpAnyT_takeL (i := 5) (v := ?_) rfl (by kernel_rfl) (by kernel_rfl) (by kernel_rfl) (by kernel_rfl) (fun _ _ _ h => h) (Or.inl ⟨by rfl, ?_⟩) (by assumption) ?_
                    rotate_left
                    · (intro w hSw; (try dsimp only at hSw); go_simp; (try with_reducible rfl))
                    (try simp only [Act.put, List.setIfInBounds_toArray, List.set_cons_zero, List.set_cons_succ])
                    refine wpAnyT_takeL (i := 6) (v := ?_) rfl (by kernel_rfl) (by kernel_rfl) (by kernel_rfl) (by kernel_rfl) (fun _ _ _ h => h) (Or.inl ⟨by rfl, ?_⟩) (by assumption) ?_
                    rotate_left
                    · (intro w hSw; (try dsimp only at hSw); go_simp; (try with_reducible rfl))
                    (try simp only [Act.put, List.setIfInBounds_toArray, List.set_cons_zero, List.set_cons_succ])
                    refine wpAnyT_takeL (i := 7) (v := ?_) rfl (by kernel_rfl) (by kernel_rfl) (by kernel_rfl) (by kernel_rfl) (fun _ _ _ h => h) (Or.inl ⟨by rfl, ?_⟩) (by assumption) ?_
                    rotate_left
                    · (intro w hSw; (try dsimp only at hSw); go_simp; (try with_reducible rfl))
                    (try simp only [Act.put, List.setIfInBounds_toArray, List.set_cons_zero, List.set_cons_succ])
                    refine wpAnyT_takeL (i := 8) (v := ?_) rfl (by kernel_rfl) (by kernel_rfl) (by kernel_rfl) (by kernel_rfl) (fun _ _ _ h => h) (Or.inl ⟨by rfl, ?_⟩) (by assumption) ?_
                    rotate_left
                    · (intro w hSw; (try dsimp only at hSw); go_simp; (try with_reducible rfl))
                    (try simp only [Act.put, List.setIfInBounds_toArray, List.set_cons_zero, List.set_cons_succ])
                    refine wpAnyT_takeL (i := 9) (v := ?_) rfl (by kernel_rfl) (by kernel_rfl) (by kernel_rfl) (by kernel_rfl) (fun _ _ _ h => h) (Or.inl ⟨by rfl, ?_⟩) (by assumption) ?_
                    rotate_left
                    · (intro w hSw; (try dsimp only at hSw); go_simp; (try with_reducible rfl))
                    (try simp only [Act.put, List.setIfInBounds_toArray, List.set_cons_zero, List.set_cons_succ])
                    refine wpAnyT_takeL (i := 10) (v := ?_) rfl (by kernel_rfl) (by kernel_rfl) (by kernel_rfl) (by kernel_rfl) (fun _ _ _ h => h) (Or.inl ⟨by rfl, ?_⟩) (by assumption) ?_
                    rotate_left
                    · (intro w hSw; (try dsimp only at hSw); go_simp; (try with_reducible rfl))
                    (try simp only [Act.put, List.setIfInBounds_toArray, List.set_cons_zero, List.set_cons_succ])
                    refine wpAnyT_takeL (i := 11) (v := ?_) rfl (by kernel_rfl) (by kernel_rfl) (by kernel_rfl) (by kernel_rfl) (fun _ _ _ h => h) (Or.inl ⟨by rfl, ?_⟩) (by assumption) ?_
                    rotate_left
                    · (intro w hSw; (try dsimp only at hSw); go_simp; (try with_reducible rfl))
                    (try simp only [Act.put, List.setIfInBounds_toArray, List.set_cons_zero, List.set_cons_succ])
                    refine wpAnyT_takeL (i := 12) (v := ?_) rfl (by kernel_rfl) (by kernel_rfl) (by kernel_rfl) (by kernel_rfl) (fun _ _ _ h => h) (Or.inl ⟨by rfl, ?_⟩) (by assumption) ?_
                    rotate_left
                    · (intro w hSw; (try dsimp only at hSw); go_simp; (try with_reducible rfl))
                    (try simp only [Act.put, List.setIfInBounds_toArray, List.set_cons_zero, List.set_cons_succ])
                    refine wpAnyT_takeL (i := 13) (v := ?_) rfl (by kernel_rfl) (by kernel_rfl) (by kernel_rfl) (by kernel_rfl) (fun _ _ _ h => h) (Or.inl ⟨by rfl, ?_⟩) (by assumption) ?_
                    rotate_left
                    · (intro w hSw; (try dsimp only at hSw); go_simp; (try with_reducible rfl))
                    (try simp only [Act.put, List.setIfInBounds_toArray, List.set_cons_zero, List.set_cons_succ])
                    refine wpAnyT_takeL (i := 14) (v := ?_) rfl (by kernel_rfl) (by kernel_rfl) (by kernel_rfl) (by kernel_rfl) (fun _ _ _ h => h) (Or.inl ⟨by rfl, ?_⟩) (by assumption) ?_
                    rotate_left
                    · (intro w hSw; (try dsimp only at hSw); go_simp; (try with_reducible rfl))
                    (try simp only [Act.put, List.setIfInBounds_toArray, List.set_cons_zero, List.set_cons_succ])
                    refine wpAnyT_takeL (i := 15) (v := ?_) rfl (by kernel_rfl) (by kernel_rfl) (by kernel_rfl) (by kernel_rfl) (fun _ _ _ h => h) (Or.inl ⟨by rfl, ?_⟩) (by assumption) ?_
                    rotate_left
                    · (intro w hSw; (try dsimp only at hSw); go_simp; (try with_reducible rfl))
                    (try simp only [Act.put, List.setIfInBounds_toArray, List.set_cons_zero, List.set_cons_succ])
                    refine wpAnyT_takeL (i := 16) (v := ?_) rfl (by kernel_rfl) (by kernel_rfl) (by kernel_rfl) (by kernel_rfl) (fun _ _ _ h => h) (Or.inl ⟨by rfl, ?_⟩) (by assumption) ?_
                    rotate_left
                    · (intro w hSw; (try dsimp only at hSw); go_simp; (try with_reducible rfl))
                    (try simp only [Act.put, List.setIfInBounds_toArray, List.set_cons_zero, List.set_cons_succ])
                    refine wpAnyT_takeL (i := 17) (v := ?_) rfl (by kernel_rfl) (by kernel_rfl) (by kernel_rfl) (by kernel_rfl) (fun _ _ _ h => h) (Or.inl ⟨by rfl, ?_⟩) (by assumption) ?_
                    rotate_left
                    · (intro w hSw; (try dsimp only at hSw); go_simp; (try with_reducible rfl))
                    (try simp only [Act.put, List.setIfInBounds_toArray, List.set_cons_zero, List.set_cons_succ])
                    refine wpAnyT_takeL (i := 18) (v := ?_) rfl (by kernel_rfl) (by kernel_rfl) (by kernel_rfl) (by kernel_rfl) (fun _ _ _ h => h) (Or.inl ⟨by rfl, ?_⟩) (by assumption) ?_
                    rotate_left
                    · (intro w hSw; (try dsimp only at hSw); go_simp; (try with_reducible rfl))
                    (try simp only [Act.put, List.setIfInBounds_toArray, List.set_cons_zero, List.set_cons_succ])
                    refine wpAnyT_all (rs := [19]) (by kernel_rfl) (by simp) (AllT.consL (i := 19) rfl (fun K hK => ?_) AllT.nil)
                    go_simp
                    refine hK.out _ _ ?_ (fun hH => ?_)
                    · (first | (simp [go_sem, ↓IntWalk.iteOmega, *]; done) | go_keep)
                    clear hK K
                    (try simp only [Act.put, List.setIfInBounds_toArray, List.set_cons_zero, List.set_cons_succ])
                    refine wpAnyT_all (rs := [20]) (by kernel_rfl) (by simp) (AllT.consL (i := 20) rfl (fun K hK => ?_) AllT.nil)
                    refine step_append_owns rfl _ _ 29 (by rfl) 63 4 32 (.agg #[.int .i64 0, .int .i64 0, .int .i64 0, .int .i64 0]) Tryd.underlying29 Tryd.infoArk rfl (by decide) g9 _ 0 _ _ _ (HOd.out.grew (by (repeat (first | exact gR _ | refine gO ?_ _ | refine gA ?_ _ | refine gD ?_ | refine gN ?_ _)))) rfl (by rfl) _ 2 2 (by rfl) [.int .i64 (pr E (d / 2)).2, .int .i64 v, .int .i64 3, .int .i64 0, .int .i64 u, .int .i64 v, .int .i64 64, .int .i64 1] rfl (fun h => by cases h) (eight_news (by (simp [go_sem, ↓IntWalk.iteOmega])) (by (simp [go_sem, ↓IntWalk.iteOmega])) (by (simp [go_sem, ↓IntWalk.iteOmega])) (by (simp [go_sem, ↓IntWalk.iteOmega])) (by (simp [go_sem, ↓IntWalk.iteOmega])) (by (simp [go_sem, ↓IntWalk.iteOmega])) (by (simp [go_sem, ↓IntWalk.iteOmega])) (by (simp [go_sem, ↓IntWalk.iteOmega]))) (by simp [Value.oneCell']) (by simp only [maxLen]; omega) (by omega) (by first | rfl | omega | (simp <;> omega)) ?_; intro v1 w1 hO1 hg1 hb1 _; obtain ⟨p1, c1, rfl⟩ := own_form hO1 (k := 0) rfl; have b1 := own_bx hO1 (j := 3) rfl; have g91' := b1.2.1; have y0 := b1.2.2.2 1 _ rfl; have u1 := b1.2.2.1 1; have y1 := own_atI hO1 (j := 1) rfl hd2; have y2 := own_atI hO1 (j := 1) rfl hx2l; have HO7 := Lib.hid hO1; have Hg7 := Lib.hid (Grew.grownBy (w0 := w5) (Hgr.out.trans (by (repeat (first | exact gR _ | refine gO ?_ _ | refine gA ?_ _ | refine gD ?_ | refine gN ?_ _)))) hg1 (fun q h => by have := hb1 q h; omega)); rw [Hgu.out] at y1; rw [Hgv.out] at y2; clear hO1 hg1 hb1 b1
                    refine hK.out _ _ ?_ (fun hH => ?_)
                    · (first | (simp [go_sem, ↓IntWalk.iteOmega, *]; done) | go_keep)
                    clear hK K
                    (try simp only [Act.put, List.setIfInBounds_toArray, List.set_cons_zero, List.set_cons_succ])
                    refine wpAnyT_takeL (i := 21) (v := ?_) rfl (by kernel_rfl) (by kernel_rfl) (by kernel_rfl) (by kernel_rfl) (fun _ _ _ h => h) (Or.inl ⟨by rfl, ?_⟩) (by assumption) ?_
                    rotate_left
                    · (intro w hSw; (try dsimp only at hSw); go_simp; (try with_reducible rfl))
                    (try simp only [Act.put, List.setIfInBounds_toArray, List.set_cons_zero, List.set_cons_succ])
                    refine wpAnyT_all (rs := [22]) (by kernel_rfl) (by simp) (AllT.lastL rfl (fun K hK => ?_))
                    go_simp
                    refine hK.out _ _ ?_
                    clear hK K
                    (try simp only [Act.put, List.setIfInBounds_toArray, List.set_cons_zero, List.set_cons_succ])
                    refine wpAnyT_done (by kernel_rfl) ?_ _
                    go_wp2
                    go_roundw
                    case rel => exact ⟨d + 1, by omega, by go_num, (Owns.setGrew HO7.out Hgs.out Hg7.out (k := 3) rfl 1 (.slice p1 (2 * d + 2) c1)).trans (by (repeat (first | exact gR _ | refine gO ?_ _ | refine gA ?_ _ | refine gD ?_ | refine gN ?_ _))), .slice p1 (2 * d + 2) c1, by
                      have hz := (HO7.out.set (k := 3) rfl 1 (.slice p1 (2 * d + 2) c1))
                      rw [← Harp.out, ← akVs_app, ← arcK_succ] at hz
                      have hl2 : 2 * d + 2 = 2 * (d + 1) := by omega
                      rw [hl2] at hz ⊢
                      exact hz.grew (by (repeat (first | exact gR _ | refine gO ?_ _ | refine gA ?_ _ | refine gD ?_ | refine gN ?_ _)))⟩
                    case measure => (simp [intOf] <;> omega)
                · obtain rfl : d = 2 * E.length := by omega
                  have bS := own_bx (HB5.out.grew Hgr.out) (j := 1) rfl
                  have r0 := bS.2.2.2 0 _ rfl
                  have r1 := bS.2.2.2 1 _ rfl
                  have r2 := bS.2.2.1 0
                  have r3 := bS.2.2.1 1
                  have b1 := own_bx HOd.out (j := 3) rfl
                  have y0 := b1.2.2.2 0 _ rfl
                  have y1 := b1.2.2.2 1 _ rfl
                  have hall := HB5.out.join (HOd.out.base hgs) Hgr.out Hw5.out.below.size
                  have HF1 := Lib.hid ((hall.set (k := 1) rfl 0 (.slice (some ⟨gS, 0, none⟩) (A.length + i) cS)).set (k := 1) rfl 1 (.slice pK (2 * (2 * E.length)) cK))
                  have HF2 := Lib.hid (Owns.setGrew (hall.set (k := 1) rfl 0 (.slice (some ⟨gS, 0, none⟩) (A.length + i) cS)) (Nat.le_refl _) (Owns.setGrew hall (Nat.le_refl _) (Hw5.out.trans Hgr.out) (k := 1) rfl 0 (.slice (some ⟨gS, 0, none⟩) (A.length + i) cS)) (k := 1) rfl 1 (.slice pK (2 * (2 * E.length)) cK))
                  have hsl : (supL A F oN).length = A.length + i := by unfold supL; rw [List.length_append, supV_len, supF_len, Hlf.out]
                  have Hsl := Lib.hid hsl
                  clear hall bS b1 hsl
                  go_wp2
                  refine bodyPost_ret (v := .tuple #[.agg #[.slice (some ⟨gS, 0, none⟩) (A.length + i) cS, .slice pK (2 * (2 * E.length)) cK], .int .i64 0]) (by simp [results, Tryd.results10, go_sem, ↓IntWalk.iteOmega, y0, y1, r0, r1, r2, r3]) rfl ?_
                  have hF1 := HF1.out.grew (show Grew _ _ by (repeat (first | exact gR _ | refine gO ?_ _ | refine gA ?_ _ | refine gD ?_ | refine gN ?_ _)))
                  obtain ⟨qa, ca, ea, hA⟩ := own_arks (k := 2) hF1 rfl (arcK_len _ _ _ _) (by omega) (Harc.out _ (Nat.le_refl _))
                  simp only [Value.slice.injEq, true_and] at ea
                  obtain ⟨rfl, rfl⟩ := ea
                  refine ⟨HF2.out.trans (by (repeat (first | exact gR _ | refine gO ?_ _ | refine gA ?_ _ | refine gD ?_ | refine gN ?_ _))), some ⟨gS, 0, none⟩, cS, pK, cK, by rw [Hsl.out, arcK_len], own_intsG (k := 4) hF1 rfl Hsl.out (by omega) (fun x hx => by have := Hsup.out x hx; omega), hA, fun h => by cases h⟩
end Go.Proofs.YtiihgpgpbgafiaaDoor

/- Refused of the reference; Net of the program, both cases. -/
namespace Go.Proofs.YtiihgpgpbgafiaaDoor
open Go.RowKit
attribute [local go_sem ↓] Go.wp_at_zero Go.wp_at_succ

section
variable {P : Program} {Q : Exit → Act → World → Prop} {md : Region.Mode} {S : World → Prop} {s : Nat}
/-- An operation is taken first; S holds behind each operation. -/
theorem wpAnyT_takeV {l : List Oper} {i : Nat} {oi : Oper} {v : Value} {fuel : Nat} {listed : Array Bool} {a : Act} {w : World} (hi : l[i]? = some oi)
    (hn : Region.noSelect l.toArray = true) (hf : Region.free md l.toArray listed i = true) (hr : (Region.ready md l.toArray listed).contains i = true) (hs : l.length ≤ s)
    (hQ : ∀ c a w, Q (.panic c) (a.put oi.dst v) w → Q (.panic c) a w) (hy : YieldsIf P l.toArray S oi v a) (hS : S w)
    (h : wpAnyT P md l.toArray Q S s fuel (listed.setIfInBounds i true) (a.put oi.dst v) w) : wpAnyT P md l.toArray Q S s (fuel + 1) listed a w :=
  wpAnyT_first (by simpa using hi) (Region.noSelect_spec hn) hQ (fun listed h => by
    obtain ⟨_, os, hos, _⟩ := mem_ready.1 h
    rw [Array.getElem?_eq_none (by simpa using hs)] at hos
    cases hos) fuel listed a w (Region.free_spec (by simpa using hi) hf) (by simpa using hr) hy hS h
end

theorem netS_no {N : Int} {E : List (Int × Int)} {A : List (List Int)} {o : Int} (h : netE N E A o ≠ 0 ∨ E = []) : netS N E A o = [] ∧ netA N E A o = [] := by
  unfold netS netA
  have : ¬ (netE N E A o = 0 ∧ E ≠ []) := fun k => h.elim (fun a => a k.1) k.2
  exact ⟨if_neg this, if_neg this⟩
theorem netS_ok {N : Int} {E : List (Int × Int)} {A : List (List Int)} {o : Int} (h : NetOK N E A o) (hE : 0 < E.length) : netS N E A o = supL A (facesO N E A) o ∧ netA N E A o = arcK A.length (facesO N E A) E (2 * E.length) := by
  unfold netS netA
  have : netE N E A o = 0 ∧ E ≠ [] := ⟨h.e, fun e => by rw [e] at hE; simp at hE⟩
  exact ⟨if_pos this, if_pos this⟩
theorem net_p (N : Int) (pE pA : Option Addr) (nE nA cE cA : Nat) (E : List (Int × Int)) (A : List (List Int)) (o : Int) (w : World) (hR : RotAt w pE pA E A) (hL : Lim w) (hnE : E.length = nE) (hnA : A.length = nA) (hE3 : E.length ≤ 30) (hA3 : A.length ≤ 30) :
    Calls Tryd.prog 10 #[.agg #[.int .i64 N, .slice pE nE cE, .slice pA nA cA], .int .i64 o] w (NetPost (netS N E A o) (netA N E A o) (netE N E A o) w) := by
  by_cases h : netE N E A o ≠ 0 ∨ E = []
  · rw [(netS_no h).1, (netS_no h).2]
    exact net_p_no N pE pA nE nA cE cA E A o w hR hL hnE hnA hE3 hA3 h
  · have h1 : netE N E A o = 0 := Classical.byContradiction fun e => h (Or.inl e)
    have h2 : 0 < E.length := List.length_pos_iff.2 fun e => h (Or.inr e)
    have hok := net_ok h1
    rw [(netS_ok hok h2).1, (netS_ok hok h2).2, h1]
    exact net_p_ok N pE pA nE nA cE cA E A o w hR hL hnE hnA hE3 hA3 hok h2

set_option maxRecDepth 8000 in
set_option maxHeartbeats 8000000 in
theorem refused_r (N : Int) (pE pA : Option Addr) (nE nA cE cA : Nat) (E : List (Int × Int)) (A : List (List Int)) (o : Int) (w : World) (hR : RotAt w pE pA E A) (hnE : E.length = nE) (hnA : A.length = nA) (hE3 : E.length ≤ 30) (hA3 : A.length ≤ 30) :
    Calls Tryd.prog 23 #[.agg #[.int .i64 N, .slice pE nE cE, .slice pA nA cA], .int .i64 o] w fun e w' => e = .returned (.int .i64 (netE N E A o)) ∧ Grew w w' := by
  subst hnE hnA
  have he1 := hR.e1
  have ha1 := hR.a1
  have HR := Lib.hid hR
  clear hR
  cases hv : vRotB N E A
  case false =>
    have Hf : Hid (netE N E A o = 13) := Lib.hid (by unfold netE; rw [if_pos (Or.inl hv)])
    have Hv := Lib.hid hv
    clear hv
    go_enter Tryd.func23, Tryd.ntmps23
    go_wp2_with (go_at_call 40; apply Calls.mono; (with_reducible exact valid_re Hv.out (HR.out.grew (by (repeat (first | exact gR _ | refine gO ?_ _ | refine gA ?_ _ | refine gD ?_ | refine gN ?_ _)))) rfl rfl); rintro e w' ⟨rfl, x, rfl⟩)
    go_ret
    exact ⟨ret_int Hf.out.symm, by (repeat (first | exact gR _ | refine gO ?_ _ | refine gA ?_ _ | refine gD ?_ | refine gN ?_ _))⟩
  case true =>
  have Hv := Lib.hid hv
  have HV := Lib.hid (vRotB_iff.1 hv)
  have hN : N = A.length := HV.out.al.symm
  subst hN
  obtain ⟨g, hg⟩ : ∃ g, genusF A.length E A = g := ⟨_, rfl⟩
  have Hg : Hid (∀ W1, Grew w W1 → Calls Tryd.prog 48 #[.agg #[.int .i64 A.length, .slice pE E.length cE, .slice pA A.length cA]] W1 fun e w' => e = .returned (.int .i64 g) ∧ Grew W1 w') := Lib.hid (fun W1 h => by rw [← hg]; exact genus_r _ _ _ _ _ _ _ _ _ _ (HR.out.grew h) rfl rfl)
  by_cases hg0 : g ≠ 0
  · have Hf : Hid (netE A.length E A o = 13) := Lib.hid (by unfold netE; rw [if_pos (Or.inr (by rw [hg]; exact hg0))])
    have hgb : (g != 0) = true := by simpa using hg0
    clear hv hg hg0
    go_enter Tryd.func23, Tryd.ntmps23
    go_wp2_with (first
      | (go_at_call 40; apply Calls.mono; (with_reducible exact valid_re Hv.out (HR.out.grew (by (repeat (first | exact gR _ | refine gO ?_ _ | refine gA ?_ _ | refine gD ?_ | refine gN ?_ _)))) rfl rfl); rintro e w' ⟨rfl, x, rfl⟩)
      | (go_at_call 48; apply Calls.mono; (with_reducible exact Hg.out _ (by (repeat (first | exact gR _ | refine gO ?_ _ | refine gA ?_ _ | refine gD ?_ | refine gN ?_ _)))); rintro e w' ⟨rfl, x, rfl⟩))
    go_ret
    exact ⟨ret_int Hf.out.symm, by (repeat (first | exact gR _ | refine gO ?_ _ | refine gA ?_ _ | refine gD ?_ | refine gN ?_ _))⟩
  have hg00 : g = 0 := Classical.byContradiction hg0
  subst hg00
  have Hff := Lib.hid (facs_ok HV.out)
  obtain ⟨f, hf⟩ : ∃ f, (facesO A.length E A).length = f := ⟨_, rfl⟩
  have hf2 : f ≤ 2 * E.length := by rw [← hf]; exact Hff.out.len
  have Hfl2 : Hid (∀ W1, Grew w W1 → Calls Tryd.prog 25 #[.agg #[.int .i64 A.length, .slice pE E.length cE, .slice pA A.length cA]] W1 fun e w' => Grew W1 w' ∧ ∃ q cap, e = .returned (.slice q f cap)) := Lib.hid (fun W1 h => by
    have h1 := faces_r (A.length : Int) pE pA E.length A.length cE cA E A W1 (HR.out.grew h) rfl rfl
    refine h1.mono fun e w' ⟨h2, q, cap, h3, h4⟩ => ⟨h2, q, cap, by rw [h3, hf]⟩)
  obtain ⟨cb, hcb⟩ : ∃ cb, connB E A = cb := ⟨_, rfl⟩
  have Hc : Hid (∀ W1, Grew w W1 → Calls Tryd.prog 49 #[.agg #[.int .i64 A.length, .slice pE E.length cE, .slice pA A.length cA]] W1 fun e w' => e = .returned (.bool cb) ∧ Grew W1 w') := Lib.hid (fun W1 h => by rw [← hcb]; exact connected_r _ _ _ _ _ _ _ _ _ _ (HR.out.grew h) HV.out rfl rfl)
  cases cb
  · have hc1 : cntL E A.length ≠ 1 := by unfold connB at hcb; exact of_decide_eq_false hcb
    have Hf : Hid (netE A.length E A o = 12) := Lib.hid (by unfold netE; rw [if_neg (by rw [hv, hg]; simp), if_pos hc1])
    clear hv hg hg0 hf hcb hc1
    go_enter Tryd.func23, Tryd.ntmps23
    go_wp2_with (first
      | (go_at_call 40; apply Calls.mono; (with_reducible exact valid_re Hv.out (HR.out.grew (by (repeat (first | exact gR _ | refine gO ?_ _ | refine gA ?_ _ | refine gD ?_ | refine gN ?_ _)))) rfl rfl); rintro e w' ⟨rfl, x, rfl⟩)
      | (go_at_call 48; apply Calls.mono; (with_reducible exact Hg.out _ (by (repeat (first | exact gR _ | refine gO ?_ _ | refine gA ?_ _ | refine gD ?_ | refine gN ?_ _)))); rintro e w' ⟨rfl, x, rfl⟩)
      | (go_at_call 49; apply Calls.mono; (with_reducible exact Hc.out _ (by (repeat (first | exact gR _ | refine gO ?_ _ | refine gA ?_ _ | refine gD ?_ | refine gN ?_ _)))); rintro e w' ⟨rfl, x, rfl⟩))
    go_ret
    exact ⟨ret_int Hf.out.symm, by (repeat (first | exact gR _ | refine gO ?_ _ | refine gA ?_ _ | refine gD ?_ | refine gN ?_ _))⟩
  have hcl : cntL E A.length = 1 := by unfold connB at hcb; exact of_decide_eq_true hcb
  have hcl2 : 1 ≤ A.length := by rw [← hcl]; exact cntP_le _ _
  go_enter Tryd.func23, Tryd.ntmps23
  go_upto_region 5 with (first
    | (go_at_call 40; apply Calls.mono; (with_reducible exact valid_re Hv.out (HR.out.grew (by (repeat (first | exact gR _ | refine gO ?_ _ | refine gA ?_ _ | refine gD ?_ | refine gN ?_ _)))) rfl rfl); rintro e w' ⟨rfl, x, rfl⟩)
    | (go_at_call 48; apply Calls.mono; (with_reducible exact Hg.out _ (by (repeat (first | exact gR _ | refine gO ?_ _ | refine gA ?_ _ | refine gD ?_ | refine gN ?_ _)))); rintro e w' ⟨rfl, x, rfl⟩)
    | (go_at_call 49; apply Calls.mono; (with_reducible exact Hc.out _ (by (repeat (first | exact gR _ | refine gO ?_ _ | refine gA ?_ _ | refine gD ?_ | refine gN ?_ _)))); rintro e w' ⟨rfl, x, rfl⟩))
  obtain ⟨bA, oA, rp, rc, rfl, lA, cA'⟩ := HR.out.hA.rows (by omega)
  have HcA := Lib.hid cA'
  clear cA'
  go_wp2
  go_loop [5] (fun i => ∃ v : Nat, v ≤ A.length ∧ i = .int .i64 v ∧ ∀ u, u < v → (rowOf A u).length ≤ 4) (fun i => A.length - (intOf i).toNat)
  case atStart => exact ⟨0, Nat.zero_le _, rfl, fun u hu => by omega⟩
  case round =>
    obtain ⟨v, hv2, rfl, hall⟩ := hrel
    have Hall := Lib.hid hall
    clear hall
    by_cases hlv : v < A.length
    · obtain ⟨a1, _⟩ := HcA.out w (Grew.refl _) v hlv
      obtain ⟨rv, hrv⟩ : ∃ rv, rp v = rv := ⟨_, rfl⟩
      rw [hrv] at a1
      obtain ⟨ln, hln⟩ : ∃ ln, (rowOf A v).length = ln := ⟨_, rfl⟩
      rw [hln] at a1
      have hl100 : ln ≤ 100 := by rw [← hln]; exact HR.out.r1 v hlv
      have Hln := Lib.hid hln
      by_cases h4 : 4 < ln
      · have Hf : Hid (netE A.length E A o = 11) := Lib.hid (by unfold netE; rw [if_neg (by rw [hv, hg]; simp), if_neg (by rw [hcl]; simp), if_pos ⟨v, hlv, by rw [Hln.out]; exact h4⟩])
        clear hrv hln hv hg hf hcl hcb
        go_wp2
        go_ret
        exact ⟨ret_int Hf.out.symm, by (repeat (first | exact gR _ | refine gO ?_ _ | refine gA ?_ _ | refine gD ?_ | refine gN ?_ _))⟩
      · clear hrv hln hv hg hf hcl hcb
        go_wp2
        go_round
        case rel => exact ⟨v + 1, by omega, by go_num, fun u hu => by
          by_cases h : u = v
          · rw [h, Hln.out]; omega
          · exact Hall.out u (by omega)⟩
        case measure => (simp [intOf] <;> omega)
    · have hve : v = A.length := by omega
      subst hve
      have hdeg : ¬ ∃ v, v < A.length ∧ 4 < (rowOf A v).length := fun ⟨u, hu, k⟩ => by have := Hall.out u hu; omega
      by_cases h0 : o < 0
      · have Hf : Hid (netE A.length E A o = 3) := Lib.hid (by unfold netE; rw [if_neg (by rw [hv, hg]; simp), if_neg (by rw [hcl]; simp), if_neg hdeg, if_pos (Or.inl h0)])
        clear hv hg hf hcl hdeg hcb
        go_wp2
        go_ret
        exact ⟨ret_int Hf.out.symm, by (repeat (first | exact gR _ | refine gO ?_ _ | refine gA ?_ _ | refine gD ?_ | refine gN ?_ _))⟩
      · obtain ⟨m, hm⟩ : ∃ m : Int, (if (1 : Int) < 2 * (E.length : Int) then 2 * (E.length : Int) else 1) = m := ⟨_, rfl⟩
        have hm2 : m ≤ o ↔ (2 * (E.length : Int) ≤ o ∧ 1 ≤ o) := by rw [← hm]; split <;> omega
        have hm3 : 1 ≤ m ∧ m ≤ 100 := by rw [← hm]; split <;> omega
        by_cases h1 : m ≤ o
        · have Hf : Hid (netE A.length E A o = 3) := Lib.hid (by unfold netE; rw [if_neg (by rw [hv, hg]; simp), if_neg (by rw [hcl]; simp), if_neg hdeg, if_pos (Or.inr (hm2.1 h1))])
          clear hv hg hf hcl hdeg hcb hm2
          go_wp2
          go_ret
          exact ⟨ret_int Hf.out.symm, by (repeat (first | exact gR _ | refine gO ?_ _ | refine gA ?_ _ | refine gD ?_ | refine gN ?_ _))⟩
        · have Hf : Hid (netE A.length E A o = 0) := Lib.hid (by unfold netE; rw [if_neg (by rw [hv, hg]; simp), if_neg (by rw [hcl]; simp), if_neg hdeg, if_neg (fun k => k.elim h0 (fun k => h1 (hm2.2 k)))])
          clear hv hg hf hcl hdeg hcb hm2
          have hb1 : ¬ ((A.length : Int) + (f : Int) > 256) := by omega
          have hb2 : ¬ (4 * (E.length : Int) > 2048) := by omega
          have hd1 : decide ((256 : Int) < IntKind.i64.wrap ((A.length : Int) + (f : Int))) = false := decide_eq_false (by rw [IntWalk.i64_in _ ⟨by omega, by omega⟩]; omega)
          have hd2 : decide ((2048 : Int) < IntKind.i64.wrap (4 * (E.length : Int))) = false := decide_eq_false (by rw [IntWalk.i64_in _ ⟨by omega, by omega⟩]; omega)
          go_upto_region 12 with fail
          refine wp_region_T (s := 14) (S := fun w' => w'.cell? ⟨w.heap.size, 0, none⟩ = some (.int .i64 A.length) ∧ w'.cell? ⟨w.heap.size, 1, none⟩ = some (.slice pE E.length cE) ∧ w'.cell? ⟨w.heap.size, 2, none⟩ = some (.slice (some ⟨bA, oA, none⟩) A.length cA)) (by kernel_rfl) (by (refine ⟨?_, ?_, ?_⟩ <;> (first | (go_simp; done) | (simp [go_sem, ↓IntWalk.iteOmega, *]; done)))) (fun hH => ?_)
          refine wpAnyT_takeV (i := 0) (v := ?_) rfl (by kernel_rfl) (by kernel_rfl) (by kernel_rfl) (by decide) (fun _ _ _ h => h) (Or.inl ⟨by rfl, ?_⟩) (by assumption) ?_
          rotate_left
          · (intro w hSw; (try dsimp only at hSw); go_simp; (try with_reducible rfl))
          (try simp only [Act.put, List.setIfInBounds_toArray, List.set_cons_zero, List.set_cons_succ])
          refine wpAnyT_takeV (i := 1) (v := ?_) rfl (by kernel_rfl) (by kernel_rfl) (by kernel_rfl) (by decide) (fun _ _ _ h => h) (Or.inl ⟨by rfl, ?_⟩) (by assumption) ?_
          rotate_left
          · (intro w hSw; (try dsimp only at hSw); go_simp; (try with_reducible rfl))
          (try simp only [Act.put, List.setIfInBounds_toArray, List.set_cons_zero, List.set_cons_succ])
          refine wpAnyT_takeV (i := 2) (v := ?_) rfl (by kernel_rfl) (by kernel_rfl) (by kernel_rfl) (by decide) (fun _ _ _ h => h) (Or.inl ⟨by rfl, ?_⟩) (by assumption) ?_
          rotate_left
          · (intro w hSw; (try dsimp only at hSw); go_simp; (try with_reducible rfl))
          (try simp only [Act.put, List.setIfInBounds_toArray, List.set_cons_zero, List.set_cons_succ])
          refine wpAnyT_all (rs := [3]) (by kernel_rfl) (by simp) (AllT.consL (i := 3) rfl (fun K hK => ?_) AllT.nil)
          go_simp; go_wp2_with (go_at_call 25; apply Calls.mono; (with_reducible exact Hfl2.out _ (by (repeat (first | exact gR _ | refine gO ?_ _ | refine gA ?_ _ | refine gD ?_ | refine gN ?_ _)))); rintro e w3 ⟨hg3, qF, cF, rfl⟩; have q0 := hg3.cellEq hH.1; have q1 := hg3.cellEq hH.2.1; have q2 := hg3.cellEq hH.2.2; have Hw3 := Lib.hid (Grew.trans (show Grew w _ by (repeat (first | exact gR _ | refine gO ?_ _ | refine gA ?_ _ | refine gD ?_ | refine gN ?_ _))) hg3); clear hg3)
          refine hK.out _ _ ?_ (fun hH => ?_)
          · (first | (simp [go_sem, ↓IntWalk.iteOmega, *]; done) | go_keep)
          clear hK K
          (try simp only [Act.put, List.setIfInBounds_toArray, List.set_cons_zero, List.set_cons_succ])
          refine wpAnyT_takeV (i := 4) (v := ?_) rfl (by kernel_rfl) (by kernel_rfl) (by kernel_rfl) (by decide) (fun _ _ _ h => h) (Or.inl ⟨by rfl, ?_⟩) (by assumption) ?_
          rotate_left
          · (intro w hSw; (try dsimp only at hSw); go_simp; (try with_reducible rfl))
          (try simp only [Act.put, List.setIfInBounds_toArray, List.set_cons_zero, List.set_cons_succ])
          refine wpAnyT_takeV (i := 5) (v := ?_) rfl (by kernel_rfl) (by kernel_rfl) (by kernel_rfl) (by decide) (fun _ _ _ h => h) (Or.inl ⟨by rfl, ?_⟩) (by assumption) ?_
          rotate_left
          · (intro w hSw; (try dsimp only at hSw); go_simp; (try with_reducible rfl))
          (try simp only [Act.put, List.setIfInBounds_toArray, List.set_cons_zero, List.set_cons_succ])
          refine wpAnyT_takeV (i := 6) (v := ?_) rfl (by kernel_rfl) (by kernel_rfl) (by kernel_rfl) (by decide) (fun _ _ _ h => h) (Or.inl ⟨by rfl, ?_⟩) (by assumption) ?_
          rotate_left
          · (intro w hSw; (try dsimp only at hSw); go_simp; (try with_reducible rfl))
          (try simp only [Act.put, List.setIfInBounds_toArray, List.set_cons_zero, List.set_cons_succ])
          try rw [hd1]
          refine wpAnyT_takeV (i := 7) (v := ?_) rfl (by kernel_rfl) (by kernel_rfl) (by kernel_rfl) (by decide) (fun _ _ _ h => h) (Or.inl ⟨by rfl, ?_⟩) (by assumption) ?_
          rotate_left
          · (intro w hSw; (try dsimp only at hSw); go_simp; (try with_reducible rfl))
          (try simp only [Act.put, List.setIfInBounds_toArray, List.set_cons_zero, List.set_cons_succ])
          refine wpAnyT_takeV (i := 8) (v := ?_) rfl (by kernel_rfl) (by kernel_rfl) (by kernel_rfl) (by decide) (fun _ _ _ h => h) (Or.inl ⟨by rfl, ?_⟩) (by assumption) ?_
          rotate_left
          · (intro w hSw; (try dsimp only at hSw); go_simp; (try with_reducible rfl))
          (try simp only [Act.put, List.setIfInBounds_toArray, List.set_cons_zero, List.set_cons_succ])
          refine wpAnyT_takeV (i := 9) (v := ?_) rfl (by kernel_rfl) (by kernel_rfl) (by kernel_rfl) (by decide) (fun _ _ _ h => h) (Or.inl ⟨by rfl, ?_⟩) (by assumption) ?_
          rotate_left
          · (intro w hSw; (try dsimp only at hSw); go_simp; (try with_reducible rfl))
          (try simp only [Act.put, List.setIfInBounds_toArray, List.set_cons_zero, List.set_cons_succ])
          refine wpAnyT_takeV (i := 10) (v := ?_) rfl (by kernel_rfl) (by kernel_rfl) (by kernel_rfl) (by decide) (fun _ _ _ h => h) (Or.inl ⟨by rfl, ?_⟩) (by assumption) ?_
          rotate_left
          · (intro w hSw; (try dsimp only at hSw); go_simp; (try with_reducible rfl))
          (try simp only [Act.put, List.setIfInBounds_toArray, List.set_cons_zero, List.set_cons_succ])
          refine wpAnyT_takeV (i := 11) (v := ?_) rfl (by kernel_rfl) (by kernel_rfl) (by kernel_rfl) (by decide) (fun _ _ _ h => h) (Or.inl ⟨by rfl, ?_⟩) (by assumption) ?_
          rotate_left
          · (intro w hSw; (try dsimp only at hSw); go_simp; (try with_reducible rfl))
          (try simp only [Act.put, List.setIfInBounds_toArray, List.set_cons_zero, List.set_cons_succ])
          refine wpAnyT_takeV (i := 12) (v := ?_) rfl (by kernel_rfl) (by kernel_rfl) (by kernel_rfl) (by decide) (fun _ _ _ h => h) (Or.inl ⟨by rfl, ?_⟩) (by assumption) ?_
          rotate_left
          · (intro w hSw; (try dsimp only at hSw); go_simp; (try with_reducible rfl))
          (try simp only [Act.put, List.setIfInBounds_toArray, List.set_cons_zero, List.set_cons_succ])
          try rw [hd2]
          refine wpAnyT_takeV (i := 13) (v := ?_) rfl (by kernel_rfl) (by kernel_rfl) (by kernel_rfl) (by decide) (fun _ _ _ h => h) (Or.inl ⟨by rfl, ?_⟩) (by assumption) ?_
          rotate_left
          · (intro w hSw; (try dsimp only at hSw); go_simp; (try with_reducible rfl))
          (try simp only [Act.put, List.setIfInBounds_toArray, List.set_cons_zero, List.set_cons_succ])
          refine wpAnyT_done (by kernel_rfl) ?_ _
          go_wp2
          go_ret
          exact ⟨ret_int Hf.out.symm, Hw3.out.trans (by (repeat (first | exact gR _ | refine gO ?_ _ | refine gA ?_ _ | refine gD ?_ | refine gN ?_ _)))⟩
end Go.Proofs.YtiihgpgpbgafiaaDoor
