/- The first error of a statement; the program's check. -/
import Derived.Test.YtbamckfjikpjlaaTreE
set_option linter.unusedSimpArgs false
set_option linter.unusedVariables false
namespace Go.Proofs.Ytbamckfjikpjlaa
open Go.RowKit
attribute [local go_sem ↓] Go.wp_at_zero Go.wp_at_succ

/-- The first number that is not 0. -/
def fst0 : List Int → Int
  | [] => 0
  | x :: xs => if x = 0 then fst0 xs else x
theorem fst0_app_hit {a : List Int} {x : Int} {b : List Int} (h : ∀ y ∈ a, y = 0) (hx : x ≠ 0) : fst0 (a ++ x :: b) = x := by
  induction a with
  | nil => simp [fst0, hx]
  | cons y a ih =>
    have := h y (by simp)
    subst this
    simp only [List.cons_append, fst0, if_true]
    exact ih fun z hz => h z (by simp [hz])
theorem fst0_miss {a : List Int} (h : ∀ y ∈ a, y = 0) : fst0 a = 0 := by
  induction a with
  | nil => rfl
  | cons y a ih =>
    have := h y (by simp)
    subst this
    simp only [fst0, if_true]
    exact ih fun z hz => h z (by simp [hz])
theorem fst0_map_hit {α : Type} {l : List α} {f : α → Int} {i : Nat} {x : α} (hx : l[i]? = some x) (h : ∀ (j : Nat) y, j < i → l[j]? = some y → f y = 0) (hr : f x ≠ 0) : fst0 (l.map f) = f x := by
  obtain ⟨h1, rfl⟩ := List.getElem?_eq_some_iff.1 hx
  have e : l = l.take i ++ l[i] :: l.drop (i + 1) := by rw [← List.drop_eq_getElem_cons h1, List.take_append_drop]
  conv => lhs; rw [e]
  rw [List.map_append, List.map_cons]
  refine fst0_app_hit (fun y hy => ?_) hr
  obtain ⟨z, hz, rfl⟩ := List.mem_map.1 hy
  obtain ⟨j, hj, rfl⟩ := List.getElem_of_mem hz
  have hj' : j < i := by simp at hj; omega
  exact h j _ hj' (by rw [List.getElem_take]; exact List.getElem?_eq_getElem (by omega))
theorem fst0_map_miss {α : Type} {l : List α} {f : α → Int} (h : ∀ (j : Nat) y, l[j]? = some y → f y = 0) : fst0 (l.map f) = 0 :=
  fst0_miss fun y hy => by
    obtain ⟨z, hz, rfl⟩ := List.mem_map.1 hy
    obtain ⟨j, hj, rfl⟩ := List.getElem_of_mem hz
    exact h j _ (List.getElem?_eq_getElem hj)

/-- The text at a place. -/
def p2K (l : List P2) (i : Nat) : P2 := l.getD i (⟨#[]⟩, ⟨#[]⟩)
theorem p2K_eq {l : List P2} {i : Nat} {x : P2} (h : l[i]? = some x) : p2K l i = x := by simp [p2K, List.getD, h]
theorem p2_el {w : World} {p : Option Addr} {cap : Nat} {l : List P2} {i : Nat} (h : P2s w p cap l) (hi : i < l.length) :
    ∃ b o x y, p = some ⟨b, o, none⟩ ∧ b < w.heap.size ∧ l[i]? = some (x, y) ∧ x.size ≤ maxLen ∧ y.size ≤ maxLen ∧ w.cell? ⟨b, o + i * 2, none⟩ = some (.string x) ∧ w.cell? ⟨b, o + i * 2 + 1, none⟩ = some (.string y) := by
  obtain ⟨h1, h2, h3, h4⟩ := h
  obtain ⟨b, o, ce, g1, g2, g3, ⟨rfl, g4, g4'⟩, g5⟩ := h4 i _ (List.getElem?_eq_getElem hi)
  exact ⟨b, o, l[i].1, l[i].2, g1, g2, List.getElem?_eq_getElem hi, g4, g4', g5 0 (by omega), g5 1 (by omega)⟩

/-- The form that a statement's kind asks for. -/
def fmB (k : Int) (nm : ByteArray) (rl : Nat) (ats : List P2) (bl : Nat) : Bool :=
  if k = 1 then decide (rl = 0 ∧ bl = 0) else if k = 2 then decide (nm.size = 0 ∧ bl = 0 ∧ 2 ≤ rl) else if k = 3 then decide (rl = 0 ∧ bl = 0) && (kw3 nm || kw4 nm)
  else if k = 4 then decide (rl = 0 ∧ bl = 0 ∧ ats.length = 1 ∧ (p2K ats 0).1.size = 0) else if k = 5 then decide (rl = 0 ∧ ats.length = 0) else false
def fmE (k : Int) (nm : ByteArray) (rl : Nat) (ats : List P2) (bl : Nat) : Int := if fmB k nm rl ats bl = true then 0 else 1
theorem fm1 {nm : ByteArray} {rl : Nat} {ats : List P2} {bl : Nat} : fmB 1 nm rl ats bl = decide (rl = 0 ∧ bl = 0) := rfl
theorem fm2 {nm : ByteArray} {rl : Nat} {ats : List P2} {bl : Nat} : fmB 2 nm rl ats bl = decide (nm.size = 0 ∧ bl = 0 ∧ 2 ≤ rl) := rfl
theorem fm3 {nm : ByteArray} {rl : Nat} {ats : List P2} {bl : Nat} : fmB 3 nm rl ats bl = (decide (rl = 0 ∧ bl = 0) && (kw3 nm || kw4 nm)) := rfl
theorem fm4 {nm : ByteArray} {rl : Nat} {ats : List P2} {bl : Nat} : fmB 4 nm rl ats bl = decide (rl = 0 ∧ bl = 0 ∧ ats.length = 1 ∧ (p2K ats 0).1.size = 0) := rfl
theorem fm5 {nm : ByteArray} {rl : Nat} {ats : List P2} {bl : Nat} : fmB 5 nm rl ats bl = decide (rl = 0 ∧ ats.length = 0) := rfl
theorem fm6 {k : Int} {nm : ByteArray} {rl : Nat} {ats : List P2} {bl : Nat} (h1 : ¬ k = 1) (h2 : ¬ k = 2) (h3 : ¬ k = 3) (h4 : ¬ k = 4) (h5 : ¬ k = 5) : fmB k nm rl ats bl = false := by
  unfold fmB; rw [if_neg h1, if_neg h2, if_neg h3, if_neg h4, if_neg h5]
theorem fmE_y {k : Int} {nm : ByteArray} {rl : Nat} {ats : List P2} {bl : Nat} (h : fmB k nm rl ats bl = true) : fmE k nm rl ats bl = 0 := if_pos h
theorem fmE_n {k : Int} {nm : ByteArray} {rl : Nat} {ats : List P2} {bl : Nat} (h : fmB k nm rl ats bl = false) : fmE k nm rl ats bl = 1 := if_neg (by rw [h]; simp)

set_option maxHeartbeats 4000000 in
theorem form_p (k : Int) (nm : ByteArray) (rp ap bp : Option Addr) (rl rc al ac bl bc : Nat) (ats : List P2) (w : World) (hA : P2s w ap ac ats) (ha : ats.length = al) :
    Calls Try.prog 50 #[.agg #[.int .i64 k, .string nm, .slice rp rl rc, .slice ap al ac, .slice bp bl bc]] w fun e w' => e = .returned (.int .i64 (fmE k nm rl ats bl)) ∧ Grew w w' := by
  subst ha
  have HA := Lib.hid hA
  clear hA
  obtain ⟨r, hr⟩ : ∃ r, fmE k nm rl ats bl = r := ⟨_, rfl⟩
  rw [hr]
  have Hr := Lib.hid hr
  clear hr
  have hz : ∀ n : Nat, n = 0 ∨ (((n : Int) == 0) = false ∧ 0 < n) := fun n => by
    rcases Nat.eq_zero_or_pos n with h | h
    · exact Or.inl h
    · exact Or.inr ⟨beq_eq_false_iff_ne.2 (by omega), h⟩
  have he := empty_iff nm
  by_cases h1 : k = 1
  · subst h1
    rcases hz rl with rfl | ⟨e1, q1⟩ <;> rcases hz bl with rfl | ⟨e2, q2⟩
    all_goals
      have H := Lib.hid (Hr.out.symm.trans (by first | exact fmE_y (by rw [fm1]; exact decide_eq_true (by omega)) | exact fmE_n (by rw [fm1]; exact decide_eq_false (by omega))))
      go_enter Try.func50, Try.ntmps50
      go_wp2
      go_ret
      exact ⟨ret_int H.out.symm, by (repeat (first | exact Grew.refl _ | refine Grew.over ?_ _ | refine Grew.alloc ?_ _ | refine Grew.drew ?_ | refine Grew.drewN ?_ _))⟩
  by_cases h2 : k = 2
  · subst h2
    clear h1
    by_cases q0 : nm.size = 0 <;> rcases hz bl with rfl | ⟨e2, q2⟩ <;> by_cases q3 : 2 ≤ rl
    all_goals
      first
      | (have e3 : decide (2 ≤ (rl : Int)) = true := decide_eq_true (by omega))
      | (have e3 : decide (2 ≤ (rl : Int)) = false := decide_eq_false (by omega))
      first
      | rw [decide_eq_true q0] at he
      | rw [decide_eq_false q0] at he
      have H := Lib.hid (Hr.out.symm.trans (by first | exact fmE_y (by rw [fm2]; exact decide_eq_true (by omega)) | exact fmE_n (by rw [fm2]; exact decide_eq_false (by omega))))
      go_enter Try.func50, Try.ntmps50
      go_wp2
      go_ret
      exact ⟨ret_int H.out.symm, by (repeat (first | exact Grew.refl _ | refine Grew.over ?_ _ | refine Grew.alloc ?_ _ | refine Grew.drew ?_ | refine Grew.drewN ?_ _))⟩
  by_cases h3 : k = 3
  · subst h3
    clear h1 h2
    rcases hz rl with rfl | ⟨e1, q1⟩ <;> rcases hz bl with rfl | ⟨e2, q2⟩ <;> cases q3 : kw3 nm <;> cases q4 : kw4 nm
    all_goals
      have H := Lib.hid (Hr.out.symm.trans (by first | exact fmE_y (by rw [fm3, q3, q4]; first | rfl | exact decide_eq_true (by omega)) | exact fmE_n (by rw [fm3, q3, q4]; first | exact Bool.and_false _ | (rw [decide_eq_false (by omega)]; rfl))))
      unfold kw3 at q3
      unfold kw4 at q4
      go_enter Try.func50, Try.ntmps50
      go_wp2
      go_ret
      exact ⟨ret_int H.out.symm, by (repeat (first | exact Grew.refl _ | refine Grew.over ?_ _ | refine Grew.alloc ?_ _ | refine Grew.drew ?_ | refine Grew.drewN ?_ _))⟩
  by_cases h4 : k = 4
  · subst h4
    clear h1 h2 h3
    by_cases q3 : ats.length = 1 ∧ rl = 0 ∧ bl = 0
    · obtain ⟨q3, rfl, rfl⟩ := q3
      obtain ⟨b, o, x, y, rfl, hb, hx, -, -, c0, c1⟩ := p2_el HA.out (i := 0) (by omega)
      have hk := p2K_eq hx
      have hx0 := empty_iff x
      by_cases q0 : x.size = 0
      all_goals
        first
        | rw [decide_eq_true q0] at hx0
        | rw [decide_eq_false q0] at hx0
        have H := Lib.hid (Hr.out.symm.trans (by first | exact fmE_y (by rw [fm4, hk]; exact decide_eq_true ⟨rfl, rfl, q3, q0⟩) | exact fmE_n (by rw [fm4, hk]; exact decide_eq_false (fun h => q0 h.2.2.2))))
        have hsl : Value.slice (some ⟨b, o, none⟩) ats.length ac = Value.slice (some ⟨b, o, none⟩) 1 ac := by rw [q3]
        rw [hsl]
        clear hsl hk hx
        rw [Nat.zero_mul, Nat.add_zero] at c0 c1
        go_enter Try.func50, Try.ntmps50
        go_wp2
        go_ret
        exact ⟨ret_int H.out.symm, by (repeat (first | exact Grew.refl _ | refine Grew.over ?_ _ | refine Grew.alloc ?_ _ | refine Grew.drew ?_ | refine Grew.drewN ?_ _))⟩
    by_cases q4 : ats.length = 1 <;> rcases hz rl with rfl | ⟨e1, q1⟩ <;> rcases hz bl with rfl | ⟨e2, q2⟩
    all_goals try (exfalso; omega)
    all_goals
      have H := Lib.hid (Hr.out.symm.trans (by exact fmE_n (by rw [fm4]; exact decide_eq_false (by omega))))
      first
      | have e3 : ((ats.length : Int) == 1) = false := beq_eq_false_iff_ne.2 (by omega)
      | have e3 : ((ats.length : Int) == 1) = true := beq_iff_eq.2 (by omega)
      clear q3
      go_enter Try.func50, Try.ntmps50
      go_wp2
      go_ret
      exact ⟨ret_int H.out.symm, by (repeat (first | exact Grew.refl _ | refine Grew.over ?_ _ | refine Grew.alloc ?_ _ | refine Grew.drew ?_ | refine Grew.drewN ?_ _))⟩
  by_cases h5 : k = 5
  · subst h5
    clear h1 h2 h3 h4
    rcases hz rl with rfl | ⟨e1, q1⟩ <;> rcases hz ats.length with q2 | ⟨e2, q2⟩
    all_goals
      have H := Lib.hid (Hr.out.symm.trans (by first | exact fmE_y (by rw [fm5]; exact decide_eq_true (by omega)) | exact fmE_n (by rw [fm5]; exact decide_eq_false (by omega))))
      go_enter Try.func50, Try.ntmps50
      go_wp2
      go_ret
      exact ⟨ret_int H.out.symm, by (repeat (first | exact Grew.refl _ | refine Grew.over ?_ _ | refine Grew.alloc ?_ _ | refine Grew.drew ?_ | refine Grew.drewN ?_ _))⟩
  have H := Lib.hid (Hr.out.symm.trans (fmE_n (fm6 h1 h2 h3 h4 h5)))
  go_enter Try.func50, Try.ntmps50
  go_wp2
  go_ret
  exact ⟨ret_int H.out.symm, by (repeat (first | exact Grew.refl _ | refine Grew.over ?_ _ | refine Grew.alloc ?_ _ | refine Grew.drew ?_ | refine Grew.drewN ?_ _))⟩

def nmB (k : Int) : Bool := decide (k = 1 ∨ k = 4 ∨ k = 5)
theorem named_p (k : Int) (w : World) : Calls Try.prog 51 #[.int .i64 k] w fun e w' => e = .returned (.bool (nmB k)) ∧ w = w' := by
  obtain ⟨r, hr⟩ : ∃ r, nmB k = r := ⟨_, rfl⟩
  rw [hr]
  have Hr := Lib.hid hr
  clear hr
  by_cases h1 : k = 1 <;> by_cases h4 : k = 4 <;> by_cases h5 : k = 5
  all_goals try (exfalso; omega)
  all_goals
    have H := Lib.hid (Hr.out.symm.trans (by first | exact decide_eq_true (by omega) | exact decide_eq_false (by omega)))
    try subst h1
    try subst h4
    try subst h5
    try have e1 : (k == 1) = false := beq_eq_false_iff_ne.2 h1
    try have e4 : (k == 4) = false := beq_eq_false_iff_ne.2 h4
    try have e5 : (k == 5) = false := beq_eq_false_iff_ne.2 h5
    go_enter Try.func51, Try.ntmps51
    go_wp2
    go_ret
    exact ⟨ret_bool H.out.symm, rfl⟩

theorem attrs1_p (x y key : ByteArray) (c : Nat) (w : World) (hc : w.cell? ⟨c, 0, none⟩ = some (.string key)) (hb : c < w.heap.size) :
    Calls Try.prog 60 #[.agg #[.string x, .string y], .pointer (some ⟨c, 0, none⟩)] w fun e w' => e = .returned (.bool (sq x key)) ∧ Grew w w' := by
  obtain ⟨r, hr⟩ : ∃ r, sq x key = r := ⟨_, rfl⟩
  rw [hr]
  have hr' := sq_raw hr
  clear hr
  go_enter Try.func60, Try.ntmps60
  go_wp2
  go_ret
  exact ⟨rfl, by (repeat (first | exact Grew.refl _ | refine Grew.over ?_ _ | refine Grew.alloc ?_ _ | refine Grew.drew ?_ | refine Grew.drewN ?_ _))⟩

theorem any_get {α : Type} {l : List α} {pr : α → Bool} {k : Nat} {x : α} (hx : l[k]? = some x) (h : pr x = true) : l.any pr = true := List.any_eq_true.2 ⟨x, List.mem_of_getElem? hx, h⟩
theorem any_not {α : Type} {l : List α} {pr : α → Bool} (h : ∀ (j : Nat) x, l[j]? = some x → pr x = false) : l.any pr = false := by
  rw [← Bool.not_eq_true, List.any_eq_true]
  rintro ⟨x, hx, h2⟩
  obtain ⟨j, hj, rfl⟩ := List.getElem_of_mem hx
  rw [h j _ (List.getElem?_eq_getElem hj)] at h2
  cases h2

set_option maxHeartbeats 2000000 in
theorem index_at (p : Option Addr) (n cap : Nat) (l : List P2) (key : ByteArray) (c : Nat) (w : World) (hI : P2s w p cap l) (hn : l.length = n) (hc : w.cell? ⟨c, 0, none⟩ = some (.string key)) (hb : c < w.heap.size) :
    Calls Try.prog 61 #[.slice p n cap, .func (.func 60) #[] #[.pointer (some ⟨c, 0, none⟩)]] w fun e w' =>
      (∃ r : Int, e = .returned (.int .i64 r) ∧ ((r = -1 ∧ (l.any fun b => sq b.1 key) = false) ∨ ∃ k : Nat, r = (k : Int) ∧ (l.any fun b => sq b.1 key) = true)) ∧ Grew w w' := by
  subst hn
  have hm := len_lt hI
  have HI := Lib.hid hI
  have Hc := Lib.hid hc
  have Hb := Lib.hid hb
  clear hI hc hb
  go_enter Try.func61, Try.ntmps61
  go_wp2
  go_loopw [5, 8] (fun _ i wr => ∃ k : Nat, k ≤ l.length ∧ i = .int .i64 k ∧ (∀ (j : Nat) x, j < k → l[j]? = some x → sq x.1 key = false) ∧ Grew w wr) (fun _ i _ => l.length - (intOf i).toNat)
  case atStart => exact ⟨0, Nat.zero_le _, rfl, fun j x hj => by omega, by (repeat (first | exact Grew.refl _ | refine Grew.over ?_ _ | refine Grew.alloc ?_ _ | refine Grew.drew ?_ | refine Grew.drewN ?_ _))⟩
  case round =>
    obtain ⟨k, hk, rfl, hall, hg⟩ := hrel
    have Hall := Lib.hid hall
    have Hg := Lib.hid hg
    clear hall hg
    by_cases hlt : k < l.length
    · obtain ⟨b, o, x, y, rfl, hb, hx, -, -, c0, c1⟩ := p2_el (HI.out.grew stable_p2 Hg.out) hlt
      have Hx := Lib.hid hx
      clear hx
      cases he : sq x key
      · have He := Lib.hid he
        clear he
        go_wp2_with (go_at_call 60; apply Calls.mono; (with_reducible exact attrs1_p _ _ key c _ ((Hg.out.trans (by (repeat (first | exact Grew.refl _ | refine Grew.over ?_ _ | refine Grew.alloc ?_ _ | refine Grew.drew ?_ | refine Grew.drewN ?_ _)))).cellEq Hc.out) (Nat.lt_of_lt_of_le Hb.out (Hg.out.trans (by (repeat (first | exact Grew.refl _ | refine Grew.over ?_ _ | refine Grew.alloc ?_ _ | refine Grew.drew ?_ | refine Grew.drewN ?_ _)))).below.size)); rw [He.out]; rintro e w2 ⟨rfl, hg2⟩; have Hg2 := Lib.hid (Hg.out.trans (Grew.trans (by (repeat (first | exact Grew.refl _ | refine Grew.over ?_ _ | refine Grew.alloc ?_ _ | refine Grew.drew ?_ | refine Grew.drewN ?_ _))) hg2)); clear hg2)
        go_roundw
        case rel => exact ⟨k + 1, hlt, by go_num, fun j z hj hz => (by
          rcases Nat.lt_succ_iff_lt_or_eq.1 hj with h | h
          · exact Hall.out j z h hz
          · rw [h, Hx.out] at hz; cases hz; exact He.out), Hg2.out⟩
        case measure => simp [intOf]; omega
      · have He := Lib.hid (any_get (pr := fun b => sq b.1 key) Hx.out he)
        have He' := Lib.hid he
        clear he
        go_wp2_with (go_at_call 60; apply Calls.mono; (with_reducible exact attrs1_p _ _ key c _ ((Hg.out.trans (by (repeat (first | exact Grew.refl _ | refine Grew.over ?_ _ | refine Grew.alloc ?_ _ | refine Grew.drew ?_ | refine Grew.drewN ?_ _)))).cellEq Hc.out) (Nat.lt_of_lt_of_le Hb.out (Hg.out.trans (by (repeat (first | exact Grew.refl _ | refine Grew.over ?_ _ | refine Grew.alloc ?_ _ | refine Grew.drew ?_ | refine Grew.drewN ?_ _)))).below.size)); rw [He'.out]; rintro e w2 ⟨rfl, hg2⟩; have Hg2 := Lib.hid (Hg.out.trans (Grew.trans (by (repeat (first | exact Grew.refl _ | refine Grew.over ?_ _ | refine Grew.alloc ?_ _ | refine Grew.drew ?_ | refine Grew.drewN ?_ _))) hg2)); clear hg2)
        go_ret
        exact ⟨⟨k, rfl, Or.inr ⟨k, rfl, He.out⟩⟩, Hg2.out⟩
    · have Hf := Lib.hid (any_not (pr := fun b => sq b.1 key) (l := l) (fun j x hx => Hall.out j x (by have := (List.getElem?_eq_some_iff.1 hx).1; omega) hx))
      go_wp2
      go_ret
      exact ⟨⟨-1, rfl, Or.inl ⟨rfl, Hf.out⟩⟩, Hg.out.trans (by (repeat (first | exact Grew.refl _ | refine Grew.over ?_ _ | refine Grew.alloc ?_ _ | refine Grew.drew ?_ | refine Grew.drewN ?_ _)))⟩
theorem contains_at (p : Option Addr) (n cap : Nat) (l : List P2) (key : ByteArray) (c : Nat) (w : World) (hI : P2s w p cap l) (hn : l.length = n) (hc : w.cell? ⟨c, 0, none⟩ = some (.string key)) (hb : c < w.heap.size) :
    Calls Try.prog 59 #[.slice p n cap, .func (.func 60) #[] #[.pointer (some ⟨c, 0, none⟩)]] w fun e w' => e = .returned (.bool (l.any fun b => sq b.1 key)) ∧ Grew w w' := by
  have HI := Lib.hid hI
  clear hI
  go_enter Try.func59, Try.ntmps59
  go_wp2_with (go_at_call 61; apply Calls.mono; (with_reducible exact index_at _ _ _ _ key c _ HI.out hn hc hb); rintro e w' ⟨⟨r, rfl, hr⟩, hg⟩; have Hr := Lib.hid hr; have Hg := Lib.hid hg; clear hr hg)
  rcases Hr.out with ⟨rfl, h⟩ | ⟨k, rfl, h⟩
  · have H := Lib.hid h
    clear h
    go_wp2
    go_ret
    exact ⟨ret_bool H.out.symm, Hg.out⟩
  · have hk : (0 : Int) ≤ k := Int.natCast_nonneg k
    have H := Lib.hid h
    clear h
    go_wp2
    go_ret
    exact ⟨ret_bool H.out.symm, Hg.out⟩
end Go.Proofs.Ytbamckfjikpjlaa
