/- The examples of the chapter. -/
import Derived.Test.YtnnlhmialmhpfaaFlY
set_option linter.unusedSimpArgs false
set_option linter.unusedVariables false
namespace Go.Proofs.Ytnnlhmialmhpfaa
open Go.RowKit
attribute [local go_sem ↓] Go.wp_at_zero Go.wp_at_succ

theorem Ints.made (W : World) (t : TypeId) (xs : List Int) (cs : Array Value) (b : Nat) (hcs : cs.toList = xs.map (Value.int .i64)) (hb : b = W.heap.size) (hl : xs.length ≤ 1000) (hw : ∀ x ∈ xs, -9223372036854775808 ≤ x ∧ x ≤ 9223372036854775807) :
    Ints (W.alloc (.cells cs t)) (some ⟨b, 0, none⟩) xs := by
  subst hb
  refine ⟨by omega, hw, W.heap.size, 0, fun _ => ⟨rfl, by simp⟩, fun i hi => ?_⟩
  rw [cell?_alloc_if, if_neg (by omega), if_pos rfl, Nat.zero_add, ← Array.getElem?_toList, hcs, List.getElem?_map, List.getElem?_eq_getElem hi, ge_eq xs hi]
  rfl
def arVs (A : List Ark) : List Value := A.flatMap fun a => [.int .i64 a.fr, .int .i64 a.ed, .int .i64 a.cap, .int .i64 a.cost]
theorem arVs_get : ∀ {A : List Ark} {i : Nat}, i < A.length → ∀ k, k < 4 → (arVs A)[i * 4 + k]? = [Value.int .i64 (aK A i).fr, .int .i64 (aK A i).ed, .int .i64 (aK A i).cap, .int .i64 (aK A i).cost][k]?
  | [], _, h, _, _ => by simp at h
  | a :: A, 0, _, k, hk => by
    show (([.int .i64 a.fr, .int .i64 a.ed, .int .i64 a.cap, .int .i64 a.cost] : List Value) ++ arVs A)[0 * 4 + k]? = _
    rw [Nat.zero_mul, Nat.zero_add, List.getElem?_append_left (by simpa using hk)]
    rfl
  | a :: A, i + 1, h, k, hk => by
    show (([.int .i64 a.fr, .int .i64 a.ed, .int .i64 a.cap, .int .i64 a.cost] : List Value) ++ arVs A)[(i + 1) * 4 + k]? = _
    rw [List.getElem?_append_right (by simp; omega)]
    have e : (i + 1) * 4 + k - ([.int .i64 a.fr, .int .i64 a.ed, .int .i64 a.cap, .int .i64 a.cost] : List Value).length = i * 4 + k := by simp; omega
    rw [e, arVs_get (A := A) (by simpa using h) k hk]
    rfl
theorem Arks.made (W : World) (t : TypeId) (A : List Ark) (cs : Array Value) (b : Nat) (hcs : cs.toList = arVs A) (hb : b = W.heap.size) (hl : A.length ≤ 10000) (hw : ∀ i, i < A.length → w64 (aK A i).fr ∧ w64 (aK A i).ed ∧ w64 (aK A i).cap ∧ w64 (aK A i).cost) :
    Arks (W.alloc (.cells cs t)) (some ⟨b, 0, none⟩) A := by
  subst hb
  refine ⟨by omega, hw, W.heap.size, 0, fun _ => ⟨rfl, by simp⟩, fun i hi => ?_⟩
  have key : ∀ k x, k < 4 → [Value.int .i64 (aK A i).fr, .int .i64 (aK A i).ed, .int .i64 (aK A i).cap, .int .i64 (aK A i).cost][k]? = some x → (W.alloc (.cells cs t)).cell? ⟨W.heap.size, 0 + i * 4 + k, none⟩ = some x := fun k x hk hx => by
    rw [cell?_alloc_if, if_neg (by omega), if_pos rfl, Nat.zero_add, ← Array.getElem?_toList, hcs, arVs_get hi k hk, hx]
  exact ⟨key 0 _ (by omega) rfl, key 1 _ (by omega) rfl, key 2 _ (by omega) rfl, key 3 _ (by omega) rfl⟩
theorem Arks.nil (w : World) (q : Option Addr) : Arks w q [] := ⟨by simp, fun i hi => by simp at hi, 0, 0, fun h => by simp at h, fun i hi => by simp at hi⟩
/-! ### The nets of the example -/
def s0 : List Int := [2, 0, -2]
def A0 : List Ark := [⟨0, 1, 1, 1⟩, ⟨1, 2, 1, 1⟩, ⟨0, 2, 5, 3⟩]
def A1 : List Ark := [⟨0, 1, 1, 1⟩, ⟨1, 2, 1, 1⟩, ⟨0, 2, 0, 3⟩]
theorem s0_b : ∀ v, v < 3 → -1048576 ≤ ge s0 v ∧ ge s0 v ≤ 1048576 := by decide +kernel
theorem A0_b : ∀ i, i < 3 → arkOK 3 (aK A0 i) := by decide +kernel
theorem A1_b : ∀ i, i < 3 → arkOK 3 (aK A1 i) := by decide +kernel
theorem vN0 : vN s0 A0 := vN_iff.2 ⟨by decide, by decide, s0_b, A0_b, by decide +kernel⟩
theorem vN1 : vN s0 A1 := vN_iff.2 ⟨by decide, by decide, s0_b, A1_b, by decide +kernel⟩
theorem notN : nB [1] [] = false := nB_not fun h => absurd h.z (by decide +kernel)
theorem flow0 {g : List Int} (h : isFlow s0 A0 g) : g = [ge g 0, ge g 1, ge g 2] ∧ ge g 0 = ge g 1 ∧ ge g 0 + ge g 2 = 2 ∧ (0 ≤ ge g 0 ∧ ge g 0 ≤ 1) ∧ 0 ≤ ge g 2 := by
  have hl : g.length = 3 := h.1.l
  have e0 := h.2 0 (by decide)
  have e1 := h.2 1 (by decide)
  have b0 := h.1.b 0 (by decide)
  have b2 := h.1.b 2 (by decide)
  have c0 : cap A0 0 = 1 := rfl
  simp [exc, inF, sumN, vF, vT, aK, A0, s0, ge_cons_zero, ge_cons_succ] at e0 e1
  refine ⟨ge_ext 3 hl rfl fun t ht => ?_, by omega, by omega, by omega, b2.1⟩
  match t, ht with
  | 0, _ => rfl
  | 1, _ => rfl
  | 2, _ => rfl
theorem cost0 {g : List Int} (h : isFlow s0 A0 g) : costF A0 g = 6 - ge g 0 := by
  obtain ⟨_, h1, h2, _⟩ := flow0 h
  simp [costF, sumN, cst, aK, A0]
  omega
theorem is0 : isFlow s0 A0 [1, 1, 1] := by
  have h1 : ∀ i, i < 3 → 0 ≤ ge [1, 1, 1] i ∧ ge [1, 1, 1] i ≤ cap A0 i := by decide +kernel
  have h2 : ∀ v, v < 3 → exc s0 A0 [1, 1, 1] v = 0 := by decide +kernel
  exact ⟨⟨rfl, h1⟩, h2⟩
theorem opt0 {f : List Int} (h : isFlow s0 A0 f) (hp : ∃ π, Pot A0 f π) : f = [1, 1, 1] := by
  obtain ⟨π, hp⟩ := hp
  have h1 := pot_least vN0 hp h is0
  rw [cost0 h, cost0 is0] at h1
  have : ge [1, 1, 1] 0 = 1 := rfl
  obtain ⟨e, h2, h3, h4, h5⟩ := flow0 h
  have g0 : ge f 0 = 1 := by omega
  have g1 : ge f 1 = 1 := by omega
  have g2 : ge f 2 = 1 := by omega
  rw [e, g0, g1, g2]
theorem no1 : ∀ g, ¬ isFlow s0 A1 g := by
  intro g h
  have e0 := h.2 0 (by decide)
  have b0 := h.1.b 0 (by decide)
  have b2 := h.1.b 2 (by decide)
  have c0 : cap A1 0 = 1 := rfl
  have c2 : cap A1 2 = 0 := rfl
  simp [exc, inF, sumN, vF, vT, aK, A1, s0, ge_cons_zero] at e0
  omega
theorem pot111 : ∃ π, Pot A0 [1, 1, 1] π := by
  refine ⟨fun v => if v = 1 then 2 else if v = 2 then 3 else 0, fun i b h => ?_⟩
  have h1 : ∀ i, i < 3 → ∀ b, 0 < sR A0 [1, 1, 1] i b → 0 ≤ sC A0 i b + (if sF A0 i b = 1 then 2 else if sF A0 i b = 2 then 3 else 0) - (if sT A0 i b = 1 then 2 else if sT A0 i b = 2 then 3 else 0) := by decide +kernel
  exact h1 i h.1 b h.2
theorem npot : ¬ ∃ π, Pot A0 [0, 0, 2] π := by
  intro hp
  have h1 : ∀ i, i < 3 → 0 ≤ ge [0, 0, 2] i ∧ ge [0, 0, 2] i ≤ cap A0 i := by decide +kernel
  have h2 : ∀ v, v < 3 → exc s0 A0 [0, 0, 2] v = 0 := by decide +kernel
  have := opt0 ⟨⟨rfl, h1⟩, h2⟩ hp
  simp at this
theorem chk002 : chkS s0 A0 [0, 0, 2] = 0 := by decide +kernel
theorem chk001 : chkS s0 A0 [0, 0, 1] = 15 := by decide +kernel
theorem chk111 : chkS s0 A0 [1, 1, 1] = 0 := by decide +kernel
theorem cos111 : cosS s0 A0 [1, 1, 1] = 5 := by decide +kernel
open Classical in
/-- A flow without negative residual cycles. -/
noncomputable def optB (s : List Int) (A : List Ark) (f : List Int) : Bool := decide (chkS s A f = 0 ∧ ∃ π, Pot A f π)
theorem optB_iff {s : List Int} {A : List Ark} {f : List Int} : optB s A f = true ↔ chkS s A f = 0 ∧ ∃ π, Pot A f π := by unfold optB; simp
theorem opt111 : optB s0 A0 [1, 1, 1] = true := optB_iff.2 ⟨chk111, pot111⟩
theorem opt002 : optB s0 A0 [0, 0, 2] = false := by rw [← Bool.not_eq_true, optB_iff]; exact fun h => npot h.2
theorem solve_ok {p q : Option Addr} {n cp m cq : Nat} {s : List Int} {A : List Ark} {w : World} {g0 : List Int} (hV : vN s A) (hg0 : isFlow s A g0) (hS : Ints w p s) (hA : Arks w q A) (hn : s.length = n) (hm : A.length = m) (hnil : p = none → n = 0 ∧ cp = 0) :
    Calls Try.prog 18 #[.agg #[.slice p n cp, .slice q m cq]] w fun e w' => Grew w w' ∧ ∃ g f, e = .returned (.tuple #[.slice (some ⟨g, 0, none⟩) m m, .int .i64 0]) ∧ isFlow s A f ∧ (∃ π, Pot A f π) ∧ Owns w' w.heap.size [rI g m f] := by
  apply Calls.mono
  with_reducible exact solve_p p q n cp m cq s A w hS hA hn hm hnil
  rintro e w' ⟨hg, ⟨h1, _⟩ | ⟨_, h2, _⟩ | ⟨_, g, f, h3, h4, h5, h6⟩⟩
  · exact absurd hV h1
  · exact absurd hg0 (h2.no hV g0)
  · exact ⟨hg, g, f, h5, h3, h4, h6⟩
theorem solve_no {p q : Option Addr} {n cp m cq : Nat} {s : List Int} {A : List Ark} {w : World} (hV : vN s A) (hno : ∀ g, ¬ isFlow s A g) (hS : Ints w p s) (hA : Arks w q A) (hn : s.length = n) (hm : A.length = m) (hnil : p = none → n = 0 ∧ cp = 0) :
    Calls Try.prog 18 #[.agg #[.slice p n cp, .slice q m cq]] w fun e w' => e = .returned (.tuple #[.slice none 0 0, .int .i64 15]) ∧ Grew w w' := by
  apply Calls.mono
  with_reducible exact solve_p p q n cp m cq s A w hS hA hn hm hnil
  rintro e w' ⟨hg, ⟨h1, _⟩ | ⟨_, _, h2⟩ | ⟨_, g, f, h3, _⟩⟩
  · exact absurd hV h1
  · exact ⟨h2, hg⟩
  · exact absurd h3 (hno f)
theorem optimal_e {p q r : Option Addr} {n cp m cq k cr : Nat} {s : List Int} {A : List Ark} {f : List Int} {w : World} {b : Bool} (hb : optB s A f = b) (hS : Ints w p s) (hA : Arks w q A) (hF : Ints w r f) (hn : s.length = n) (hm : A.length = m) (hk : f.length = k) (hnil : p = none → n = 0 ∧ cp = 0) :
    Calls Try.prog 16 #[.agg #[.slice p n cp, .slice q m cq], .slice r k cr] w fun e w' => e = .returned (.bool b) ∧ Grew w w' := by
  apply Calls.mono
  with_reducible exact optimal_p p q r n cp m cq k cr s A f w hS hA hF hn hm hk hnil
  rintro e w' ⟨⟨o, rfl, ho⟩, hg⟩
  refine ⟨ret_bool ?_, hg⟩
  rw [← hb, Bool.eq_iff_iff, ho, optB_iff]
theorem optimalr_e {p q r : Option Addr} {n cp m cq k cr : Nat} {s : List Int} {A : List Ark} {f : List Int} {w : World} {b : Bool} (hb : optB s A f = b) (hS : Ints w p s) (hA : Arks w q A) (hF : Ints w r f) (hn : s.length = n) (hm : A.length = m) (hk : f.length = k) (hnil : p = none → n = 0 ∧ cp = 0) :
    Calls Try.prog 17 #[.agg #[.slice p n cp, .slice q m cq], .slice r k cr] w fun e w' => e = .returned (.bool b) ∧ Grew w w' := by
  apply Calls.mono
  with_reducible exact optimal_r p q r n cp m cq k cr s A f w hS hA hF hn hm hk hnil
  rintro e w' ⟨⟨o, rfl, ho⟩, hg⟩
  refine ⟨ret_bool ?_, hg⟩
  rw [← hb, Bool.eq_iff_iff, ho, optB_iff]
theorem cost_e {p q r : Option Addr} {n cp m cq k cr : Nat} {s : List Int} {A : List Ark} {f : List Int} {w : World} {z : Int} (hz : cosS s A f = z) (hS : Ints w p s) (hA : Arks w q A) (hF : Ints w r f) (hn : s.length = n) (hm : A.length = m) (hk : f.length = k) :
    Calls Try.prog 14 #[.agg #[.slice p n cp, .slice q m cq], .slice r k cr] w fun e w' => e = .returned (.int .i64 z) ∧ Grew w w' := hz ▸ cost_p p q r n cp m cq k cr s A f w hS hA hF hn hm hk
theorem costr_e {p q r : Option Addr} {n cp m cq k cr : Nat} {s : List Int} {A : List Ark} {f : List Int} {w : World} {z : Int} (hz : cosS s A f = z) (hS : Ints w p s) (hA : Arks w q A) (hF : Ints w r f) (hn : s.length = n) (hm : A.length = m) (hk : f.length = k) (hnil : p = none → n = 0 ∧ cp = 0) :
    Calls Try.prog 15 #[.agg #[.slice p n cp, .slice q m cq], .slice r k cr] w fun e w' => e = .returned (.int .i64 z) ∧ Grew w w' := hz ▸ cost_r p q r n cp m cq k cr s A f w hS hA hF hn hm hk hnil

set_option maxRecDepth 8000 in
set_option maxHeartbeats 16000000 in
theorem awake_p (w : World) : Calls Try.prog 9 #[] w fun e w' => e = .returned (.bool true) ∧ Grew w w' := by
  go_enter Try.func9, Try.ntmps9
  go_upto_region 2 with fail
  obtain ⟨wz, hwz⟩ : ∃ wz, ((w.alloc (.cells #[.int .i64 2, .int .i64 0, .int .i64 (-2)] 3)).alloc (.cells #[.int .i64 0, .int .i64 1, .int .i64 1, .int .i64 1, .int .i64 1, .int .i64 2, .int .i64 1, .int .i64 1, .int .i64 0, .int .i64 2, .int .i64 5, .int .i64 3] 36)).alloc
      (.cells #[.slice (some ⟨w.heap.size, 0, none⟩) 3 3, .slice (some ⟨w.heap.size + 1, 0, none⟩) 3 3] 25) = wz := ⟨_, rfl⟩
  obtain ⟨b0, hb0⟩ : ∃ b0, w.heap.size = b0 := ⟨_, rfl⟩
  obtain ⟨b1, hb1⟩ : ∃ b1, b0 + 1 = b1 := ⟨_, rfl⟩
  obtain ⟨bz, hbz⟩ : ∃ bz, b1 + 1 = bz := ⟨_, rfl⟩
  have HS : Hid (Ints wz (some ⟨b0, 0, none⟩) s0) := Lib.hid (by rw [← hwz]; exact (Ints.made w _ s0 _ b0 rfl hb0.symm (by decide) (by decide)).grew (by (repeat (first | exact Grew.refl _ | refine Grew.over ?_ _ | refine Grew.alloc ?_ _ | refine Grew.drew ?_ | refine Grew.drewN ?_ _))))
  have HA : Hid (Arks wz (some ⟨b1, 0, none⟩) A0) := Lib.hid (by rw [← hwz]; exact (Arks.made (w.alloc (.cells #[.int .i64 2, .int .i64 0, .int .i64 (-2)] 3)) 36 A0 _ b1 rfl (by rw [← hb1, ← hb0]; simp) (by decide) (fun i hi => by have := vN0.a i hi; have h3 : s0.length = 3 := rfl; unfold w64; simp only [cap, cst] at this; omega)).grew (by (repeat (first | exact Grew.refl _ | refine Grew.over ?_ _ | refine Grew.alloc ?_ _ | refine Grew.drew ?_ | refine Grew.drewN ?_ _))))
  have x0 : wz.cell? ⟨bz, 0, none⟩ = some (.slice (some ⟨b0, 0, none⟩) 3 3) := by rw [← hwz, ← hbz, ← hb1, ← hb0]; simp [go_sem]
  have x1 : wz.cell? ⟨bz, 1, none⟩ = some (.slice (some ⟨b1, 0, none⟩) 3 3) := by rw [← hwz, ← hbz, ← hb1, ← hb0]; simp [go_sem]
  have Hgz : Hid (Grew w wz) := Lib.hid (by rw [← hwz]; (repeat (first | exact Grew.refl _ | refine Grew.over ?_ _ | refine Grew.alloc ?_ _ | refine Grew.drew ?_ | refine Grew.drewN ?_ _)))
  rw [hwz]
  simp only [hb0, hb1, hbz]
  clear hwz hb0 hb1
  have hbw := cell_lt x0
  have nn : ∀ (b : Nat), (some ⟨b, 0, none⟩ : Option Addr) = none → 3 = 0 ∧ 3 = 0 := fun b h => by cases h
  have Hnn := Lib.hid nn
  clear nn hbz
  go_upto_region 3 with (go_at_call 18; apply Calls.mono; (with_reducible exact solve_ok vN0 is0 HS.out HA.out rfl rfl (Hnn.out _)); rintro e w1 ⟨hg1, g, f, rfl, hf1, hp1, hO1⟩; have Hg1 := Lib.hid hg1; have HO1 := Lib.hid hO1; have Hf := Lib.hid (opt0 hf1 hp1); replace x0 := hg1.cellEq x0; replace x1 := hg1.cellEq x1; replace hbw := cell_lt x0; clear hg1 hf1 hp1 hO1)
  have Hf := Hf.out
  subst Hf
  have HS1 := Lib.hid (HS.out.grew Hg1.out)
  have HA1 := Lib.hid (HA.out.grew Hg1.out)
  have hc : ∀ k x, (arVs A0)[k]? = some x → w1.cell? ⟨b1, k, none⟩ = some x := by
    obtain ⟨b, o, h1, _⟩ := HA1.out.open (i := 0) (by decide)
    simp only [Option.some.injEq, Addr.mk.injEq, and_true] at h1
    obtain ⟨rfl, rfl⟩ := h1
    intro k x hx
    have hk : k < 12 := (List.getElem?_eq_some_iff.1 hx).1
    obtain ⟨b', o', h2, _, q0, q1, q2, q3⟩ := HA1.out.open (i := k / 4) (by show k / 4 < 3; omega)
    simp only [Option.some.injEq, Addr.mk.injEq, and_true] at h2
    obtain ⟨rfl, rfl⟩ := h2
    have hg := arVs_get (A := A0) (i := k / 4) (by show k / 4 < 3; omega) (k % 4) (by omega)
    have hkk : k / 4 * 4 + k % 4 = k := by omega
    rw [hkk, hx] at hg
    have h4 : k % 4 < 4 := by omega
    have e : k = 0 + k / 4 * 4 + k % 4 := by omega
    rw [e]
    clear hkk e hx
    match k % 4, h4, hg with
    | 0, _, hg => rw [hg]; exact q0
    | 1, _, hg => rw [hg]; exact q1
    | 2, _, hg => rw [hg]; exact q2
    | 3, _, hg => rw [hg]; exact q3
  have a0 := hc 0 _ rfl
  have a1 := hc 1 _ rfl
  have a2 := hc 2 _ rfl
  have a3 := hc 3 _ rfl
  have a4 := hc 4 _ rfl
  have a5 := hc 5 _ rfl
  have a6 := hc 6 _ rfl
  have a7 := hc 7 _ rfl
  have hb1w := cell_lt a0
  clear hc
  go_cut [4] (fun v4 wx => ∃ g4 gq : Nat, v4 = .pointer (some ⟨g4, 0, none⟩) ∧ Grew w1 wx ∧ wx.cell? ⟨g4, 0, none⟩ = some (.slice (some ⟨b0, 0, none⟩) 3 3) ∧ wx.cell? ⟨g4, 1, none⟩ = some (.slice (some ⟨gq, 0, none⟩) 3 3) ∧ Arks wx (some ⟨gq, 0, none⟩) A1)
  case first =>
    have ht : ∀ i, i < A1.length → w64 (aK A1 i).fr ∧ w64 (aK A1 i).ed ∧ w64 (aK A1 i).cap ∧ w64 (aK A1 i).cost := fun i hi => by
      have := vN1.a i hi
      have h3 : s0.length = 3 := rfl
      unfold w64
      simp only [cap, cst] at this
      omega
    have Ht := Lib.hid ht
    clear ht
    go_region
    · go_wp2_with fail
      go_meet
      exact ⟨_, _, rfl, by (repeat (first | exact Grew.refl _ | refine Grew.over ?_ _ | refine Grew.alloc ?_ _ | refine Grew.drew ?_ | refine Grew.drewN ?_ _)), by simp [go_sem], by simp [go_sem], (Arks.made w1 36 A1 _ _ rfl rfl (by decide) Ht.out).grew (by (repeat (first | exact Grew.refl _ | refine Grew.over ?_ _ | refine Grew.alloc ?_ _ | refine Grew.drew ?_ | refine Grew.drewN ?_ _)))⟩
    · go_wp2_with fail
      go_meet
      exact ⟨_, w1.heap.size + 1, rfl, by (repeat (first | exact Grew.refl _ | refine Grew.over ?_ _ | refine Grew.alloc ?_ _ | refine Grew.drew ?_ | refine Grew.drewN ?_ _)), by simp [go_sem], by simp [go_sem], (Arks.made (w1.alloc (.cells #[.slice (some ⟨b0, 0, none⟩) 3 3, .slice (some ⟨w1.heap.size + 1, 0, none⟩) 3 3] 25)) 36 A1 _ _ rfl (by simp) (by decide) Ht.out).grew (by (repeat (first | exact Grew.refl _ | refine Grew.over ?_ _ | refine Grew.alloc ?_ _ | refine Grew.drew ?_ | refine Grew.drewN ?_ _)))⟩
  case rest =>
    obtain ⟨g4, gq, rfl, hgx, z0, z1, hA1⟩ := hcut
    have Hgx := Lib.hid hgx
    have HA2 := Lib.hid hA1
    have HF : Hid (Ints wc (some ⟨g, 0, none⟩) [1, 1, 1]) := Lib.hid ((own_intsG HO1.out (k := 0) rfl rfl (by decide) (by decide)).grew hgx)
    have f0 := hgx.cellEq (own_atI HO1.out (j := 0) rfl (i := 0) (by decide))
    have f1 := hgx.cellEq (own_atI HO1.out (j := 0) rfl (i := 1) (by decide))
    have f2 := hgx.cellEq (own_atI HO1.out (j := 0) rfl (i := 2) (by decide))
    have e0 : ge [1, 1, 1] 0 = 1 := rfl
    have e1 : ge [1, 1, 1] 1 = 1 := rfl
    have e2 : ge [1, 1, 1] 2 = 1 := rfl
    rw [e0] at f0
    rw [e1] at f1
    rw [e2] at f2
    replace x0 := hgx.cellEq x0
    replace x1 := hgx.cellEq x1
    have hbw := cell_lt x0
    have hgl := cell_lt f0
    have hz4 := cell_lt z0
    clear hgx hA1 a0 a1 a2 a3 a4 a5 a6 a7 hb1w e0 e1 e2
    go_upto_region 5 with (go_at_call 18; apply Calls.mono; (with_reducible exact solve_no vN1 no1 (HS1.out.grew Hgx.out) HA2.out rfl rfl (Hnn.out _)); rintro e w3 ⟨rfl, hg3⟩; have Hg3 := Lib.hid (Hgx.out.trans hg3); have HF3 := Lib.hid (HF.out.grew hg3); replace x0 := hg3.cellEq x0; replace x1 := hg3.cellEq x1; replace f0 := hg3.cellEq f0; replace f1 := hg3.cellEq f1; replace f2 := hg3.cellEq f2; replace hbw := cell_lt x0; replace hgl := cell_lt f0; clear hg3 z0 z1 hz4)
    have Hs : Hid (∀ W, Grew w3 W → Ints W (some ⟨b0, 0, none⟩) s0) := Lib.hid (fun W h => HS1.out.grew (Hg3.out.trans h))
    have Ha : Hid (∀ W, Grew w3 W → Arks W (some ⟨b1, 0, none⟩) A0) := Lib.hid (fun W h => HA1.out.grew (Hg3.out.trans h))
    have Hf : Hid (∀ W, Grew w3 W → Ints W (some ⟨g, 0, none⟩) [1, 1, 1]) := Lib.hid (fun W h => HF3.out.grew h)
    have Hgw := Lib.hid (Hgz.out.trans (Hg1.out.trans Hg3.out))
    go_wp2_with (first
      | (go_at_call 10; apply Calls.mono; (with_reducible exact validp_e (nB_iff.2 vN0) (Hs.out _ (by (repeat (first | exact Grew.refl _ | refine Grew.over ?_ _ | refine Grew.alloc ?_ _ | refine Grew.drew ?_ | refine Grew.drewN ?_ _)))) (Ha.out _ (by (repeat (first | exact Grew.refl _ | refine Grew.over ?_ _ | refine Grew.alloc ?_ _ | refine Grew.drew ?_ | refine Grew.drewN ?_ _)))) rfl rfl); rintro e w' ⟨rfl, x, rfl⟩)
      | (go_at_call 10; apply Calls.mono; (with_reducible exact validp_e notN (Ints.made _ _ [1] _ _ rfl (by first | rfl | omega | (simp <;> omega)) (by decide) (by decide)) (Arks.nil _ _) rfl rfl); rintro e w' ⟨rfl, x, rfl⟩)
      | (go_at_call 14; apply Calls.mono; (with_reducible exact cost_e cos111 (Hs.out _ (by (repeat (first | exact Grew.refl _ | refine Grew.over ?_ _ | refine Grew.alloc ?_ _ | refine Grew.drew ?_ | refine Grew.drewN ?_ _)))) (Ha.out _ (by (repeat (first | exact Grew.refl _ | refine Grew.over ?_ _ | refine Grew.alloc ?_ _ | refine Grew.drew ?_ | refine Grew.drewN ?_ _)))) (Hf.out _ (by (repeat (first | exact Grew.refl _ | refine Grew.over ?_ _ | refine Grew.alloc ?_ _ | refine Grew.drew ?_ | refine Grew.drewN ?_ _)))) rfl rfl rfl); rintro e w' ⟨rfl, x, rfl⟩)
      | (go_at_call 16; apply Calls.mono; (with_reducible exact optimal_e opt111 (Hs.out _ (by (repeat (first | exact Grew.refl _ | refine Grew.over ?_ _ | refine Grew.alloc ?_ _ | refine Grew.drew ?_ | refine Grew.drewN ?_ _)))) (Ha.out _ (by (repeat (first | exact Grew.refl _ | refine Grew.over ?_ _ | refine Grew.alloc ?_ _ | refine Grew.drew ?_ | refine Grew.drewN ?_ _)))) (Hf.out _ (by (repeat (first | exact Grew.refl _ | refine Grew.over ?_ _ | refine Grew.alloc ?_ _ | refine Grew.drew ?_ | refine Grew.drewN ?_ _)))) rfl rfl rfl (Hnn.out _)); rintro e w' ⟨rfl, x, rfl⟩)
      | (go_at_call 16; apply Calls.mono; (with_reducible exact optimal_e opt002 (Hs.out _ (by (repeat (first | exact Grew.refl _ | refine Grew.over ?_ _ | refine Grew.alloc ?_ _ | refine Grew.drew ?_ | refine Grew.drewN ?_ _)))) (Ha.out _ (by (repeat (first | exact Grew.refl _ | refine Grew.over ?_ _ | refine Grew.alloc ?_ _ | refine Grew.drew ?_ | refine Grew.drewN ?_ _)))) (Ints.made _ _ [0, 0, 2] _ _ rfl (by first | rfl | omega | (simp <;> omega)) (by decide) (by decide)) rfl rfl rfl (Hnn.out _)); rintro e w' ⟨rfl, x, rfl⟩)
      | (go_at_call 12; apply Calls.mono; (with_reducible exact checkp_e chk002 (Hs.out _ (by (repeat (first | exact Grew.refl _ | refine Grew.over ?_ _ | refine Grew.alloc ?_ _ | refine Grew.drew ?_ | refine Grew.drewN ?_ _)))) (Ha.out _ (by (repeat (first | exact Grew.refl _ | refine Grew.over ?_ _ | refine Grew.alloc ?_ _ | refine Grew.drew ?_ | refine Grew.drewN ?_ _)))) (Ints.made _ _ [0, 0, 2] _ _ rfl (by first | rfl | omega | (simp <;> omega)) (by decide) (by decide)) rfl rfl rfl (Hnn.out _)); rintro e w' ⟨rfl, x, rfl⟩)
      | (go_at_call 12; apply Calls.mono; (with_reducible exact checkp_e chk001 (Hs.out _ (by (repeat (first | exact Grew.refl _ | refine Grew.over ?_ _ | refine Grew.alloc ?_ _ | refine Grew.drew ?_ | refine Grew.drewN ?_ _)))) (Ha.out _ (by (repeat (first | exact Grew.refl _ | refine Grew.over ?_ _ | refine Grew.alloc ?_ _ | refine Grew.drew ?_ | refine Grew.drewN ?_ _)))) (Ints.made _ _ [0, 0, 1] _ _ rfl (by first | rfl | omega | (simp <;> omega)) (by decide) (by decide)) rfl rfl rfl (Hnn.out _)); rintro e w' ⟨rfl, x, rfl⟩))
    go_ret
    exact ⟨rfl, Hgw.out.trans (by (repeat (first | exact Grew.refl _ | refine Grew.over ?_ _ | refine Grew.alloc ?_ _ | refine Grew.drew ?_ | refine Grew.drewN ?_ _)))⟩
end Go.Proofs.Ytnnlhmialmhpfaa
