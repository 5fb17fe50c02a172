/- Renamed trees, plain; clones; readings that keep clear of some blocks. -/
import Derived.Test.YtbamckfjikpjlaaTreC
import Derived.Test.YtbamckfjikpjlaaTreH
import Derived.Test.YtbamckfjikpjlaaOwnSl
import Derived.Lib.SliceRun
set_option linter.unusedSimpArgs false
set_option linter.unusedVariables false
namespace Go.Proofs.Ytbamckfjikpjlaa
open Go.RowKit
attribute [local go_sem ↓] Go.wp_at_zero Go.wp_at_succ

/-- A ref with the node renamed. -/
def renP (f t : ByteArray) (x : P2) : P2 := if sq x.1 f = true then (t, x.2) else x
def renN (f t : ByteArray) (k : Int) (nm : ByteArray) : ByteArray := if k = 1 ∧ sq nm f = true then t else nm
/-- Statements with a node renamed. -/
def renL (f t : ByteArray) : List St → List St
  | [] => []
  | .mk k nm rs ats b :: r => .mk k (renN f t k nm) (rs.map (renP f t)) ats (renL f t b) :: renL f t r
theorem renL_app (f t : ByteArray) (a b : List St) : renL f t (a ++ b) = renL f t a ++ renL f t b := by
  induction a with
  | nil => simp [renL]
  | cons x a ih => cases x; simp only [List.cons_append, renL, ih]
theorem renL_len (f t : ByteArray) (l : List St) : (renL f t l).length = l.length := by
  induction l with
  | nil => simp [renL]
  | cons x a ih => cases x; simp only [renL, List.length_cons, ih]
theorem renL_next {l : List St} {i : Nat} {k : Int} {nm : ByteArray} {rs ats : List P2} {bd : List St} (h : l[i]? = some (.mk k nm rs ats bd)) (f t : ByteArray) :
    renL f t (l.take (i + 1)) = renL f t (l.take i) ++ [.mk k (renN f t k nm) (rs.map (renP f t)) ats (renL f t bd)] := by
  rw [take_snoc' h, renL_app]; simp [renL]

/-! ### Readings clear of some blocks -/
def SlX {α : Type} (X : Nat → Prop) (R : World → List Value → α → Prop) (sz : Nat) (w : World) (p : Option Addr) (cap : Nat) (xs : List α) : Prop := SlAt R sz w p cap xs ∧ (0 < xs.length → ∀ a, p = some a → ¬ X a.block)
theorem rSt_one' {n : Nat} {w : World} {cs : List Value} {x : St} (h : rSt n w cs x) : ∀ u ∈ cs, u.oneCell' = true := by
  cases n with
  | zero => exact h.elim
  | succ n =>
    cases x with
    | mk k nm rs ats bd =>
      obtain ⟨_, _, rp, rc, ap, ac, bp, bc, rfl, _⟩ := h
      simp [Value.oneCell']
theorem SlX.move {α : Type} {X X' Y : Nat → Prop} {R R' : World → List Value → α → Prop} {sz : Nat} {w w' : World} {p : Option Addr} {cap : Nat} {xs : List α} (h : SlX X R sz w p cap xs) (hg : Gr Y w w') (hY : ∀ k, k < w.heap.size → Y k → X k) (hX : ∀ k, k < w.heap.size → X' k → X k)
    (hR : ∀ cs x, R w cs x → R' w' cs x) : SlX X' R' sz w' p cap xs := by
  obtain ⟨⟨h1, h2, h3, h4⟩, h5⟩ := h
  refine ⟨⟨h1, h2, h3, fun i x hx => ?_⟩, fun h0 a ha hxa => ?_⟩
  · obtain ⟨b, o, ce, g1, g2, g3, g4, g5⟩ := h4 i x hx
    have hn := h5 (by have := (List.getElem?_eq_some_iff.1 hx).1; omega) _ g1
    exact ⟨b, o, ce, g1, Nat.lt_of_lt_of_le g2 hg.size, g3, hR _ _ g4, fun j hj => by rw [hg.cell g2 (fun e => hn (hY b g2 e))]; exact g5 j hj⟩
  · obtain ⟨b, o, ce, g1, g2, _⟩ := h4 0 _ (List.getElem?_eq_getElem h0)
    rw [g1] at ha
    cases ha
    exact h5 h0 _ g1 (hX b g2 hxa)
def rStX (X : Nat → Prop) : Nat → World → List Value → St → Prop
  | 0, _, _, _ => False
  | n + 1, w, cs, .mk k nm rs ats bd => (Lit.int .i64 k).wf = true ∧ nm.size ≤ maxLen ∧ ∃ rp rc ap ac bp bc, cs = [.int .i64 k, .string nm, .slice rp rs.length rc, .slice ap ats.length ac, .slice bp bd.length bc] ∧
    SlX X rP2 2 w rp rc rs ∧ SlX X rP2 2 w ap ac ats ∧ SlX X (rStX X n) 5 w bp bc bd
theorem rStX.move {X X' Y : Nat → Prop} {w w' : World} (hg : Gr Y w w') (hY : ∀ k, k < w.heap.size → Y k → X k) (hX : ∀ k, k < w.heap.size → X' k → X k) : ∀ (n : Nat) (cs : List Value) (x : St), rStX X n w cs x → rStX X' n w' cs x
  | 0, _, _, h => h.elim
  | n + 1, cs, .mk k nm rs ats bd, h => by
    obtain ⟨h1, h2, rp, rc, ap, ac, bp, bc, h3, h4, h5, h6⟩ := h
    exact ⟨h1, h2, rp, rc, ap, ac, bp, bc, h3, h4.move hg hY hX (fun _ _ h => h), h5.move hg hY hX (fun _ _ h => h), h6.move hg hY hX (rStX.move hg hY hX n)⟩
theorem rStX.st {X : Nat → Prop} {w : World} : ∀ (n : Nat) (cs : List Value) (x : St), rStX X n w cs x → rSt n w cs x
  | 0, _, _, h => h.elim
  | n + 1, cs, .mk k nm rs ats bd, h => by
    obtain ⟨h1, h2, rp, rc, ap, ac, bp, bc, h3, h4, h5, h6⟩ := h
    exact ⟨h1, h2, rp, rc, ap, ac, bp, bc, h3, h4.1, h5.1, h6.1.imp fun cs x _ => rStX.st n cs x⟩
theorem rStX.le {X : Nat → Prop} {w : World} : ∀ {n m : Nat} (_ : n ≤ m) (cs : List Value) (x : St), rStX X n w cs x → rStX X m w cs x
  | 0, _, _, _, _, h => h.elim
  | n + 1, 0, hle, _, _, _ => absurd hle (by omega)
  | n + 1, m + 1, hle, cs, .mk k nm rs ats bd, h => by
    obtain ⟨h1, h2, rp, rc, ap, ac, bp, bc, h3, h4, h5, h6⟩ := h
    exact ⟨h1, h2, rp, rc, ap, ac, bp, bc, h3, h4, h5, h6.1.imp fun cs x _ => rStX.le (by omega) cs x, h6.2⟩
theorem rStX.one {X : Nat → Prop} {n : Nat} {w : World} : ∀ (cs : List Value) (x : St), rStX X n w cs x → ∀ u ∈ cs, u.oneCell' = true := fun cs x h => rSt_one' (rStX.st n cs x h)
def layS : Lay Try.prog := ⟨22, 43, 5, 96, .agg #[.int .i64 0, .string ⟨#[]⟩, .slice none 0 0, .slice none 0 0, .slice none 0 0], Try.underlying22, by kernel_rfl, rfl, by decide⟩
/-- Two texts, in no world. -/
def rP2c (cs : List Value) (x : P2) : Prop := cs = [.string x.1, .string x.2] ∧ x.1.size ≤ maxLen ∧ x.2.size ≤ maxLen
theorem rP2c_one : ∀ ce x, rP2c ce x → ∀ u ∈ ce, u.oneCell' = true := by
  rintro ce x ⟨rfl, _⟩ u hu
  simp at hu
  rcases hu with rfl | rfl <;> rfl

def layref : Lay Try.prog := ⟨40, 39, 2, 32, .agg #[.string ⟨#[]⟩, .string ⟨#[]⟩], Try.underlying40, by kernel_rfl, rfl, by decide⟩
theorem clone_ref (p : Option Addr) (n cap : Nat) (xs : List P2) (w : World) (hI : P2s w p cap xs) (hn : xs.length = n) (h64 : n ≤ 1000) :
    Calls Try.prog 48 #[.slice p n cap] w fun e w' => (∃ q c, e = .returned (.slice q n c) ∧ P2s w' q c xs ∧ (0 < n → ∃ g, q = some ⟨g, 0, none⟩ ∧ w.heap.size ≤ g ∧ g < w'.heap.size ∧ ∀ i, w'.frozen? ⟨g, i, none⟩ = false)) ∧ Grew w w' := by
  have heq := fun W => Lib.run_eql_slice_nil (P := Try.prog) W 40 39 p n cap 0 0 Try.underlying40
  have HI := Lib.hid hI
  have hnil := hI.2.2.1
  have hle := hI.1
  clear hI
  cases p with
  | none =>
    have h0 := hnil rfl
    subst h0
    have hn0 : n = 0 := by omega
    subst hn0
    have heq' : ∀ W, (binOp .eql 40 (.slice none 0 0) (.slice none 0 0)).run Try.prog W = .ok (.bool true) W := fun W => heq W
    clear heq hnil
    go_enter Try.func48, Try.ntmps48
    go_wp2
    go_ret
    exact ⟨⟨none, 0, rfl, HI.out.grew stable_p2 (by (repeat (first | exact Grew.refl _ | refine Grew.over ?_ _ | refine Grew.alloc ?_ _ | refine Grew.drew ?_ | refine Grew.drewN ?_ _))), fun h => absurd h (by omega)⟩, by (repeat (first | exact Grew.refl _ | refine Grew.over ?_ _ | refine Grew.alloc ?_ _ | refine Grew.drew ?_ | refine Grew.drewN ?_ _))⟩
  | some a =>
    have heq' : ∀ W, (binOp .eql 40 (.slice (some a) n cap) (.slice none 0 0)).run Try.prog W = .ok (.bool false) W := fun W => heq W
    have Hn := Lib.hid hn
    have hx : xs.length ≤ 1000 := by omega
    clear heq hnil hn
    go_enter Try.func48, Try.ntmps48
    go_wp2_with (at_builtin; refine wp_append_sl rfl layref rP2c rP2c_one _ _ rfl w.heap.size _ [] xs (OwnSl.made layref rP2c w w.heap.size w.heap.size (Nat.le_refl _) rfl) (by simp [go_sem]) rfl _ _ _ rfl (HI.out.grew stable_p2 (by (repeat (first | exact Grew.refl _ | refine Grew.over ?_ _ | refine Grew.alloc ?_ _ | refine Grew.drew ?_ | refine Grew.drewN ?_ _)))) Hn.out (by simp [maxLen]; omega) (by simp [layref]; omega) ?_; intro v1 w1 hO1 hg1 hb1 _; have Hg1 := Lib.hid (Grew.grownBy (w0 := w) (by (repeat (first | exact Grew.refl _ | refine Grew.over ?_ _ | refine Grew.alloc ?_ _ | refine Grew.drew ?_ | refine Grew.drewN ?_ _))) hg1 hb1); obtain ⟨q', c', hv', hs'⟩ := hO1.slat; have HO1 := Lib.hid hO1; have Hs1 := Lib.hid hs'; subst hv'; clear hO1 hg1 hb1 hs')
    go_ret
    refine ⟨⟨q', c', ?_, ?_, fun h0 => ?_⟩, Hg1.out⟩
    · simp [Hn.out]
    · have := Hs1.out; rw [List.nil_append] at this; exact this
    · obtain ⟨vs, h1, _⟩ := HO1.out
      obtain ⟨g, c2, hv, hb, hl, _, _, hf, _⟩ := h1.some (k := 0) rfl (by have := Hn.out; simp; omega)
      cases hv
      exact ⟨g, rfl, hb, hl, hf⟩

def layattr : Lay Try.prog := ⟨41, 64, 2, 32, .agg #[.string ⟨#[]⟩, .string ⟨#[]⟩], Try.underlying41, by kernel_rfl, rfl, by decide⟩
theorem clone_attr (p : Option Addr) (n cap : Nat) (xs : List P2) (w : World) (hI : P2s w p cap xs) (hn : xs.length = n) (h64 : n ≤ 1000) :
    Calls Try.prog 49 #[.slice p n cap] w fun e w' => (∃ q c, e = .returned (.slice q n c) ∧ P2s w' q c xs ∧ (0 < n → ∃ g, q = some ⟨g, 0, none⟩ ∧ w.heap.size ≤ g ∧ g < w'.heap.size ∧ ∀ i, w'.frozen? ⟨g, i, none⟩ = false)) ∧ Grew w w' := by
  have heq := fun W => Lib.run_eql_slice_nil (P := Try.prog) W 41 64 p n cap 0 0 Try.underlying41
  have HI := Lib.hid hI
  have hnil := hI.2.2.1
  have hle := hI.1
  clear hI
  cases p with
  | none =>
    have h0 := hnil rfl
    subst h0
    have hn0 : n = 0 := by omega
    subst hn0
    have heq' : ∀ W, (binOp .eql 41 (.slice none 0 0) (.slice none 0 0)).run Try.prog W = .ok (.bool true) W := fun W => heq W
    clear heq hnil
    go_enter Try.func49, Try.ntmps49
    go_wp2
    go_ret
    exact ⟨⟨none, 0, rfl, HI.out.grew stable_p2 (by (repeat (first | exact Grew.refl _ | refine Grew.over ?_ _ | refine Grew.alloc ?_ _ | refine Grew.drew ?_ | refine Grew.drewN ?_ _))), fun h => absurd h (by omega)⟩, by (repeat (first | exact Grew.refl _ | refine Grew.over ?_ _ | refine Grew.alloc ?_ _ | refine Grew.drew ?_ | refine Grew.drewN ?_ _))⟩
  | some a =>
    have heq' : ∀ W, (binOp .eql 41 (.slice (some a) n cap) (.slice none 0 0)).run Try.prog W = .ok (.bool false) W := fun W => heq W
    have Hn := Lib.hid hn
    have hx : xs.length ≤ 1000 := by omega
    clear heq hnil hn
    go_enter Try.func49, Try.ntmps49
    go_wp2_with (at_builtin; refine wp_append_sl rfl layattr rP2c rP2c_one _ _ rfl w.heap.size _ [] xs (OwnSl.made layattr rP2c w w.heap.size w.heap.size (Nat.le_refl _) rfl) (by simp [go_sem]) rfl _ _ _ rfl (HI.out.grew stable_p2 (by (repeat (first | exact Grew.refl _ | refine Grew.over ?_ _ | refine Grew.alloc ?_ _ | refine Grew.drew ?_ | refine Grew.drewN ?_ _)))) Hn.out (by simp [maxLen]; omega) (by simp [layattr]; omega) ?_; intro v1 w1 hO1 hg1 hb1 _; have Hg1 := Lib.hid (Grew.grownBy (w0 := w) (by (repeat (first | exact Grew.refl _ | refine Grew.over ?_ _ | refine Grew.alloc ?_ _ | refine Grew.drew ?_ | refine Grew.drewN ?_ _))) hg1 hb1); obtain ⟨q', c', hv', hs'⟩ := hO1.slat; have HO1 := Lib.hid hO1; have Hs1 := Lib.hid hs'; subst hv'; clear hO1 hg1 hb1 hs')
    go_ret
    refine ⟨⟨q', c', ?_, ?_, fun h0 => ?_⟩, Hg1.out⟩
    · simp [Hn.out]
    · have := Hs1.out; rw [List.nil_append] at this; exact this
    · obtain ⟨vs, h1, _⟩ := HO1.out
      obtain ⟨g, c2, hv, hb, hl, _, _, hf, _⟩ := h1.some (k := 0) rfl (by have := Hn.out; simp; omega)
      cases hv
      exact ⟨g, rfl, hb, hl, hf⟩

/-- The key at a place stored anew. -/
theorem p2_set {w : World} {g cap : Nat} {l : List P2} {i : Nat} {x : P2} (h : P2s w (some ⟨g, 0, none⟩) cap l) (hx : l[i]? = some x) {t : ByteArray} (ht : t.size ≤ maxLen) :
    P2s (w.setCell ⟨g, i * 2, none⟩ (.string t)) (some ⟨g, 0, none⟩) cap (l.set i (t, x.2)) := by
  obtain ⟨h1, h2, h3, h4⟩ := h
  have hil : i < l.length := (List.getElem?_eq_some_iff.1 hx).1
  refine ⟨by simpa using h1, h2, h3, fun j y hy => ?_⟩
  have hjl : j < l.length := by have := (List.getElem?_eq_some_iff.1 hy).1; simpa using this
  obtain ⟨b, o, ce, g1, g2, g3, ⟨rfl, g4, g4'⟩, g5⟩ := h4 j _ (List.getElem?_eq_getElem hjl)
  cases g1
  by_cases e : j = i
  · subst e
    rw [List.getElem?_set_self hjl] at hy
    cases hy
    have hxx : l[j] = x := by rw [List.getElem?_eq_getElem hjl] at hx; exact Option.some.inj hx
    refine ⟨g, 0, [.string t, .string x.2], rfl, by simpa [World.setCell] using g2, rfl, ⟨rfl, ht, by rw [← hxx]; exact g4'⟩, fun u hu => ?_⟩
    have hc := g5 u hu
    match u, hu with
    | 0, _ =>
      rw [Nat.add_zero, Nat.zero_add] at hc
      rw [Nat.add_zero, Nat.zero_add]
      simp [go_sem, hc]
    | 1, _ =>
      rw [Nat.zero_add] at hc
      rw [Nat.zero_add]
      simp [go_sem, hc, hxx]
  · rw [List.getElem?_set_ne (fun h => e h.symm), List.getElem?_eq_getElem hjl] at hy
    cases hy
    refine ⟨g, 0, _, rfl, by simpa [World.setCell] using g2, rfl, ⟨rfl, g4, g4'⟩, fun u hu => ?_⟩
    have hc := g5 u hu
    have hne : ¬ (0 + j * 2 + u = i * 2) := by omega
    rw [← hc]
    simp [go_sem, hne]
end Go.Proofs.Ytbamckfjikpjlaa
