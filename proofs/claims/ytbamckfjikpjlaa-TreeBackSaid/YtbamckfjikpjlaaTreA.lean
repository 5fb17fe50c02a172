/- Statements as trees: what is read of them; their preorder, depth and number. -/
import Derived.Test.YtbamckfjikpjlaaMem
import Derived.Test.YtbamckfjikpjlaaHeld
import Derived.Deep.DeepCutAuto
import Derived.Deep.LoopGhost
import Derived.Deep.DrawnRows
set_option linter.unusedSimpArgs false
set_option linter.unusedVariables false
namespace Go.Proofs.Ytbamckfjikpjlaa
open Go.RowKit

abbrev P2 := ByteArray × ByteArray
/-- A statement: its kind, name, refs, attributes, body. -/
inductive St where
  | mk (k : Int) (nm : ByteArray) (rs ats : List P2) (bd : List St)

def depL : List St → Nat
  | [] => 0
  | .mk _ _ _ _ b :: r => max (1 + depL b) (depL r)
def cntL : List St → Nat
  | [] => 0
  | .mk _ _ _ _ b :: r => 1 + cntL b + cntL r
/-- At most 40 refs and attributes each. -/
def smL : List St → Prop
  | [] => True
  | .mk _ _ rs ats b :: r => rs.length ≤ 40 ∧ ats.length ≤ 40 ∧ smL b ∧ smL r
def inn (k : Int) (lv : Nat) : Nat := if k = 5 then lv + 1 else lv
/-- The statements in preorder, with their levels. -/
def pre : List St → Nat → List (St × Nat)
  | [], _ => []
  | .mk k n rs ats b :: r, lv => (.mk k n rs ats b, lv) :: (pre b (inn k lv) ++ pre r lv)

theorem cntL_app (a b : List St) : cntL (a ++ b) = cntL a + cntL b := by
  induction a with
  | nil => simp [cntL]
  | cons x a ih => cases x; simp only [List.cons_append, cntL, ih]; omega
theorem depL_app (a b : List St) : depL (a ++ b) = max (depL a) (depL b) := by
  induction a with
  | nil => simp [depL]
  | cons x a ih => cases x; simp only [List.cons_append, depL, ih]; omega
theorem smL_app (a b : List St) : smL (a ++ b) ↔ smL a ∧ smL b := by
  induction a with
  | nil => simp [smL]
  | cons x a ih => cases x; simp only [List.cons_append, smL, ih, and_assoc]
theorem pre_app (a b : List St) (lv : Nat) : pre (a ++ b) lv = pre a lv ++ pre b lv := by
  induction a with
  | nil => simp [pre]
  | cons x a ih => cases x; simp only [List.cons_append, pre, ih, List.append_assoc]
theorem pre_one (k : Int) (n : ByteArray) (rs ats : List P2) (b : List St) (lv : Nat) : pre [.mk k n rs ats b] lv = (.mk k n rs ats b, lv) :: pre b (inn k lv) := by simp [pre]
theorem cnt_pre : ∀ (l : List St) (lv : Nat), (pre l lv).length = cntL l
  | [], _ => by simp [pre, cntL]
  | .mk k n rs ats b :: r, lv => by
    have h1 := cnt_pre b (inn k lv)
    have h2 := cnt_pre r lv
    simp only [pre, cntL, List.length_cons, List.length_append, h1, h2]; omega
theorem take_snoc' {α : Type} {l : List α} {i : Nat} {x : α} (h : l[i]? = some x) : l.take (i + 1) = l.take i ++ [x] := by
  obtain ⟨h1, rfl⟩ := List.getElem?_eq_some_iff.1 h
  rw [List.take_succ_eq_append_getElem h1]

/-- Two texts. -/
def rP2 (_ : World) (cs : List Value) (x : P2) : Prop := cs = [.string x.1, .string x.2] ∧ x.1.size ≤ maxLen ∧ x.2.size ≤ maxLen
/-- A statement, of at most n levels. -/
def rSt : Nat → World → List Value → St → Prop
  | 0, _, _, _ => False
  | n + 1, w, cs, .mk k nm rs ats bd => (Lit.int .i64 k).wf = true ∧ nm.size ≤ maxLen ∧ ∃ rp rc ap ac bp bc, cs = [.int .i64 k, .string nm, .slice rp rs.length rc, .slice ap ats.length ac, .slice bp bd.length bc] ∧
    SlAt rP2 2 w rp rc rs ∧ SlAt rP2 2 w ap ac ats ∧ SlAt (rSt n) 5 w bp bc bd
abbrev Sts (n : Nat) (w : World) (p : Option Addr) (cap : Nat) (l : List St) : Prop := SlAt (rSt n) 5 w p cap l
abbrev P2s (w : World) (p : Option Addr) (cap : Nat) (l : List P2) : Prop := SlAt rP2 2 w p cap l
abbrev Strs (w : World) (p : Option Addr) (cap : Nat) (l : List ByteArray) : Prop := SlAt rStr 1 w p cap l

theorem SlAt.imp {α : Type} {R R' : World → List Value → α → Prop} {sz : Nat} {w : World} {p : Option Addr} {cap : Nat} {xs : List α} (h : SlAt R sz w p cap xs) (hR : ∀ cs x, x ∈ xs → R w cs x → R' w cs x) : SlAt R' sz w p cap xs := by
  obtain ⟨h1, h2, h3, h4⟩ := h
  refine ⟨h1, h2, h3, fun i x hx => ?_⟩
  obtain ⟨b, o, ce, g1, g2, g3, g4, g5⟩ := h4 i x hx
  exact ⟨b, o, ce, g1, g2, g3, hR _ _ (List.mem_of_getElem? hx) g4, g5⟩
theorem stable_p2 : Stable rP2 := fun _ _ _ _ _ h => h
theorem stable_st : ∀ n, Stable (rSt n)
  | 0 => fun _ _ _ _ _ h => h.elim
  | n + 1 => fun w w' cs x hg h => by
    cases x with
    | mk k nm rs ats bd =>
      obtain ⟨h1, h2, rp, rc, ap, ac, bp, bc, h3, h4, h5, h6⟩ := h
      exact ⟨h1, h2, rp, rc, ap, ac, bp, bc, h3, h4.grew stable_p2 hg, h5.grew stable_p2 hg, h6.grew (stable_st n) hg⟩
theorem rSt_mono : ∀ n {w : World} {cs : List Value} {x : St}, rSt n w cs x → rSt (n + 1) w cs x
  | 0, _, _, _, h => h.elim
  | n + 1, w, cs, .mk k nm rs ats bd, h => by
    obtain ⟨h1, h2, rp, rc, ap, ac, bp, bc, h3, h4, h5, h6⟩ := h
    exact ⟨h1, h2, rp, rc, ap, ac, bp, bc, h3, h4, h5, h6.imp fun cs x _ => rSt_mono n⟩
theorem rSt_le {n m : Nat} (h : n ≤ m) {w : World} {cs : List Value} {x : St} (hx : rSt n w cs x) : rSt m w cs x := by
  induction h with
  | refl => exact hx
  | step _ ih => exact rSt_mono _ ih
theorem depL_mem {x : St} {l : List St} (h : x ∈ l) : depL [x] ≤ depL l := by
  obtain ⟨a, b, rfl⟩ := List.append_of_mem h
  rw [depL_app, show x :: b = [x] ++ b from rfl, depL_app]; omega
/-- The levels that are read need be no more than there are. -/
theorem rSt_dep : ∀ (m n : Nat) {w : World} {cs : List Value} {x : St}, rSt n w cs x → depL [x] ≤ m → rSt m w cs x
  | _, 0, _, _, _, h, _ => h.elim
  | 0, n + 1, w, cs, .mk k nm rs ats bd, h, hd => by simp only [depL] at hd; omega
  | m + 1, n + 1, w, cs, .mk k nm rs ats bd, h, hd => by
    obtain ⟨h1, h2, rp, rc, ap, ac, bp, bc, h3, h4, h5, h6⟩ := h
    simp only [depL] at hd
    exact ⟨h1, h2, rp, rc, ap, ac, bp, bc, h3, h4, h5, h6.imp fun cs x hx hr => rSt_dep m n hr (by have := depL_mem hx; omega)⟩
theorem Sts.dep {m n : Nat} {w : World} {p : Option Addr} {cap : Nat} {l : List St} (h : Sts n w p cap l) (hd : depL l ≤ m) : Sts m w p cap l :=
  h.imp fun cs x hx hr => rSt_dep m n hr (Nat.le_trans (depL_mem hx) hd)

end Go.Proofs.Ytbamckfjikpjlaa
