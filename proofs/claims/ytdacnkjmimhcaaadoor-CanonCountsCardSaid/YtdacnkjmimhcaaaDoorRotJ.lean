/- Faces of the program. -/
import Derived.Test.YtdacnkjmimhcaaaDoorRotI
set_option linter.unusedSimpArgs false
set_option linter.unusedVariables false
namespace Go.Proofs.YtdacnkjmimhcaaaDoor
open Go.RowKit
attribute [local go_sem ↓] Go.wp_at_zero Go.wp_at_succ

/-- The face that begins at x, S having been met: at most n darts. -/
def faceN (f : Int → Int) : Nat → List Int → Int → List Int
  | 0, _, _ => []
  | n + 1, S, x => if x ∈ S then [] else x :: faceN f n (S ++ [x]) (f x)
/-- What has been met, and the faces, when the first d darts have been asked. -/
def facesN (f : Int → Int) (M : Nat) : Nat → List Int × List (List Int)
  | 0 => ([], [])
  | d + 1 => ((facesN f M d).1 ++ faceN f M (facesN f M d).1 d, if faceN f M (facesN f M d).1 d = [] then (facesN f M d).2 else (facesN f M d).2 ++ [faceN f M (facesN f M d).1 d])
def facesF (A : List (List Int)) (M : Nat) : List (List Int) := (facesN (nxF A) M M).2

/-- The darts met are darts, none twice. -/
def Met (M : Nat) (S : List Int) : Prop := S.Nodup ∧ ∀ x ∈ S, 0 ≤ x ∧ x < M
theorem Met.snoc {M : Nat} {S : List Int} {x : Int} (h : Met M S) (h0 : 0 ≤ x) (h1 : x < M) (hn : x ∉ S) : Met M (S ++ [x]) := by
  refine ⟨?_, fun y hy => ?_⟩
  · rw [List.nodup_append]
    refine ⟨h.1, by simp, fun a ha b hb => ?_⟩
    rw [List.mem_singleton.1 hb]
    exact fun e => hn (e ▸ ha)
  · rcases List.mem_append.1 hy with hy | hy
    · exact h.2 y hy
    · rw [List.mem_singleton.1 hy]; exact ⟨h0, h1⟩
theorem Met.len {M : Nat} {S : List Int} (h : Met M S) : S.length ≤ M := by
  have h2 : ∀ x ∈ S, x ∈ (List.range M).map Int.ofNat := fun x hx => by
    have := h.2 x hx
    exact List.mem_map.2 ⟨x.toNat, List.mem_range.2 (by omega), by simp; omega⟩
  have := List.Nodup.length_le_of_subset h.1 h2
  simpa using this
/-- The darts of a face are darts, and none of them has been met before. -/
theorem faceN_met {M : Nat} {f : Int → Int} (hf : ∀ x : Int, 0 ≤ x → x < M → 0 ≤ f x ∧ f x < M) : ∀ (n : Nat) (S : List Int) (x : Int), Met M S → 0 ≤ x → x < M → Met M (S ++ faceN f n S x)
  | 0, S, x, h, _, _ => by simpa [faceN] using h
  | n + 1, S, x, h, h0, h1 => by
    rw [faceN]
    by_cases hx : x ∈ S
    · rw [if_pos hx]; simpa using h
    · rw [if_neg hx]
      have := faceN_met hf n (S ++ [x]) (f x) (h.snoc h0 h1 hx) (hf x h0 h1).1 (hf x h0 h1).2
      rw [List.append_assoc] at this
      exact this
theorem facesN_met {M : Nat} {f : Int → Int} (hf : ∀ x : Int, 0 ≤ x → x < M → 0 ≤ f x ∧ f x < M) : ∀ d, d ≤ M → Met M (facesN f M d).1
  | 0, _ => ⟨List.nodup_nil, fun _ h => by cases h⟩
  | d + 1, h => faceN_met hf M _ _ (facesN_met hf d (by omega)) (by omega) (by omega)
theorem facesN_in {M : Nat} {f : Int → Int} : ∀ d, ∀ l ∈ (facesN f M d).2, ∀ x ∈ l, x ∈ (facesN f M d).1
  | 0, l, h => by cases h
  | d + 1, l, h => fun x hx => by
    have ih := facesN_in (M := M) (f := f) d
    simp only [facesN] at h ⊢
    split at h
    · exact List.mem_append_left _ (ih l h x hx)
    · rcases List.mem_append.1 h with h | h
      · exact List.mem_append_left _ (ih l h x hx)
      · rw [List.mem_singleton.1 h] at hx
        exact List.mem_append_right _ hx
theorem facesN_len {M : Nat} {f : Int → Int} : ∀ d, (facesN f M d).2.length ≤ d
  | 0 => Nat.le_refl _
  | d + 1 => by
    have := facesN_len (M := M) (f := f) d
    simp only [facesN]
    split
    · omega
    · rw [List.length_append]; simp; omega

def matRow (v : Value) (xs : List Int) : Row := ⟨v, 3, 1, xs.length, intVs xs⟩
def matRows (vals : List Value) (m : List (List Int)) : List Row := List.zipWith matRow vals m
theorem matRows_snoc {vals : List Value} {m : List (List Int)} (hl : vals.length = m.length) (v : Value) (xs : List Int) : matRows (vals ++ [v]) (m ++ [xs]) = matRows vals m ++ [matRow v xs] := by
  unfold matRows
  rw [List.zipWith_append hl]
  rfl
theorem matRows_get {vals : List Value} {m : List (List Int)} (hl : vals.length = m.length) {u : Nat} (hu : u < m.length) : (matRows vals m)[u]? = some (matRow (vals[u]'(by omega)) (rowOf m u)) := by
  unfold matRows
  rw [List.getElem?_zipWith, List.getElem?_eq_getElem (by omega), List.getElem?_eq_getElem hu, rowOf_eq m hu]
/-- A matrix of the call's own, read. -/
theorem mat_of_owns {w : World} {B : Nat} {v : Value} {vals : List Value} {m : List (List Int)} {rs : List Row} (hl : vals.length = m.length) (hb : ∀ l ∈ m, ∀ x ∈ l, -9223372036854775808 ≤ x ∧ x ≤ 9223372036854775807)
    (hO : Owns w B (⟨v, 26, 1, m.length, vals⟩ :: (matRows vals m ++ rs))) : ∃ q cap, v = .slice q m.length cap ∧ Mat w q m := by
  have hm : m.length ≤ 9223372036854775807 := by
    obtain ⟨_, _, _, _, h1, h2, _⟩ := hO.form (k := 0) rfl
    simp only [maxLen] at h2
    omega
  rcases (hO.get (k := 0) rfl).2 with ⟨rfl, h0⟩ | ⟨g, cap, rfl, hB, hg, hle, hmx, _, hc⟩
  · have : m = [] := List.length_eq_zero_iff.1 h0
    subst this
    exact ⟨none, 0, rfl, by simp, 0, 0, fun _ => none, fun _ => 0, fun h => by simp at h, fun u hu => by simp at hu⟩
  · refine ⟨some ⟨g, 0, none⟩, cap, rfl, hm, ?_⟩
    have key : ∀ u, ∃ pc : Option Addr × Nat, u < m.length → w.cell? ⟨g, 0 + u, none⟩ = some (.slice pc.1 (rowOf m u).length pc.2) ∧ Ints w pc.1 (rowOf m u) := by
      intro u
      by_cases hu : u < m.length
      · have hr : (⟨.slice (some ⟨g, 0, none⟩) m.length cap, 26, 1, m.length, vals⟩ :: (matRows vals m ++ rs) : List Row)[u + 1]? = some ⟨vals[u]'(by omega), 3, 1, (rowOf m u).length, intVs (rowOf m u)⟩ := by
          rw [List.getElem?_cons_succ, List.getElem?_append_left (by unfold matRows; rw [List.length_zipWith]; omega), matRows_get hl hu]
          rfl
        obtain ⟨p', c', e, h2, _⟩ := hO.ints hr rfl (fun x hx => hb (rowOf m u) (by rw [rowOf_eq m hu]; exact List.getElem_mem hu) x hx)
        refine ⟨(p', c'), fun _ => ⟨?_, h2⟩⟩
        have := hc u (vals[u]'(by omega)) (List.getElem?_eq_getElem (by omega))
        rw [Nat.zero_add, this, e]
      · exact ⟨(none, 0), fun h => absurd h hu⟩
    exact ⟨g, 0, fun u => (Classical.choose (key u)).1, fun u => (Classical.choose (key u)).2, fun _ => ⟨rfl, hg⟩, fun u hu => Classical.choose_spec (key u) hu⟩

theorem Tryd.infoInts : (Tryd.prog.info? 26).map (fun i => (i.zero, i.size, i.bytes)) = some (some (.slice none 0 0), 1, 24) := by kernel_rfl
def lenOf : Value → Nat
  | .slice _ n _ => n
  | _ => 0

end Go.Proofs.YtdacnkjmimhcaaaDoor
