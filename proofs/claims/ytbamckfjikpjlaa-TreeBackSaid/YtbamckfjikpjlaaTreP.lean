/- Lists of names: searches; Names and Clusters of the reference. -/
import Derived.Test.YtbamckfjikpjlaaTreL
set_option linter.unusedSimpArgs false
set_option linter.unusedVariables false
namespace Go.Proofs.Ytbamckfjikpjlaa
open Go.RowKit
attribute [local go_sem ↓] Go.wp_at_zero Go.wp_at_succ

def layStr : Lay Try.prog := ⟨28, 9, 1, 16, .string ⟨#[]⟩, Try.underlying28, by kernel_rfl, rfl, by decide⟩
def rS (cs : List Value) (s : ByteArray) : Prop := cs = [.string s] ∧ s.size ≤ maxLen
theorem rS_one : ∀ ce x, rS ce x → ∀ u ∈ ce, u.oneCell' = true := by
  rintro ce x ⟨rfl, _⟩ u hu
  simp at hu; subst hu; rfl
theorem strs_of {w : World} {p : Option Addr} {cap : Nat} {l : List ByteArray} (h : SlAt (fun _ => rS) 1 w p cap l) : Strs w p cap l := h
theorem of_strs {w : World} {p : Option Addr} {cap : Nat} {l : List ByteArray} (h : Strs w p cap l) : SlAt (fun _ => rS) 1 w p cap l := h

def memB (s : ByteArray) (l : List ByteArray) : Bool := l.any fun x => sq s x
theorem memB_iff {s : ByteArray} {l : List ByteArray} : memB s l = true ↔ s ∈ l := by
  unfold memB
  rw [List.any_eq_true]
  constructor
  · rintro ⟨x, hx, h⟩
    rw [sq_iff.1 h]; exact hx
  · exact fun h => ⟨s, h, sq_self s⟩
theorem memB_no {s : ByteArray} {l : List ByteArray} : memB s l = false ↔ s ∉ l := by rw [← memB_iff, Bool.not_eq_true]
theorem memB_y {s : ByteArray} {l : List ByteArray} {k : Nat} {x : ByteArray} (h : l[k]? = some x) (e : s = x) : memB s l = true := memB_iff.2 (e ▸ List.mem_of_getElem? h)
theorem memB_n {s : ByteArray} {l : List ByteArray} (h : ∀ (k : Nat) x, l[k]? = some x → s ≠ x) : memB s l = false := memB_no.2 fun hm => by
  obtain ⟨k, hk, e⟩ := List.getElem_of_mem hm
  exact h k _ (List.getElem?_eq_getElem hk) e.symm

set_option maxHeartbeats 1000000 in
theorem index_s (p : Option Addr) (n c : Nat) (x : List ByteArray) (v : ByteArray) (w : World) (hx : Strs w p c x) (hn : x.length = n) :
    Calls Try.prog 45 #[.slice p n c, .string v] w fun e w' => (∃ r : Int, e = .returned (.int .i64 r) ∧ ((r = -1 ∧ memB v x = false) ∨ ∃ k : Nat, r = (k : Int) ∧ memB v x = true)) ∧ Grew w w' := by
  subst hn
  have Hx := Lib.hid hx
  have hxl := len_lt hx
  clear hx
  go_enter Try.func45, Try.ntmps45
  go_wp2
  go_loopw [5, 8] (fun _ i wr => ∃ k : Nat, k ≤ x.length ∧ i = .int .i64 k ∧ (∀ (j : Nat) y, j < k → x[j]? = some y → v ≠ y) ∧ Grew w wr) (fun _ i _ => x.length - (intOf i).toNat)
  case atStart => exact ⟨0, Nat.zero_le _, rfl, fun j y hj => by omega, by (repeat (first | exact Grew.refl _ | refine Grew.over ?_ _ | refine Grew.alloc ?_ _ | refine Grew.drew ?_ | refine Grew.drewN ?_ _))⟩
  case round =>
    obtain ⟨k, hk, rfl, hall, hg⟩ := hrel
    have Hall := Lib.hid hall
    have Hg := Lib.hid hg
    clear hall hg
    by_cases hlt : k < x.length
    · obtain ⟨b, o, s, rfl, hb, e1, hs, c1⟩ := strs_el (Hx.out.grew stable_str Hg.out) hlt
      have E1 := Lib.hid e1
      clear e1
      cases hq : sq v s
      · have hq' := sq_raw hq
        have H := Lib.hid (show v ≠ s from fun h => by rw [h, sq_self] at hq; cases hq)
        clear hq
        go_wp2
        go_roundw
        case rel => exact ⟨k + 1, hlt, by go_num, fun j y hj hy => (by
          rcases Nat.lt_succ_iff_lt_or_eq.1 hj with h | h
          · exact Hall.out j y h hy
          · rw [h, E1.out] at hy; cases hy; exact H.out), Hg.out.trans (by (repeat (first | exact Grew.refl _ | refine Grew.over ?_ _ | refine Grew.alloc ?_ _ | refine Grew.drew ?_ | refine Grew.drewN ?_ _)))⟩
        case measure => simp [intOf]; omega
      · have hq' := sq_raw hq
        have H := Lib.hid (memB_y E1.out (sq_iff.1 hq))
        clear hq
        go_wp2
        go_ret
        exact ⟨⟨k, rfl, Or.inr ⟨k, rfl, H.out⟩⟩, Hg.out.trans (by (repeat (first | exact Grew.refl _ | refine Grew.over ?_ _ | refine Grew.alloc ?_ _ | refine Grew.drew ?_ | refine Grew.drewN ?_ _)))⟩
    · have H := Lib.hid (memB_n (s := v) (l := x) fun j y hy => Hall.out j y (by have := (List.getElem?_eq_some_iff.1 hy).1; omega) hy)
      go_wp2
      go_ret
      exact ⟨⟨-1, rfl, Or.inl ⟨rfl, H.out⟩⟩, Hg.out.trans (by (repeat (first | exact Grew.refl _ | refine Grew.over ?_ _ | refine Grew.alloc ?_ _ | refine Grew.drew ?_ | refine Grew.drewN ?_ _)))⟩
theorem contains_s (p : Option Addr) (n c : Nat) (x : List ByteArray) (v : ByteArray) (w : World) (hx : Strs w p c x) (hn : x.length = n) :
    Calls Try.prog 27 #[.slice p n c, .string v] w fun e w' => e = .returned (.bool (memB v x)) ∧ Grew w w' := by
  have HI := Lib.hid hx
  clear hx
  go_enter Try.func27, Try.ntmps27
  go_wp2_with (go_at_call 45; apply Calls.mono; (with_reducible exact index_s _ _ _ x v _ HI.out hn); rintro e w' ⟨⟨r, rfl, hr⟩, hg⟩; have Hr := Lib.hid hr; have Hg := Lib.hid hg; clear hr hg)
  rcases Hr.out with ⟨rfl, h⟩ | ⟨k, rfl, h⟩
  · have H := Lib.hid h
    clear h
    go_wp2
    go_ret
    exact ⟨ret_bool H.out.symm, Hg.out⟩
  · have hk : (0 : Int) ≤ k := Int.natCast_nonneg k
    have H := Lib.hid h
    clear h
    go_wp2
    go_ret
    exact ⟨ret_bool H.out.symm, Hg.out⟩
set_option maxHeartbeats 1000000 in
theorem has_r (p : Option Addr) (n c : Nat) (x : List ByteArray) (v : ByteArray) (w : World) (hx : Strs w p c x) (hn : x.length = n) :
    Calls Try.prog 31 #[.slice p n c, .string v] w fun e w' => e = .returned (.bool (memB v x)) ∧ Grew w w' := by
  subst hn
  have Hx := Lib.hid hx
  have hxl := len_lt hx
  obtain ⟨r, hr⟩ : ∃ r, memB v x = r := ⟨_, rfl⟩
  have Hr := Lib.hid hr.symm
  rw [hr]
  clear hx hr
  go_enter Try.func31, Try.ntmps31
  go_wp2
  go_loopw [5] (fun i wr => ∃ k : Nat, k ≤ x.length ∧ i = .int .i64 k ∧ (∀ (j : Nat) y, j < k → x[j]? = some y → v ≠ y) ∧ Grew w wr) (fun i _ => x.length - (intOf i).toNat)
  case atStart => exact ⟨0, Nat.zero_le _, rfl, fun j y hj => by omega, by (repeat (first | exact Grew.refl _ | refine Grew.over ?_ _ | refine Grew.alloc ?_ _ | refine Grew.drew ?_ | refine Grew.drewN ?_ _))⟩
  case round =>
    obtain ⟨k, hk, rfl, hall, hg⟩ := hrel
    have Hall := Lib.hid hall
    have Hg := Lib.hid hg
    clear hall hg
    by_cases hlt : k < x.length
    · obtain ⟨b, o, s, rfl, hb, e1, hs, c1⟩ := strs_el (Hx.out.grew stable_str Hg.out) hlt
      have E1 := Lib.hid e1
      clear e1
      cases hq : sq s v
      · have hq' := sq_raw hq
        have H := Lib.hid (show v ≠ s from fun h => by rw [h, sq_self] at hq; cases hq)
        clear hq
        go_wp2
        go_roundw
        case rel => exact ⟨k + 1, hlt, by go_num, fun j y hj hy => (by
          rcases Nat.lt_succ_iff_lt_or_eq.1 hj with h | h
          · exact Hall.out j y h hy
          · rw [h, E1.out] at hy; cases hy; exact H.out), Hg.out.trans (by (repeat (first | exact Grew.refl _ | refine Grew.over ?_ _ | refine Grew.alloc ?_ _ | refine Grew.drew ?_ | refine Grew.drewN ?_ _)))⟩
        case measure => simp [intOf]; omega
      · have hq' := sq_raw hq
        have H := Lib.hid (Hr.out.trans (memB_y E1.out (sq_iff.1 hq).symm))
        clear hq
        go_wp2
        go_ret
        exact ⟨ret_bool H.out.symm, Hg.out.trans (by (repeat (first | exact Grew.refl _ | refine Grew.over ?_ _ | refine Grew.alloc ?_ _ | refine Grew.drew ?_ | refine Grew.drewN ?_ _)))⟩
    · have H := Lib.hid (Hr.out.trans (memB_n (s := v) (l := x) fun j y hy => Hall.out j y (by have := (List.getElem?_eq_some_iff.1 hy).1; omega) hy))
      go_wp2
      go_ret
      exact ⟨ret_bool H.out.symm, Hg.out.trans (by (repeat (first | exact Grew.refl _ | refine Grew.over ?_ _ | refine Grew.alloc ?_ _ | refine Grew.drew ?_ | refine Grew.drewN ?_ _)))⟩

/-! ### Names -/
def putN (out : List ByteArray) (s : ByteArray) : List ByteArray := if memB s out = true then out else out ++ [s]
theorem putN_y {out : List ByteArray} {s : ByteArray} (h : memB s out = true) : putN out s = out := if_pos h
theorem putN_n {out : List ByteArray} {s : ByteArray} (h : memB s out = false) : putN out s = out ++ [s] := if_neg (by rw [h]; simp)
theorem putN_len (out : List ByteArray) (s : ByteArray) : (putN out s).length ≤ out.length + 1 := by unfold putN; split <;> simp
def rsN (out : List ByteArray) (rs : List P2) : List ByteArray := rs.foldl (fun o r => putN o r.1) out
theorem rsN_len (out : List ByteArray) (rs : List P2) : (rsN out rs).length ≤ out.length + rs.length := by
  induction rs generalizing out with
  | nil => simp [rsN]
  | cons r rs ih =>
    have := ih (putN out r.1)
    have := putN_len out r.1
    simp only [rsN, List.foldl_cons, List.length_cons] at *
    omega
theorem rsN_snoc (out : List ByteArray) (rs : List P2) (r : P2) : rsN out (rs ++ [r]) = putN (rsN out rs) r.1 := by unfold rsN; rw [List.foldl_append]; rfl
def nmF (out : List ByteArray) : St × Nat → List ByteArray
  | (.mk k nm rs _ _, _) => rsN (if k = 1 then putN out nm else out) rs
/-- The different names of nodes, in their order. -/
def nmsL (F : List (St × Nat)) : List ByteArray := F.foldl nmF []
theorem nmsL_snoc (F : List (St × Nat)) (x : St × Nat) : nmsL (F ++ [x]) = nmF (nmsL F) x := by unfold nmsL; rw [List.foldl_append]; rfl
def rsS : St → List P2
  | .mk _ _ rs _ _ => rs
theorem nmF_len (out : List ByteArray) (x : St × Nat) : (nmF out x).length ≤ out.length + 1 + (rsS x.1).length := by
  obtain ⟨⟨k, nm, rs, ats, bd⟩, lv⟩ := x
  have := rsN_len (if k = 1 then putN out nm else out) rs
  have := putN_len out nm
  have h3 := rsN_len (putN out nm) rs
  have h4 := rsN_len out rs
  simp only [nmF, rsS]
  by_cases h : k = 1
  · rw [if_pos h]; omega
  · rw [if_neg h]; omega
theorem nmsL_len {F : List (St × Nat)} (h : ∀ x ∈ F, (rsS x.1).length ≤ 40) : (nmsL F).length ≤ F.length * 41 := by
  suffices ∀ out : List ByteArray, (F.foldl nmF out).length ≤ out.length + F.length * 41 by
    have := this []
    unfold nmsL
    simpa using this
  induction F with
  | nil => intro out; simp
  | cons x F ih =>
    intro out
    have h1 := ih (fun y hy => h y (by simp [hy])) (nmF out x)
    have h2 := nmF_len out x
    have h3 := h x (by simp)
    simp only [List.foldl_cons, List.length_cons]
    omega
theorem pre_sm : ∀ (l : List St) (lv : Nat) (_ : smL l), ∀ x ∈ pre l lv, (rsS x.1).length ≤ 40
  | [], _, _, x, hx => by simp [pre] at hx
  | .mk k n rs ats b :: r, lv, h, x, hx => by
    simp only [smL] at h
    obtain ⟨h1, h2, h3, h4⟩ := h
    simp only [pre, List.mem_cons, List.mem_append] at hx
    rcases hx with rfl | hx | hx
    · exact h1
    · exact pre_sm b _ h3 x hx
    · exact pre_sm r _ h4 x hx
def clF (out : List ByteArray) : St × Nat → List ByteArray
  | (.mk k nm _ _ _, _) => if k = 5 then out ++ [nm] else out
/-- The names of the clusters. -/
def clsL (F : List (St × Nat)) : List ByteArray := F.foldl clF []
theorem clsL_snoc (F : List (St × Nat)) (x : St × Nat) : clsL (F ++ [x]) = clF (clsL F) x := by unfold clsL; rw [List.foldl_append]; rfl
theorem clsL_len (F : List (St × Nat)) : (clsL F).length ≤ F.length := by
  suffices ∀ out : List ByteArray, (F.foldl clF out).length ≤ out.length + F.length by
    have := this []
    unfold clsL
    simpa using this
  induction F with
  | nil => intro out; simp
  | cons x F ih =>
    intro out
    have h1 := ih (clF out x)
    have h2 : (clF out x).length ≤ out.length + 1 := by
      obtain ⟨⟨k, nm, rs, ats, bd⟩, lv⟩ := x
      simp only [clF]
      split <;> simp
    simp only [List.foldl_cons, List.length_cons]
    omega
def namesL (name : ByteArray) (l : List St) : List ByteArray := if vlE name l = 0 then nmsL (pre l 0) else []
def clustL (name : ByteArray) (l : List St) : List ByteArray := if vlE name l = 0 then clsL (pre l 0) else []
end Go.Proofs.Ytbamckfjikpjlaa
