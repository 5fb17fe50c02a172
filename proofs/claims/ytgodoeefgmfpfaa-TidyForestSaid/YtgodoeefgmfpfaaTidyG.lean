/- The contract of place. -/
import Derived.Test.YtgodoeefgmfpfaaTidyF
import Derived.Deep.DeepCutAuto
set_option linter.unusedSimpArgs false
set_option linter.unusedVariables false
namespace Go.Proofs.Ytgodoeefgmfpfaa
open Go.RowKit
attribute [local go_sem ↓] Go.wp_at_zero Go.wp_at_succ

theorem all_rows (B S gc gx : Nat) (wp : Option Addr) (wc : Nat) (P W : List Int) (sep : Int) (hP : vFor P) (hW : wOK W sep) : ∀ k, SubAll B S gc gx wp wc P W sep k
  | 0 => fun v X w hv hk => by omega
  | k + 1 => sub_succ B S gc gx wp wc P W sep hP hW k (row_of_sub B S gc gx wp wc P W sep hP hW k (all_rows B S gc gx wp wc P W sep hP hW k))

/-- What the functions accept. -/
def okA (P W : List Int) (sep : Int) : Bool := vForB P && (W.length == P.length) && !W.any wrongB && !wrongB sep
theorem okA_facts {P W : List Int} {sep : Int} (h : okA P W sep = true) : vFor P ∧ W.length = P.length ∧ wOK W sep ∧ W.any wrongB = false ∧ wrongB sep = false := by
  unfold okA at h
  simp only [Bool.and_eq_true, beq_iff_eq, Bool.not_eq_true'] at h
  obtain ⟨⟨⟨h1, h2⟩, h3⟩, h4⟩ := h
  refine ⟨vForB_iff.1 h1, h2, ⟨?_, ?_, fun u => ?_⟩, h3, h4⟩
  · unfold wrongB at h4; simp at h4; omega
  · unfold wrongB at h4; simp at h4; omega
  · by_cases hu : u < W.length
    · have h5 := (List.any_eq_false.1 h3) _ (ge_mem hu)
      unfold wrongB at h5; simp at h5; omega
    · unfold ge
      rw [List.getD_eq_getElem?_getD, List.getElem?_eq_none (by omega)]
      simp

/-- The drawing of the forest, before it is moved. -/
def forD (P W : List Int) (sep : Int) : Dr := rowD P W sep (subD P W sep P.length) (kids P (-1))
/-- The positions X and the width wd are those of the drawing. -/
def PlaceOK (P W : List Int) (sep : Int) (X : List Int) (wd : Int) : Prop :=
  X.length = P.length ∧ ∃ least, (∀ q ∈ forD P W sep, least ≤ lfE W q ∧ rtE W q - least ≤ wd ∧ ge X q.1 = q.2 - least) ∧ (∃ q ∈ forD P W sep, lfE W q = least) ∧ ∃ q ∈ forD P W sep, rtE W q - least = wd
def PlacePost (P W : List Int) (sep : Int) (w : World) (e : Ending) (w' : World) : Prop :=
  Grew w w' ∧ ((okA P W sep = false ∧ e = .returned (.tuple #[.slice none 0 0, .int .i64 0, .int .i64 1])) ∨
    (okA P W sep = true ∧ P.length = 0 ∧ e = .returned (.tuple #[.slice none 0 0, .int .i64 0, .int .i64 0])) ∨
    (okA P W sep = true ∧ 0 < P.length ∧ ∃ q cap X wd, e = .returned (.tuple #[.slice q P.length cap, .int .i64 wd, .int .i64 0]) ∧ Ints w' q X ∧ PlaceOK P W sep X wd ∧ P.length ≤ cap ∧ (q = none → cap = 0) ∧
      (∀ x ∈ X, -300000000 ≤ x ∧ x ≤ 300000000)))

set_option maxRecDepth 8000 in
set_option maxHeartbeats 16000000 in
theorem place_bad (p q : Option Addr) (n k cp cq : Nat) (P W : List Int) (sep : Int) (w : World) (hI : Ints w p P) (hJ : Ints w q W) (hn : P.length = n) (hk : W.length = k) (hb : okA P W sep = false) :
    Calls Try.prog 24 #[.slice p n cp, .slice q k cq, .int .i64 sep] w fun e w' => e = .returned (.tuple #[.slice none 0 0, .int .i64 0, .int .i64 1]) ∧ Grew w w' := by
  subst hn hk
  have hm1 := hI.1
  have hm2 := hJ.1
  cases hv : vForB P
  case false =>
    have Hv := Lib.hid hv
    clear hv hb
    go_enter Try.func24, Try.ntmps24
    go_wp2_with ((go_at_call 19; apply Calls.mono; (with_reducible exact validp_e Hv.out hI rfl); rintro e w' ⟨rfl, rfl⟩))
    go_ret3
    exact ⟨rfl, by (repeat (first | exact Grew.refl _ | refine Grew.over ?_ _ | refine Grew.alloc ?_ _ | refine Grew.drew ?_ | refine Grew.drewN ?_ _))⟩
  case true =>
  have Hv := Lib.hid hv
  by_cases hl : W.length = P.length
  case neg =>
    have hl' : ((W.length : Int) != (P.length : Int)) = true := by rw [bne_iff_ne]; omega
    clear hl hb hv
    go_enter Try.func24, Try.ntmps24
    go_wp2_with ((go_at_call 19; apply Calls.mono; (with_reducible exact validp_e Hv.out hI rfl); rintro e w' ⟨rfl, rfl⟩))
    go_ret3
    exact ⟨rfl, by (repeat (first | exact Grew.refl _ | refine Grew.over ?_ _ | refine Grew.alloc ?_ _ | refine Grew.drew ?_ | refine Grew.drewN ?_ _))⟩
  case pos =>
  have hl' : ((W.length : Int) != (P.length : Int)) = false := by rw [hl]; simp
  cases ha : W.any wrongB
  case true =>
    have Ha := Lib.hid (show ∀ W1 : World, Grew w W1 → Calls Try.prog 31 #[.slice q W.length cq, .func (.func 30) #[] #[]] W1 fun e w' => e = .returned (.bool true) ∧ W1 = w' from fun W1 hg => by
      have := containsFunc_v q W.length cq W wrongB W1 (hJ.grew hg) rfl (fun c => wrong_p c W1)
      rw [ha] at this
      exact this)
    clear hl hb ha hv
    go_enter Try.func24, Try.ntmps24
    go_wp2_with (first | (go_at_call 19; apply Calls.mono; (with_reducible exact validp_e Hv.out hI rfl); rintro e w' ⟨rfl, rfl⟩) | (go_at_call 31; apply Calls.mono; (with_reducible exact Ha.out _ (by (repeat (first | exact Grew.refl _ | refine Grew.over ?_ _ | refine Grew.alloc ?_ _ | refine Grew.drew ?_ | refine Grew.drewN ?_ _)))); rintro e w' ⟨rfl, rfl⟩))
    go_ret3
    exact ⟨rfl, by (repeat (first | exact Grew.refl _ | refine Grew.over ?_ _ | refine Grew.alloc ?_ _ | refine Grew.drew ?_ | refine Grew.drewN ?_ _))⟩
  case false =>
    have Ha := Lib.hid (show ∀ W1 : World, Grew w W1 → Calls Try.prog 31 #[.slice q W.length cq, .func (.func 30) #[] #[]] W1 fun e w' => e = .returned (.bool false) ∧ W1 = w' from fun W1 hg => by
      have := containsFunc_v q W.length cq W wrongB W1 (hJ.grew hg) rfl (fun c => wrong_p c W1)
      rw [ha] at this
      exact this)
    have hs : wrongB sep = true := by
      unfold okA at hb
      rw [hv, ha, hl] at hb
      simpa using hb
    have Hs := Lib.hid (show ∀ W1 : World, Calls Try.prog 30 #[.int .i64 sep] W1 fun e w' => e = .returned (.bool true) ∧ W1 = w' from fun W1 => by
      have := wrong_p sep W1
      rw [hs] at this
      exact this)
    clear hl hb ha hs hv
    go_enter Try.func24, Try.ntmps24
    go_wp2_with (first | (go_at_call 19; apply Calls.mono; (with_reducible exact validp_e Hv.out hI rfl); rintro e w' ⟨rfl, rfl⟩) | (go_at_call 31; apply Calls.mono; (with_reducible exact Ha.out _ (by (repeat (first | exact Grew.refl _ | refine Grew.over ?_ _ | refine Grew.alloc ?_ _ | refine Grew.drew ?_ | refine Grew.drewN ?_ _)))); rintro e w' ⟨rfl, rfl⟩) | (go_at_call 30; apply Calls.mono; (with_reducible exact Hs.out _); rintro e w' ⟨rfl, rfl⟩))
    go_ret3
    exact ⟨rfl, by (repeat (first | exact Grew.refl _ | refine Grew.over ?_ _ | refine Grew.alloc ?_ _ | refine Grew.drew ?_ | refine Grew.drewN ?_ _))⟩

theorem Try.infoInts : (Try.prog.info? 22).map (fun i => (i.zero, i.size, i.bytes)) = some (some (.slice none 0 0), 1, 24) := by kernel_rfl

theorem make_rows (n : Nat) (hn : n ≤ 64) (w : World) : (Instr.makeSlice 50 (.int .i64 (n : Int)) (.int .i64 (n : Int))).run Try.prog w = .ok (.slice (some ⟨w.heap.size, 0, none⟩) n n) (w.alloc (.cells (madeCells #[.slice none 0 0] n) 22)) := by
  obtain ⟨i0, hi, hz0, hz1, hz2⟩ := info_parts Try.infoInts
  have h := run_make (P := Try.prog) w 50 22 i0 (.slice none 0 0) Try.underlying50 hi hz0 .i64 .i64 (n : Int) (n : Int) (by omega) (Int.le_refl _) (by rw [hz2]; omega) (by omega)
  simp only [Int.toNat_natCast, hz1, Nat.mul_one] at h
  exact h
theorem make_ints (n : Nat) (hn : n ≤ 64) (w : World) : (Instr.makeSlice 22 (.int .i64 (n : Int)) (.int .i64 (n : Int))).run Try.prog w = .ok (.slice (some ⟨w.heap.size, 0, none⟩) n n) (w.alloc (.cells (madeCells #[.int .i64 0] n) 3)) := by
  obtain ⟨i0, hi, hz0, hz1, hz2⟩ := info_parts Try.infoInt
  have h := run_make (P := Try.prog) w 22 3 i0 (.int .i64 0) Try.underlying22 hi hz0 .i64 .i64 (n : Int) (n : Int) (by omega) (Int.le_refl _) (by rw [hz2]; omega) (by omega)
  simp only [Int.toNat_natCast, hz1, Nat.mul_one] at h
  exact h

/-- The rows of the placer: its box, the children's, the positions'. -/
def plRows (S gc gx n : Nat) (wq : Value) (sep : Int) (vals : List Value) (X : List Int) (rs : List Row) : List Row :=
  ⟨.slice (some ⟨S, 0, none⟩) 1 1, 58, 4, 1, [.slice (some ⟨gc, 0, none⟩) n n, wq, .int .i64 sep, .slice (some ⟨gx, 0, none⟩) n n]⟩ ::
  ⟨.slice (some ⟨gc, 0, none⟩) n n, 22, 1, n, vals⟩ :: ⟨.slice (some ⟨gx, 0, none⟩) n n, 3, 1, n, intVs X⟩ :: rs

theorem made_ints (n : Nat) : (madeCells #[Value.int .i64 0] n).toList = intVs (tab n (fun _ => 0)) := by rw [toList_madeCells_one, intVs_rep]
theorem place_start1 (w : World) (n : Nat) (hn : n ≤ 64) (wq : Value) (sep : Int) :
    Owns (((w.alloc (.cells (madeCells #[.slice none 0 0] n) 22)).alloc (.cells (madeCells #[.int .i64 0] n) 3)).alloc (.cells #[.slice (some ⟨w.heap.size, 0, none⟩) n n, wq, .int .i64 sep, .slice (some ⟨w.heap.size + 1, 0, none⟩) n n] 58))
      w.heap.size (plRows (w.heap.size + 1 + 1) w.heap.size (w.heap.size + 1) n wq sep (List.replicate n (.slice none 0 0)) (tab n (fun _ => 0)) []) := by
  have hm : n ≤ maxLen := by simp only [maxLen]; omega
  have h1 := (Owns.nil w w.heap.size).made (Nat.le_refl _) (madeCells #[.slice none 0 0] n) 22 1 n w.heap.size (by rw [size_madeCells, Nat.mul_one]) hm rfl
  have h2 := h1.made (by simp) (madeCells #[.int .i64 0] n) 3 1 n (w.heap.size + 1) (by rw [size_madeCells, Nat.mul_one]) hm (by simp)
  rw [made_ints, toList_madeCells_one] at h2
  have h3 := h2.made (by simp; omega) #[.slice (some ⟨w.heap.size, 0, none⟩) n n, wq, .int .i64 sep, .slice (some ⟨w.heap.size + 1, 0, none⟩) n n] 58 4 1 (w.heap.size + 1 + 1) rfl (by decide) (by simp)
  exact h3.perm (List.Perm.cons _ (List.Perm.swap _ _ _))
theorem place_start2 (w : World) (n : Nat) (hn : n ≤ 64) (wq : Value) (sep : Int) :
    Owns (((w.alloc (.cells (madeCells #[.int .i64 0] n) 3)).alloc (.cells (madeCells #[.slice none 0 0] n) 22)).alloc (.cells #[.slice (some ⟨w.heap.size + 1, 0, none⟩) n n, wq, .int .i64 sep, .slice (some ⟨w.heap.size, 0, none⟩) n n] 58))
      w.heap.size (plRows (w.heap.size + 1 + 1) (w.heap.size + 1) w.heap.size n wq sep (List.replicate n (.slice none 0 0)) (tab n (fun _ => 0)) []) := by
  have hm : n ≤ maxLen := by simp only [maxLen]; omega
  have h1 := (Owns.nil w w.heap.size).made (Nat.le_refl _) (madeCells #[.int .i64 0] n) 3 1 n w.heap.size (by rw [size_madeCells, Nat.mul_one]) hm rfl
  have h2 := h1.made (by simp) (madeCells #[.slice none 0 0] n) 22 1 n (w.heap.size + 1) (by rw [size_madeCells, Nat.mul_one]) hm (by simp)
  rw [toList_madeCells_one, made_ints] at h2
  exact h2.made (by simp; omega) #[.slice (some ⟨w.heap.size + 1, 0, none⟩) n n, wq, .int .i64 sep, .slice (some ⟨w.heap.size, 0, none⟩) n n] 58 4 1 (w.heap.size + 1 + 1) rfl (by decide) (by simp)

/-- The children among the first k vertices. -/
def kidsK (P : List Int) (v : Int) (k : Nat) : List Nat := (List.range k).filter fun u => ge P u == v
theorem kidsK_all (P : List Int) (v : Int) : kidsK P v P.length = kids P v := rfl
theorem kidsK_succ (P : List Int) (v : Int) (k : Nat) : kidsK P v (k + 1) = kidsK P v k ++ (if ge P k == v then [k] else []) := kids_take_succ P v k
theorem kidsK_hit {P : List Int} {v : Int} {k : Nat} (h : ge P k = v) : kidsK P v (k + 1) = kidsK P v k ++ [k] := by
  rw [kidsK_succ, if_pos (by rw [h]; exact beq_self_eq_true v)]
theorem kidsK_miss {P : List Int} {v : Int} {k : Nat} (h : ge P k ≠ v) : kidsK P v (k + 1) = kidsK P v k := by
  rw [kidsK_succ, if_neg (by simpa using h), List.append_nil]
theorem kidsK_len (P : List Int) (v : Int) (k : Nat) : (kidsK P v k).length ≤ k := by
  have := List.length_filter_le (fun u => ge P u == v) (List.range k)
  simpa [kidsK] using this
def kRow (v : Value) (P : List Int) (u : Int) (k : Nat) : Row := ⟨v, 3, 1, (kidsK P u k).length, intVs (intL (kidsK P u k))⟩
def inner (vals : List Value) (P : List Int) (k : Nat) : List Row := (List.range P.length).map fun u => kRow (vals.getD u (.slice none 0 0)) P u k
theorem inner_get (vals : List Value) (P : List Int) (k : Nat) {u : Nat} (hu : u < P.length) : (inner vals P k)[u]? = some (kRow (vals.getD u (.slice none 0 0)) P u k) := by
  unfold inner
  rw [List.getElem?_map, List.getElem?_range hu]
  rfl
theorem inner_root {vals : List Value} {P : List Int} {k : Nat} (h : ge P k < 0) : inner vals P (k + 1) = inner vals P k := by
  refine List.map_congr_left (fun u _ => ?_)
  unfold kRow
  rw [kidsK_miss (by omega)]
theorem inner_set {vals : List Value} {P : List Int} {k u : Nat} (hl : vals.length = P.length) (hu : u < P.length) (h : ge P k = (u : Int)) (v : Value) : (inner vals P k).set u (kRow v P u (k + 1)) = inner (vals.set u v) P (k + 1) := by
  apply List.ext_getElem?
  intro i
  rw [List.getElem?_set]
  by_cases hi : u = i
  · subst hi
    rw [if_pos rfl, if_pos (by simp [inner]; exact hu), inner_get _ _ _ hu, List.getD_eq_getElem?_getD, List.getElem?_set, if_pos rfl, if_pos (by omega)]
    rfl
  · rw [if_neg hi]
    by_cases hil : i < P.length
    · rw [inner_get _ _ _ hil, inner_get _ _ _ hil, List.getD_eq_getElem?_getD, List.getD_eq_getElem?_getD, List.getElem?_set, if_neg hi]
      unfold kRow
      rw [kidsK_miss (by rw [h]; omega)]
    · rw [List.getElem?_eq_none (by simp [inner]; omega), List.getElem?_eq_none (by simp [inner]; omega)]
theorem inner_start {w : World} {B : Nat} {P : List Int} {rs : List Row} (h : Owns w B rs) : ∀ n, Owns w B (rs ++ (List.range n).map fun u => kRow ((List.replicate P.length (Value.slice none 0 0)).getD u (.slice none 0 0)) P u 0)
  | 0 => by simpa using h
  | n + 1 => by
    have ih := inner_start (P := P) h n
    have h1 := ih.none 3 1
    rw [List.range_succ, List.map_append, ← List.append_assoc]
    refine h1.perm ?_
    have e : (kRow ((List.replicate P.length (Value.slice none 0 0)).getD n (.slice none 0 0)) P n 0) = ⟨.slice none 0 0, 3, 1, 0, []⟩ := by
      unfold kRow
      have : (List.replicate P.length (Value.slice none 0 0)).getD n (.slice none 0 0) = .slice none 0 0 := by
        rw [List.getD_eq_getElem?_getD]
        by_cases hn : n < P.length
        · simp [hn]
        · rw [List.getElem?_eq_none (by simp; omega)]; rfl
      rw [this]
      rfl
    simp only [List.map_cons, List.map_nil]
    rw [e]
    exact (List.perm_append_singleton _ _).symm

theorem place_perm (a b c r : Row) (rs : List Row) : (r :: (([a, b, c] : List Row) ++ rs)).Perm (a :: b :: c :: r :: rs) := by
  refine (List.Perm.swap a r _).trans (List.Perm.cons _ ?_)
  refine (List.Perm.swap b r _).trans (List.Perm.cons _ ?_)
  exact List.Perm.swap c r _

end Go.Proofs.Ytgodoeefgmfpfaa
