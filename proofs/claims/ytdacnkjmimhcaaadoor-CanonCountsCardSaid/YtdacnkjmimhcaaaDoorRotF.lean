/- The next dart: what it is; slices.Index; Other. -/
import Derived.Test.YtdacnkjmimhcaaaDoorRotE
set_option linter.unusedSimpArgs false
set_option linter.unusedVariables false
namespace Go.Proofs.YtdacnkjmimhcaaaDoor
open Go.RowKit
attribute [local go_sem ↓] Go.wp_at_zero Go.wp_at_succ

def sucP (A : List (List Int)) : List (Int × Int) := (List.range A.length).flatMap fun v => (List.range (rowOf A v).length).map fun k => (ge (rowOf A v) k, ge (rowOf A v) ((k + 1) % (rowOf A v).length))
/-- The dart behind e in the list that has it. -/
def sucF (A : List (List Int)) (e : Int) : Int := match (sucP A).find? (fun q => q.1 == e) with | some q => q.2 | none => 0
/-- The other dart of the edge. -/
def oth (d : Int) : Int := if d % 2 = 0 then d + 1 else d - 1
theorem oth_oth (d : Int) : oth (oth d) = d := by unfold oth; split <;> split <;> omega
theorem oth_in {d : Int} {M : Nat} (h0 : 0 ≤ d) (h1 : d < 2 * M) : 0 ≤ oth d ∧ oth d < 2 * M := by unfold oth; split <;> omega

theorem range_ge (xs : List Int) : (List.range xs.length).map (fun k => ge xs k) = xs := by
  refine List.ext_getElem (by simp) fun i h1 h2 => ?_
  simp [ge, h2]
theorem sucP_keys (A : List (List Int)) : (sucP A).map (·.1) = (pre A A.length).map (·.2) := by
  unfold sucP pre
  rw [List.map_flatMap, List.map_flatMap]
  congr 1
  funext v
  rw [List.map_map, List.map_map]
  show (List.range (rowOf A v).length).map (fun k => ge (rowOf A v) k) = (rowOf A v).map (fun d => d)
  rw [range_ge, List.map_id']
theorem find_key : ∀ {L : List (Int × Int)} {a b : Int}, (L.map (·.1)).Nodup → (a, b) ∈ L → L.find? (fun q => q.1 == a) = some (a, b)
  | [], _, _, _, h => by cases h
  | q :: L, a, b, hn, h => by
    rw [List.map_cons, List.nodup_cons] at hn
    rcases List.mem_cons.1 h with h | h
    · subst h; simp
    · have hne : q.1 ≠ a := fun e => hn.1 (by rw [e]; exact List.mem_map.2 ⟨_, h, rfl⟩)
      rw [List.find?_cons_of_neg (by simpa using hne)]
      exact find_key hn.2 h
theorem suc_of {N : Int} {E : List (Int × Int)} {A : List (List Int)} (hV : vRot N E A) {v k : Nat} (hv : v < A.length) (hk : k < (rowOf A v).length) : sucF A (ge (rowOf A v) k) = ge (rowOf A v) ((k + 1) % (rowOf A v).length) := by
  have h := find_key (L := sucP A) (a := ge (rowOf A v) k) (b := ge (rowOf A v) ((k + 1) % (rowOf A v).length)) (by rw [sucP_keys]; exact hV.nd)
    (List.mem_flatMap.2 ⟨v, List.mem_range.2 hv, List.mem_map.2 ⟨k, List.mem_range.2 hk, rfl⟩⟩)
  unfold sucF
  rw [h]

theorem mem_pre {A : List (List Int)} {q : Nat × Int} : q ∈ pre A A.length ↔ ∃ k, q.1 < A.length ∧ k < (rowOf A q.1).length ∧ ge (rowOf A q.1) k = q.2 := by
  unfold pre
  rw [List.mem_flatMap]
  constructor
  · rintro ⟨v, hv, hq⟩
    obtain ⟨d, hd, rfl⟩ := List.mem_map.1 hq
    obtain ⟨k, hk, rfl⟩ := List.getElem_of_mem hd
    exact ⟨k, List.mem_range.1 hv, hk, ge_eq _ hk⟩
  · rintro ⟨k, h1, h2, h3⟩
    exact ⟨q.1, List.mem_range.2 h1, List.mem_map.2 ⟨q.2, by rw [← h3]; exact ge_mem h2, rfl⟩⟩
theorem perm_of_nodup {L : List Nat} (hL : L.Nodup) : ∀ {l : List Nat}, l.Nodup → (∀ x ∈ l, x ∈ L) → l.length = L.length → ∀ y ∈ L, y ∈ l := by
  intro l hl hs he y hy
  refine Classical.byContradiction fun hn => ?_
  have h1 : (y :: l).Nodup := List.nodup_cons.2 ⟨hn, hl⟩
  have h2 : ∀ x ∈ y :: l, x ∈ L := fun x hx => (List.mem_cons.1 hx).elim (fun e => e ▸ hy) (hs x)
  have h3 := List.Nodup.length_le_of_subset h1 h2
  rw [List.length_cons] at h3
  omega
/-- Every dart lies in exactly the list of its tail. -/
theorem dart_pos {N : Int} {E : List (Int × Int)} {A : List (List Int)} (hV : vRot N E A) {e : Int} (h0 : 0 ≤ e) (h1 : e < 2 * E.length) : ∃ v k, v < A.length ∧ k < (rowOf A v).length ∧ ge (rowOf A v) k = e ∧ tailE E e = v := by
  have key : ∀ y ∈ List.range (2 * E.length), y ∈ ((pre A A.length).map (·.2)).map Int.toNat := by
    refine perm_of_nodup List.nodup_range ?_ (fun x hx => ?_) (by simp [hV.ln])
    · unfold List.Nodup
      rw [List.pairwise_map]
      refine List.Pairwise.imp_of_mem ?_ hV.nd
      intro a b ha hb hne e
      obtain ⟨q, hq, rfl⟩ := List.mem_map.1 ha
      obtain ⟨r, hr, rfl⟩ := List.mem_map.1 hb
      have := (hV.dr q hq).1
      have := (hV.dr r hr).1
      exact hne (by omega)
    · obtain ⟨a, ha, rfl⟩ := List.mem_map.1 hx
      obtain ⟨q, hq, rfl⟩ := List.mem_map.1 ha
      have h := hV.dr q hq
      have := h.1
      have := h.2.1
      rw [List.mem_range]
      omega
  obtain ⟨a, ha, hae⟩ := List.mem_map.1 (key e.toNat (by rw [List.mem_range]; omega))
  obtain ⟨q, hq, rfl⟩ := List.mem_map.1 ha
  have hd := hV.dr q hq
  have hqe : q.2 = e := by have := hd.1; omega
  obtain ⟨k, hk1, hk2, hk3⟩ := mem_pre.1 hq
  exact ⟨q.1, k, hk1, hk2, by rw [hk3, hqe], by rw [← hqe]; exact hd.2.2⟩
/-- A list of a valid system has no element twice. -/
theorem row_inj {N : Int} {E : List (Int × Int)} {A : List (List Int)} (hV : vRot N E A) {v : Nat} (hv : v < A.length) {i j : Nat} (hij : i < j) (hj : j < (rowOf A v).length) : ge (rowOf A v) i ≠ ge (rowOf A v) j := by
  obtain ⟨r, hr⟩ := preK_split A hv hj
  intro e
  have := hV.nd
  rw [hr, List.map_append, List.nodup_append] at this
  refine this.2.2 (ge (rowOf A v) i) ?_ _ (by simp) e
  unfold preK
  rw [List.map_append, List.map_map]
  refine List.mem_append_right _ (List.mem_map.2 ⟨ge (rowOf A v) i, ?_, rfl⟩)
  rw [List.mem_take_iff_getElem]
  exact ⟨i, by omega, (ge_eq _ (by omega)).symm⟩

set_option maxHeartbeats 1000000 in
theorem index_p (p : Option Addr) (n cap : Nat) (xs : List Int) (v : Int) (w : World) (hI : Ints w p xs) (hn : xs.length = n) :
    Calls Tryd.prog 42 #[.slice p n cap, .int .i64 v] w fun e w' => e = .returned (.int .i64 (idx v xs)) ∧ w = w' := by
  subst hn
  obtain ⟨hm, _, b, o, h3, h4⟩ := hI
  go_enter Tryd.func42, Tryd.ntmps42
  go_wp2
  go_loop [5, 8] (fun _ i => ∃ k : Nat, k ≤ xs.length ∧ i = .int .i64 k ∧ ∀ j, j < k → v ≠ ge xs j) (fun _ i => xs.length - (intOf i).toNat)
  case atStart => exact ⟨0, Nat.zero_le _, rfl, fun j hj => by omega⟩
  case round =>
    obtain ⟨k, hk, rfl, hall⟩ := hrel
    have Hall := Lib.hid hall
    clear hall
    by_cases hlt : k < xs.length
    · obtain ⟨rfl, hb⟩ := h3 (by omega)
      have hc := h4 k hlt
      clear h3 h4
      by_cases he : v = ge xs k
      · have Hf := Lib.hid (idx_first k hlt Hall.out he)
        have he' : (v == ge xs k) = true := beq_iff_eq.2 he
        clear he
        go_wp2
        go_ret
        exact ⟨ret_int Hf.out.symm, rfl⟩
      · have he' : (v == ge xs k) = false := beq_eq_false_iff_ne.2 he
        have He := Lib.hid he
        clear he
        go_wp2
        go_round
        case rel => exact ⟨k + 1, by omega, by go_num, fun j hj => by
          by_cases h : j = k
          · rw [h]; exact He.out
          · exact Hall.out j (by omega)⟩
        case measure => simp [intOf]; omega
    · have Hf := Lib.hid (idx_take_none (v := v) (xs := xs) (fun i hi => Hall.out i (by omega)))
      go_wp2
      go_ret
      exact ⟨ret_int Hf.out.symm, rfl⟩

theorem other_r (m : Nat) (w : World) (hm : m ≤ 1000000) : Calls Tryd.prog 48 #[.int .i64 m] w fun e w' => e = .returned (.int .i64 (oth m)) ∧ w = w' := by
  by_cases h : (m : Int) % 2 = 0
  · have Hf : Hid (oth m = m + 1) := Lib.hid (by unfold oth; rw [if_pos h])
    have h' : ((m : Int) % 2 == 0) = true := beq_iff_eq.2 h
    clear h
    go_enter Tryd.func48, Tryd.ntmps48
    go_wp2
    go_ret
    exact ⟨by rw [Hf.out]; rfl, rfl⟩
  · have Hf : Hid (oth m = m - 1) := Lib.hid (by unfold oth; rw [if_neg h])
    have h' : ((m : Int) % 2 == 0) = false := beq_eq_false_iff_ne.2 h
    have h1 : 1 ≤ m := by omega
    clear h
    go_enter Tryd.func48, Tryd.ntmps48
    go_wp2
    go_ret
    exact ⟨by rw [Hf.out]; rfl, rfl⟩

end Go.Proofs.YtdacnkjmimhcaaaDoor
