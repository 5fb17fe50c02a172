/- slices.Delete at the list of edges: one edge. -/
import Derived.Test.YtcahceceeeaeoaaDoorRotT
set_option linter.unusedSimpArgs false
set_option linter.unusedVariables false
namespace Go.Proofs.YtcahceceeeaeoaaDoor
open Go.RowKit
attribute [local go_sem ↓] Go.wp_at_zero Go.wp_at_succ

theorem run_clear_arc (w : World) (ty : TypeId) (b o c : Nat) (hc : ∀ j, j < 2 → (w.cell? ⟨b, o + j, none⟩).isSome = true) (hf : ∀ j, j < 2 → w.frozen? ⟨b, o + j, none⟩ = false) :
    (Builtin.clear_ #[22] ty #[.slice (some ⟨b, o, none⟩) 1 c]).run Tryd.prog w = .ok (.tuple #[]) (w.setCells b o [.int .i64 0, .int .i64 0]) := by
  have hz : ∀ w, (zeroValue 41).run Tryd.prog w = .ok (.agg #[.int .i64 0, .int .i64 0]) w := by
    intro w
    obtain ⟨i0, hi, hz0, hz1, hz2⟩ := info_parts Tryd.infoArc
    simp [zeroValue, typeInfo, hi, hz0]
  have hzc : (Builtin.zeroCells (Value.agg #[.int .i64 0, .int .i64 0]).cells 1).toList = [.int .i64 0, .int .i64 0] := (by kernel_rfl)
  have hst := run_storeCells_cells (P := Tryd.prog) b o [.int .i64 0, .int .i64 0] 0 w (by simpa using hc) (by simpa using hf) (by simp [Value.oneCell'])
  simp only [Nat.add_zero] at hst
  simp [Builtin.clear_, run_underlying Tryd.underlying22, hz, hzc, hst]

theorem prVs_erase (E : List (Int × Int)) {i : Nat} (hi : i < E.length) : prVs (E.eraseIdx i) = (prVs E).take (i * 2) ++ (prVs E).drop ((i + 1) * 2) := by
  rw [prVs_take E (by omega), prVs_drop E (by omega), ← prVs_app, List.eraseIdx_eq_take_drop_succ]

set_option maxHeartbeats 4000000 in
theorem del_arc (g n cap i k B : Nat) (E : List (Int × Int)) (w : World) (hO : Owns w B [⟨.slice (some ⟨g, 0, none⟩) n cap, 41, 2, n, prVs E⟩]) (hn : n = i + k + 1) (hE : E.length = n) :
    Calls Tryd.prog 36 #[.slice (some ⟨g, 0, none⟩) n cap, .int .i64 i, .int .i64 ((i : Int) + 1)] w fun e w' =>
      e = .returned (.slice (some ⟨g, 0, none⟩) (i + k) cap) ∧ w.grownBy w' (some g) ∧ Owns w' B [⟨.slice (some ⟨g, 0, none⟩) (i + k) cap, 41, 2, i + k, prVs (E.eraseIdx i)⟩] := by
  subst hn
  have hrow := hO.1 0 _ rfl
  obtain ⟨r1, r2⟩ := hrow
  rcases r2 with ⟨h2, _⟩ | ⟨g', cap', cur, hv', hb, hh, hle, hm, hsz, htk⟩
  · cases h2
  cases hv'
  dsimp only at hle htk hh hsz
  have hcl : (prVs E).length = (i + k + 1) * 2 := by rw [prVs_len, hE]
  -- the cells that are moved
  obtain ⟨news, hnews⟩ : ∃ news, news = (prVs E).drop ((i + 1) * 2) := ⟨_, rfl⟩
  have hlen : news.length = k * 2 := by rw [hnews, List.length_drop, hcl]; omega
  have hcell : ∀ (o : Nat) (x : Value), o < (i + k + 1) * 2 → (prVs E)[o]? = some x → w.cell? ⟨g, o, none⟩ = some x := by
    intro o x ho hx
    rw [cell_of_row w g o cur _ (0, 0) hh, ← Array.getElem?_toList]
    rw [← htk, List.getElem?_take, if_pos ho] at hx
    exact hx
  obtain ⟨A, hA, hsrc⟩ : ∃ A : Addr, (if cap = i + 1 then some (⟨g, 0, none⟩ : Addr) else some ⟨g, (i + 1) * 2, none⟩) = some A ∧ Hid (∀ t u, news[t]? = some u → w.drew.cell? (A.add t) = some u) := by
    by_cases h : cap = i + 1
    · refine ⟨⟨g, 0, none⟩, by simp [h], fun t u hu => ?_⟩
      have h0 : news.length = 0 := by rw [hlen]; omega
      rw [List.length_eq_zero_iff.1 h0] at hu
      simp at hu
    · refine ⟨⟨g, (i + 1) * 2, none⟩, by simp [h], fun t u hu => ?_⟩
      have ht := (List.getElem?_eq_some_iff.1 hu).1
      rw [hnews, List.getElem?_drop] at hu
      rw [Addr.add_lit]
      exact hcell _ _ (by omega) hu
  have s2 : Hid (∀ u ∈ news, u.oneCell' = true) := Lib.hid (fun u hu => prVs_one E u (by rw [hnews] at hu; exact List.mem_of_mem_drop hu))
  have s3 : Hid (∀ t, t < news.length → (w.drew.cell? ⟨g, 0 + i * 2 + t, none⟩).isSome = true ∧ w.drew.frozen? ⟨g, 0 + i * 2 + t, none⟩ = false) := Lib.hid (fun t ht => by
    rw [hlen] at ht
    have hlt : 0 + i * 2 + t < (prVs E).length := by omega
    refine ⟨?_, frozen_of_row w g _ cur _ hh⟩
    show (w.cell? _).isSome = true
    rw [hcell _ _ (by omega) (List.getElem?_eq_getElem hlt)]
    rfl)
  -- the worlds behind the append and behind the clearing
  have hh1 : w.drew.heap[g]? = some (.cells cur 41 (0, 0)) := hh
  have k1 := heap_setCells news (0 + i * 2) w.drew cur hh1 (by rw [hlen, hsz]; omega)
  have g1 := setCells_grownBy (g := g) news (0 + i * 2) w.drew
  obtain ⟨W1, hW1⟩ : ∃ W1, W1 = w.drew.setCells g (0 + i * 2) news := ⟨_, rfl⟩
  rw [← hW1] at k1 g1
  have hW : Hid (W1 = w.drew.setCells g (0 + i * 2) news) := hW1
  have hcur : (cur.toList.take (0 + i * 2) ++ news ++ cur.toList.drop (0 + i * 2 + news.length)).length = cap * 2 := by
    simp [hlen, hsz]
    omega
  have k2 := heap_setCells [.int .i64 0, .int .i64 0] ((i + k) * 2) W1 _ k1 (by simp only [List.length_cons, List.length_nil, List.size_toArray]; rw [hcur]; omega)
  have g2 := setCells_grownBy (g := g) [.int .i64 0, .int .i64 0] ((i + k) * 2) W1
  have hclr : ∀ ty, (Builtin.clear_ #[22] ty #[.slice (some ⟨g, (i + k) * 2, none⟩) 1 (cap - (i + k))]).run Tryd.prog W1 = .ok (.tuple #[]) (W1.setCells g ((i + k) * 2) [.int .i64 0, .int .i64 0]) :=
    fun ty => run_clear_arc W1 ty g _ _ (fun j hj => by
      rw [cell_of_row W1 g _ _ _ (0, 0) k1]
      have : (i + k) * 2 + j < ((cur.toList.take (0 + i * 2) ++ news ++ cur.toList.drop (0 + i * 2 + news.length)).toArray).size := by rw [List.size_toArray, hcur]; omega
      rw [Array.getElem?_eq_getElem this]
      rfl) (fun j hj => frozen_of_row W1 g _ _ _ k1)
  have Hfin : Hid (Owns (W1.setCells g ((i + k) * 2) [.int .i64 0, .int .i64 0]) B [⟨.slice (some ⟨g, 0, none⟩) (i + k) cap, 41, 2, i + k, prVs (E.eraseIdx i)⟩]) := Lib.hid (by
    refine Owns.cons (Owns.nil _ _) ⟨by rw [prVs_len, List.length_eraseIdx, if_pos (by omega)]; simp only []; omega, Or.inr ⟨g, cap, _, rfl, hb, k2, by simp only []; omega, hm, ?_, ?_⟩⟩ (fun k x h => by simp at h)
    · simp only [List.size_toArray, List.length_append, List.length_take, List.length_drop, hcur, List.length_cons, List.length_nil]
      omega
    · rw [prVs_erase E (by omega), ← hnews]
      have e1 : (prVs E).take (i * 2) = cur.toList.take (i * 2) := by
        rw [← htk, List.take_take, show min (i * 2) ((i + k + 1) * 2) = i * 2 by omega]
      rw [e1]
      rw [Nat.zero_add]
      have e2 : (cur.toList.take (i * 2) ++ news).length = (i + k) * 2 := by simp [hlen, hsz]; omega
      show List.take ((i + k) * 2) (List.take ((i + k) * 2) (cur.toList.take (i * 2) ++ news ++ cur.toList.drop (i * 2 + news.length)) ++ [Value.int .i64 0, Value.int .i64 0] ++ _) = _
      have e3 : List.take ((i + k) * 2) (cur.toList.take (i * 2) ++ news ++ cur.toList.drop (i * 2 + news.length)) = cur.toList.take (i * 2) ++ news := by rw [← e2]; exact List.take_left
      rw [e3, List.append_assoc, ← e2]
      exact List.take_left)
  have Hg : Hid (w.grownBy (W1.setCells g ((i + k) * 2) [.int .i64 0, .int .i64 0]) (some g)) := Lib.hid (by
    refine ⟨g2.os.trans g1.os, g2.tape.trans g1.tape, g2.output.trans g1.output, Nat.le_trans g1.size g2.size, fun j hj hne => (g2.block j (Nat.lt_of_lt_of_le hj g1.size) hne).trans (g1.block j hj hne)⟩)
  obtain ⟨i0, hi0, hz0, hz1, hz2⟩ := info_parts Tryd.infoArc
  have hc1 : ¬ cap = i + k := by omega
  have hc0 : ¬ cap = 0 := by omega
  have hic : i ≤ cap := by omega
  have hjc : i + 1 ≤ cap := by omega
  have q1 : (0 : Int) ≤ (i : Int) + 1 := by omega
  have q2 : (i : Int) ≤ (i : Int) + (k : Int) := by omega
  have hmx : cap ≤ 9223372036854775807 := by simp only [maxLen] at hm; omega
  have s1 : Hid (news.length = k * 2) := hlen
  clear hO r1 htk hh hsz hm hE hcl hnews hlen hcell hh1 k1 g1 hW1 hcur k2 g2 hb
  go_enter Tryd.func36, Tryd.ntmps36
  go_wp2_with fail
  go_region_law (refine step_append_room rfl (.tmp 22) (.tmp 25) 22 rfl 41 i0 2 Tryd.underlying22 hi0 hz1 g 0 i cap (by simp [Act.eval, Act.put]) A k (cap - (i + 1)) news (by simp [Act.eval, Act.put]) s1.out hsrc.out s2.out (by omega) s3.out ?_; rw [← hW.out])
  go_wp2
  go_ret
  exact ⟨rfl, Hg.out, Hfin.out⟩

end Go.Proofs.YtcahceceeeaeoaaDoor
