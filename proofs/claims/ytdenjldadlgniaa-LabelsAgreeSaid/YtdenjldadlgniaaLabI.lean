/- slices.Min; a list that is appended to a full slice; Clone of nothing. -/
import Derived.Test.YtdenjldadlgniaaLabH
set_option linter.unusedSimpArgs false
set_option linter.unusedVariables false
namespace Go.Proofs.Ytdenjldadlgniaa
open Go.RowKit
attribute [local go_sem ↓] Go.wp_at_zero Go.wp_at_succ

/-! ### The least of a list -/
def mnP (xs : List Int) : Nat → Int
  | 0 => ge xs 0
  | 1 => ge xs 0
  | j + 2 => mnI (mnP xs (j + 1)) (ge xs (j + 1))
theorem mnP_le (xs : List Int) : ∀ j, ∀ i, i < j → mnP xs j ≤ ge xs i
  | 0, i, h => by omega
  | 1, i, h => by
    have : i = 0 := by omega
    subst this
    exact Int.le_refl _
  | j + 2, i, h => by
    show mnI (mnP xs (j + 1)) (ge xs (j + 1)) ≤ _
    by_cases e : i = j + 1
    · subst e
      unfold mnI; split <;> omega
    · have := mnP_le xs (j + 1) i (by omega)
      unfold mnI; split <;> omega
theorem mnP_at (xs : List Int) : ∀ j, 0 < j → ∃ i, i < j ∧ mnP xs j = ge xs i
  | 0, h => by omega
  | 1, _ => ⟨0, by omega, rfl⟩
  | j + 2, _ => by
    obtain ⟨i, h1, h2⟩ := mnP_at xs (j + 1) (by omega)
    show ∃ i, i < j + 2 ∧ mnI (mnP xs (j + 1)) (ge xs (j + 1)) = ge xs i
    unfold mnI
    split
    · exact ⟨j + 1, by omega, rfl⟩
    · exact ⟨i, by omega, h2⟩
theorem mnL_at : ∀ {xs : List Int}, 0 < xs.length → ∃ i, i < xs.length ∧ mnL xs = ge xs i
  | [], h => by simp at h
  | [x], _ => ⟨0, by simp, rfl⟩
  | x :: y :: l, _ => by
    obtain ⟨i, h1, h2⟩ := mnL_at (xs := y :: l) (by simp)
    show ∃ i, i < (x :: y :: l).length ∧ mnI x (mnL (y :: l)) = ge (x :: y :: l) i
    unfold mnI
    split
    · exact ⟨i + 1, by simpa using h1, by rw [ge_cons_succ]; exact h2⟩
    · exact ⟨0, by simp, rfl⟩
theorem mnP_mnL {xs : List Int} (h : 0 < xs.length) : mnP xs xs.length = mnL xs := by
  obtain ⟨i, h1, h2⟩ := mnP_at xs xs.length h
  obtain ⟨j, h3, h4⟩ := mnL_at h
  have h5 := mnP_le xs xs.length j h3
  have h6 := mnL_le h1
  omega
theorem mnP_step (xs : List Int) {j : Nat} (h : 0 < j) : mnP xs (j + 1) = mnI (mnP xs j) (ge xs j) := by
  obtain ⟨k, rfl⟩ : ∃ k, j = k + 1 := ⟨j - 1, by omega⟩
  rfl

set_option maxHeartbeats 2000000 in
theorem min_p (p : Option Addr) (n cap : Nat) (xs : List Int) (w : World) (hI : Ints w p xs) (hn : xs.length = n) (h0 : 0 < n) :
    Calls Try.prog 30 #[.slice p n cap] w fun e w' => e = .returned (.int .i64 (mnL xs)) ∧ w = w' := by
  subst hn
  have hm := hI.1
  have Hr := Lib.hid hI.2.1
  obtain ⟨b, o, h3, h4⟩ := hI.open
  obtain ⟨rfl, hb⟩ := h3 h0
  have c0 := h4 0 h0
  rw [Nat.add_zero] at c0
  have h5 : ¬ xs.length < 1 := by omega
  have HS := Lib.hid (fun j (h : 0 < j) => mnP_step xs (j := j) h)
  have Hat := Lib.hid (mnP_at xs)
  have Hf := Lib.hid (mnP_mnL h0)
  have H4 := Lib.hid h4
  clear h4 hI h3
  go_enter Try.func30, Try.ntmps30
  go_wp2
  go_loop [3, 4] (fun s i => ∃ j : Nat, 0 < j ∧ j ≤ xs.length ∧ i = .int .i64 j ∧ s = .int .i64 (mnP xs j)) (fun _ i => xs.length - (intOf i).toNat)
  case atStart => exact ⟨1, by omega, by omega, rfl, rfl⟩
  case round =>
    obtain ⟨j, hj0, hj, rfl, rfl⟩ := hrel
    by_cases hlt : j < xs.length
    · have c1 := H4.out j hlt
      obtain ⟨m, hmE⟩ : ∃ m, mnP xs j = m := ⟨_, rfl⟩
      obtain ⟨v, hvE⟩ : ∃ v, ge xs j = v := ⟨_, rfl⟩
      have Hs : Hid (mnP xs (j + 1) = mnI m v) := Lib.hid (by rw [HS.out j hj0, hmE, hvE])
      rw [hmE]
      rw [hvE] at c1
      clear hmE hvE
      by_cases e : v < m
      · have Hm : Hid (mnP xs (j + 1) = v) := Lib.hid (by rw [Hs.out]; unfold mnI; rw [if_pos e])
        go_wp2
        go_round
        case rel => exact ⟨j + 1, by omega, by omega, by go_num, by rw [Hm.out]⟩
        case measure => simp [intOf]; omega
      · have Hm : Hid (mnP xs (j + 1) = m) := Lib.hid (by rw [Hs.out]; unfold mnI; rw [if_neg e])
        go_wp2
        go_round
        case rel => exact ⟨j + 1, by omega, by omega, by go_num, by rw [Hm.out]⟩
        case measure => simp [intOf]; omega
    · have hje : j = xs.length := by omega
      subst hje
      go_wp2
      go_ret
      exact ⟨ret_int Hf.out, rfl⟩
theorem min_e {p : Option Addr} {n cap : Nat} {xs : List Int} {w : World} {z : Int} (h : mnL xs = z) (hI : Ints w p xs) (hn : xs.length = n) (h0 : 0 < n) :
    Calls Try.prog 30 #[.slice p n cap] w fun e w' => e = .returned (.int .i64 z) ∧ w = w' := h ▸ min_p p n cap xs w hI hn h0

/-! ### An append to a slice that is full -/
theorem step_append_new {P : Program} {ops : Array Oper} {o : Oper} {a : Act} {K : Act → World → Prop} {Q : Exit → Act → World → Prop} {E : Prop} {w : World} (hgd : o.guard = none) (s x : Operand) (t : TypeId)
    (ho : o.op = .call { callee := .builtin .append, args := #[s, x], argTypes := #[t, t] }) (e : TypeId) (sz bytes : Nat) (z : Value) (ht : P.underlying t = some (.slice e))
    (hinfo : (P.info? e).map (fun i => (i.zero, i.size, i.bytes)) = some (some z, sz, bytes)) (hzs : z.cells.size = sz) (hpos : 0 < sz)
    (p : Option Addr) (n0 cap : Nat) (xs0 : List Value) (hl0 : xs0.length = n0 * sz) (hp : (p = none ∧ n0 = 0 ∧ cap = 0) ∨ ∃ ad, p = some ad ∧ cap = n0 ∧ ∀ j u, xs0[j]? = some u → w.cell? (ad.add j) = some u) (hs : a.eval s = .slice p n0 cap)
    (ad : Addr) (m c : Nat) (hx : a.eval x = .slice (some ad) m c) (news : List Value) (hn : news.length = m * sz) (hm : 0 < m)
    (hnews : ∀ j u, news[j]? = some u → w.cell? (ad.add j) = some u) (h1 : ∀ u ∈ news, u.oneCell' = true)
    (hlen : n0 + m ≤ maxLen) (hbytes : (n0 + m) * bytes ≤ 140737488355328)
    (h : ∀ v' w', Owns w' w.heap.size [⟨v', e, sz, n0 + m, xs0 ++ news⟩] → Grew w w' → K (a.put o.dst v') w') :
    if Region.wanted o (yielded ops a.tmps) = true then Oper.wp P o a w K Q else E := by
  rw [if_pos (by simp [Region.wanted, hgd])]
  obtain ⟨i0, hi, hz0, hz1, hz2⟩ := info_parts hinfo
  have fin : ∀ v' w', w'.ownsRow w.heap.size e sz v' (n0 + m) (xs0 ++ news) → w.grownBy w' none → K (a.put o.dst v') w' := fun v' w' r1 r2 =>
    h v' w' ((Owns.nil _ _).cons r1 (by intro k x hk; simp at hk)) (.of_below ⟨r2.os, r2.tape, r2.output, r2.size, fun k hk => r2.block k hk (by simp)⟩)
  rcases hp with ⟨rfl, rfl, rfl⟩ | ⟨b, rfl, rfl, hc⟩
  · have hx0 : xs0 = [] := List.length_eq_zero_iff.1 (by rw [hl0]; simp)
    subst hx0
    obtain ⟨v', w', hrun, r1, r2, r3⟩ := run_append_own (P := P) w w.heap.size t o.type e i0 z sz bytes ht hi hz0 hz1 hz2 hzs hpos (.slice none 0 0) 0 [] (World.ownsRow_nil w _ e sz) ad m c news hn hnews h1 hlen hbytes (Nat.le_refl _)
    unfold Oper.wp
    simp [execOp, ho, resolve, invoke, builtin, hs, hx, hrun, Result.andThen]
    exact fin v' w' r1 r2
  · obtain ⟨v', w', hrun, r1, r2⟩ := run_append_arg_grows (P := P) w t o.type e i0 z sz bytes ht hi hz0 hz1 hz2 hzs hpos b cap cap xs0 hl0 hc ad m c news hn hnews (by omega) hlen hbytes
    unfold Oper.wp
    simp [execOp, ho, resolve, invoke, builtin, hs, hx, hrun, Result.andThen]
    exact fin v' w' r1 r2
/-- Where a full slice may lie: nowhere, being empty, or at the start of a block that is not gs. -/
def Fst (gs : Nat) (p : Option Addr) (n : Nat) : Prop := (p = none ∧ n = 0) ∨ ∃ g, p = some ⟨g, 0, none⟩ ∧ 0 < n ∧ g ≠ gs
theorem Bxs.news {w : World} {p : Option Addr} {E : List Bx} (h : Bxs w p E) : ∀ b, p = some b → ∀ j u, (bxVs E)[j]? = some u → w.cell? (b.add j) = some u := by
  intro b hb j u hu
  have hj := (List.getElem?_eq_some_iff.1 hu).1
  rw [bxVs_len] at hj
  obtain ⟨_, b', o, h3, h4⟩ := h
  obtain ⟨e, _⟩ := h3 (by omega)
  rw [e] at hb
  cases hb
  obtain ⟨i, hi⟩ : ∃ i, j = i * 4 ∨ j = i * 4 + 1 ∨ j = i * 4 + 2 ∨ j = i * 4 + 3 := ⟨j / 4, by omega⟩
  obtain ⟨g1, g2, g3, g4⟩ := bxVs_get E i (by omega)
  obtain ⟨c1, c2, c3, c4⟩ := h4 i (by omega)
  rw [Addr.add_lit]
  rcases hi with rfl | rfl | rfl | rfl
  · rw [g1] at hu; cases hu; exact c1
  · rw [g2] at hu; cases hu; exact c2
  · rw [g3] at hu; cases hu; exact c3
  · rw [g4] at hu; cases hu; exact c4
theorem ints_of_owns {w : World} {B : Nat} {rs : List Row} {k : Nat} {v : Value} {e : TypeId} {n : Nat} {E : List Int} (h : Owns w B rs) (hk : rs[k]? = some ⟨v, e, 1, n, intVs E⟩) (hn : 0 < n) (h1 : n ≤ 1000) (hw : ∀ x ∈ E, -9223372036854775808 ≤ x ∧ x ≤ 9223372036854775807) :
    ∃ g cap, v = .slice (some ⟨g, 0, none⟩) n cap ∧ B ≤ g ∧ n ≤ cap ∧ cap ≤ maxLen ∧ Ints w (some ⟨g, 0, none⟩) E := by
  obtain ⟨e1, _⟩ := h.get hk
  rw [intVs_length, Nat.mul_one] at e1
  obtain ⟨g, cap, rfl, hB, hg, hle, hmx, _, hc⟩ := h.some hk hn
  refine ⟨g, cap, rfl, hB, hle, hmx, by omega, hw, g, 0, fun _ => ⟨rfl, hg⟩, fun i hi => ?_⟩
  rw [Nat.zero_add]
  refine hc i _ ?_
  unfold intVs
  rw [List.getElem?_map, List.getElem?_eq_getElem hi, ge_eq E hi]
  rfl
theorem Ints.news' {w : World} {p : Option Addr} {xs : List Int} (h : Ints w p xs) : ∀ b, p = some b → ∀ j u, (intVs xs)[j]? = some u → w.cell? (b.add j) = some u := by
  intro b hb
  subst hb
  exact h.news b rfl
/-- A number appended to a full slice. -/
theorem step_app_int {ops : Array Oper} {o : Oper} {a : Act} {K : Act → World → Prop} {Q : Exit → Act → World → Prop} {E : Prop} {w : World} (hgd : o.guard = none) (s x : Operand)
    (ho : o.op = .call { callee := .builtin .append, args := #[s, x], argTypes := #[24, 24] }) (gs : Nat) (hgs : gs < w.heap.size) (p p' : Option Addr) (n n' cap' : Nat) (xs : List Int) (hl : xs.length = n) (h8 : n ≤ 64)
    (hI : Ints w p xs) (hp : Fst gs p n) (hp' : p' = p) (hn' : n' = n) (hc' : cap' = n) (hs : a.eval s = .slice p' n' cap') (bq : Nat) (hx : a.eval x = .slice (some ⟨bq, 0, none⟩) 1 1) (y : Int) (hy : w.cell? ⟨bq, 0, none⟩ = some (.int .i64 y)) (hyr : -9223372036854775808 ≤ y ∧ y ≤ 9223372036854775807)
    (h : ∀ g c w', Ints w' (some ⟨g, 0, none⟩) (xs ++ [y]) → g ≠ gs → n + 1 ≤ c → c ≤ 9223372036854775807 → Grew w w' → K (a.put o.dst (.slice (some ⟨g, 0, none⟩) (n + 1) c)) w') :
    if Region.wanted o (yielded ops a.tmps) = true then Oper.wp Try.prog o a w K Q else E := by
  subst hp'; subst hn'; subst hc'
  refine step_append_new hgd s x 24 ho 3 1 8 (.int .i64 0) Try.underlying24 Try.infoInt rfl (by decide) p' cap' cap' (intVs xs) (by rw [intVs_length, hl, Nat.mul_one]) ?_ hs ⟨bq, 0, none⟩ 1 1 hx [.int .i64 y] rfl (by decide) (fun j u hu => ?_) (by simp [Value.oneCell']) (by simp only [maxLen]; omega) (by omega) ?_
  · rcases hp with ⟨h1, h2⟩ | ⟨g, h1, h2, h3⟩
    · exact Or.inl ⟨h1, h2, h2⟩
    · exact Or.inr ⟨_, h1, rfl, hI.news' _ h1⟩
  · match j, hu with
    | 0, hu => simp at hu; subst hu; exact hy
  · intro v' w' hO hg
    have e : intVs xs ++ [Value.int .i64 y] = intVs (xs ++ [y]) := by simp [intVs]
    rw [e] at hO
    obtain ⟨g, c, rfl, hB, h1, h2, h3⟩ := ints_of_owns hO (k := 0) rfl (by omega) (by omega) (by
      intro z hz
      rcases List.mem_append.1 hz with hz | hz
      · exact hI.2.1 z hz
      · simp at hz; subst hz; exact hyr)
    exact h g c w' h3 (by omega) h1 (by simp only [maxLen] at h2; omega) hg
/-- A box appended to a full slice. -/
theorem step_app_box {ops : Array Oper} {o : Oper} {a : Act} {K : Act → World → Prop} {Q : Exit → Act → World → Prop} {E : Prop} {w : World} (hgd : o.guard = none) (s x : Operand)
    (ho : o.op = .call { callee := .builtin .append, args := #[s, x], argTypes := #[35, 35] }) (gs : Nat) (hgs : gs < w.heap.size) (p p' : Option Addr) (n n' cap' : Nat) (xs : List Bx) (hl : xs.length = n) (h8 : n ≤ 64)
    (hI : Bxs w p xs) (hp : Fst gs p n) (hp' : p' = p) (hn' : n' = n) (hc' : cap' = n) (hs : a.eval s = .slice p' n' cap') (bq : Nat) (hx : a.eval x = .slice (some ⟨bq, 0, none⟩) 1 1) (c1 c2 c3 c4 : Int)
    (h0 : w.cell? ⟨bq, 0, none⟩ = some (.int .i64 c1)) (h1 : w.cell? ⟨bq, 1, none⟩ = some (.int .i64 c2)) (h2 : w.cell? ⟨bq, 2, none⟩ = some (.int .i64 c3)) (h3 : w.cell? ⟨bq, 3, none⟩ = some (.int .i64 c4))
    (h : ∀ g c w', Bxs w' (some ⟨g, 0, none⟩) (xs ++ [⟨c1, c2, c3, c4⟩]) → g ≠ gs → n + 1 ≤ c → c ≤ 9223372036854775807 → Grew w w' → K (a.put o.dst (.slice (some ⟨g, 0, none⟩) (n + 1) c)) w') :
    if Region.wanted o (yielded ops a.tmps) = true then Oper.wp Try.prog o a w K Q else E := by
  subst hp'; subst hn'; subst hc'
  refine step_append_new hgd s x 35 ho 39 4 32 (.agg #[.int .i64 0, .int .i64 0, .int .i64 0, .int .i64 0]) Try.underlying35 Try.infoBox rfl (by decide) p' cap' cap' (bxVs xs) (by rw [bxVs_len, hl]) ?_ hs ⟨bq, 0, none⟩ 1 1 hx [.int .i64 c1, .int .i64 c2, .int .i64 c3, .int .i64 c4] rfl (by decide) (four_news h0 h1 h2 h3 _ rfl) (by simp [Value.oneCell']) (by simp only [maxLen]; omega) (by omega) ?_
  · rcases hp with ⟨h1, h2⟩ | ⟨g, h1, h2, h3⟩
    · exact Or.inl ⟨h1, h2, h2⟩
    · exact Or.inr ⟨_, h1, rfl, hI.news _ h1⟩
  · intro v' w' hO hg
    have e : bxVs xs ++ [Value.int .i64 c1, .int .i64 c2, .int .i64 c3, .int .i64 c4] = bxVs (xs ++ [⟨c1, c2, c3, c4⟩]) := by simp [bxVs]
    rw [e] at hO
    obtain ⟨g, c, rfl, hB, hg2, hle, hmx, _, _⟩ := hO.some (k := 0) rfl (by omega)
    obtain ⟨q, cap, he, _, h5⟩ := bxs_of_owns hO (k := 0) rfl
    cases he
    exact h g c w' h5 (by omega) hle (by simp only [maxLen] at hmx; omega) hg
end Go.Proofs.Ytdenjldadlgniaa
