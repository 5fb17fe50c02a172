/- The residual network of the program. -/
import Derived.Test.YtnnlhmialmhpfaaFlJ
import Derived.Laws.EntriesVeiled
set_option linter.unusedSimpArgs false
set_option linter.unusedVariables false
namespace Go.Proofs.Ytnnlhmialmhpfaa
open Go.RowKit
attribute [local go_sem ↓] Go.wp_at_zero Go.wp_at_succ

theorem Try.infoStep : (Try.prog.info? 54).map (fun i => (i.zero, i.size, i.bytes)) = some (some (.agg #[.int .i64 0, .int .i64 0, .int .i64 0, .int .i64 0, .int .i64 0, .bool false]), 6, 48) := by kernel_rfl
/-- The cells of a step. -/
def st1 (A : List Ark) (f : List Int) (i : Nat) (b : Bool) : List Value := [.int .i64 (sF A i b : Int), .int .i64 (sT A i b : Int), .int .i64 (cst A i), .int .i64 (sR A f i b), .int .i64 (i : Int), .bool b]
def stVs (A : List Ark) (f : List Int) (L : List (Nat × Bool)) : List Value := L.flatMap fun x => st1 A f x.1 x.2
theorem stVs_app (A : List Ark) (f : List Int) (L M : List (Nat × Bool)) : stVs A f (L ++ M) = stVs A f L ++ stVs A f M := by simp [stVs]
theorem stVs_len (A : List Ark) (f : List Int) : ∀ L : List (Nat × Bool), (stVs A f L).length = L.length * 6
  | [] => rfl
  | x :: L => by
    have := stVs_len A f L
    simp only [stVs, List.flatMap_cons, List.length_append] at this ⊢
    rw [this]
    simp [st1]
    omega
theorem stVs_one (A : List Ark) (f : List Int) (L : List (Nat × Bool)) : ∀ u ∈ stVs A f L, u.oneCell' = true := by
  intro u hu
  obtain ⟨x, _, h⟩ := List.mem_flatMap.1 hu
  simp only [st1, List.mem_cons, List.not_mem_nil, or_false] at h
  rcases h with rfl | rfl | rfl | rfl | rfl | rfl <;> rfl
theorem stVs_get (A : List Ark) (f : List Int) : ∀ {L : List (Nat × Bool)} {t i : Nat} {b : Bool}, L[t]? = some (i, b) → ∀ k, k < 6 → (stVs A f L)[t * 6 + k]? = (st1 A f i b)[k]?
  | [], t, i, b, h, _, _ => by simp at h
  | x :: L, 0, i, b, h, k, hk => by
    simp at h
    subst h
    show (st1 A f i b ++ stVs A f L)[0 * 6 + k]? = _
    rw [Nat.zero_mul, Nat.zero_add, List.getElem?_append_left (by simp [st1]; exact hk)]
  | x :: L, t + 1, i, b, h, k, hk => by
    simp at h
    show (st1 A f x.1 x.2 ++ stVs A f L)[(t + 1) * 6 + k]? = _
    rw [List.getElem?_append_right (by simp [st1]; omega)]
    have e : (t + 1) * 6 + k - (st1 A f x.1 x.2).length = t * 6 + k := by simp [st1]; omega
    rw [e]
    exact stVs_get A f h k hk

set_option maxHeartbeats 1000000 in
theorem price_p (fr te co ro ar : Int) (b : Bool) (w : World) (hc : -1000 ≤ co ∧ co ≤ 1000) :
    Calls Try.prog 32 #[.agg #[.int .i64 fr, .int .i64 te, .int .i64 co, .int .i64 ro, .int .i64 ar, .bool b]] w fun e w' => e = .returned (.int .i64 (if b then -co else co)) ∧ Grew w w' := by
  obtain ⟨h1, h2⟩ := hc
  cases b
  · go_enter Try.func32, Try.ntmps32
    go_wp2
    go_ret
    exact ⟨rfl, by (repeat (first | exact Grew.refl _ | refine Grew.over ?_ _ | refine Grew.alloc ?_ _ | refine Grew.drew ?_ | refine Grew.drewN ?_ _))⟩
  · go_enter Try.func32, Try.ntmps32
    go_wp2
    go_ret
    exact ⟨rfl, by (repeat (first | exact Grew.refl _ | refine Grew.over ?_ _ | refine Grew.alloc ?_ _ | refine Grew.drew ?_ | refine Grew.drewN ?_ _))⟩

def fnV : Value := .func (.func 32) #[] #[]
abbrev stRow (v : Value) (A : List Ark) (f : List Int) (L : List (Nat × Bool)) : Row := ⟨v, 54, 6, L.length, stVs A f L⟩
abbrev reRow (R : Nat) (v : Value) : Row := ⟨.slice (some ⟨R, 0, none⟩) 2 2, 44, 1, 2, [v, .func (.func 32) #[] #[]]⟩

abbrev rsRow (B : Nat) : Row := ⟨.slice (some ⟨B, 0, none⟩) 2 2, 44, 1, 2, [.slice none 0 0, .nilFunc]⟩
theorem own_form {w : World} {B : Nat} {rs : List Row} {k sz n : Nat} {v : Value} {e : TypeId} {vs : List Value} (h : Owns w B rs) (hk : rs[k]? = some ⟨v, e, sz, n, vs⟩) : ∃ p c, v = .slice p n c := by
  rcases (h.get hk).2 with ⟨g1, g2⟩ | ⟨g, cap, g1, _⟩
  · exact ⟨none, 0, by rw [g1, g2]⟩
  · exact ⟨_, _, g1⟩
theorem one_news {w : World} {ad : Addr} (v : Value) (h : w.cell? (ad.add 0) = some v) : ∀ b, some ad = some b → ∀ j u, [v][j]? = some u → w.cell? (b.add j) = some u := by
  intro b hb j u hj
  cases hb
  cases j with
  | zero => simp at hj; subst hj; exact h
  | succ j => simp at hj
theorem six_news {w : World} {g : Nat} {a b c d e f : Value} (h0 : w.cell? ⟨g, 0, none⟩ = some a) (h1 : w.cell? ⟨g, 1, none⟩ = some b) (h2 : w.cell? ⟨g, 2, none⟩ = some c) (h3 : w.cell? ⟨g, 3, none⟩ = some d) (h4 : w.cell? ⟨g, 4, none⟩ = some e) (h5 : w.cell? ⟨g, 5, none⟩ = some f) :
    ∀ q, some (⟨g, 0, none⟩ : Addr) = some q → ∀ j u, [a, b, c, d, e, f][j]? = some u → w.cell? (q.add j) = some u := by
  intro q hq j u hj
  cases hq
  rw [Addr.add_lit, Nat.zero_add]
  match j, hj with
  | 0, hj => simp at hj; subst hj; exact h0
  | 1, hj => simp at hj; subst hj; exact h1
  | 2, hj => simp at hj; subst hj; exact h2
  | 3, hj => simp at hj; subst hj; exact h3
  | 4, hj => simp at hj; subst hj; exact h4
  | 5, hj => simp at hj; subst hj; exact h5

set_option maxHeartbeats 16000000 in
theorem rest_p (p q r : Option Addr) (n cp m cq k cr : Nat) (s : List Int) (A : List Ark) (f : List Int) (w : World) (hA : Arks w q A) (hF : Ints w r f) (hm : A.length = m) (hk : f.length = k) (hV : vN s A) (hfit : Fit A f) :
    Calls Try.prog 25 #[.agg #[.slice p n cp, .slice q m cq], .slice r k cr] w fun e w' => Grew w w' ∧ ∃ v, e = .returned (.agg #[v, .func (.func 32) #[] #[]]) ∧ Owns w' w.heap.size [stRow v A f (resL A f m)] := by
  subst hm hk
  have HA := Lib.hid hA
  have HF := Lib.hid hF
  have HV := Lib.hid hV
  have Hfit := Lib.hid hfit
  have h2048 := hV.m
  have Hl := Lib.hid hfit.l
  have ham := hA.1
  have hfm := hF.1
  clear hA hF hV hfit
  go_enter Try.func25, Try.ntmps25
  go_wp2
  obtain ⟨w0, hw0⟩ : ∃ w0, (((w.alloc (.cells #[.slice p n cp, .slice q A.length cq] 25)).alloc (.cells #[.slice none 0 0, .nilFunc] 44)).alloc (.cells #[.slice none 0 0, .func (.func 32) #[] #[]] 44)) = w0 := ⟨_, rfl⟩
  have hO0 : Owns w0 (w.heap.size + 1) [stRow (.slice none 0 0) A f (resL A f 0), reRow (w.heap.size + 1 + 1) (.slice none 0 0), rsRow (w.heap.size + 1)] := by
    rw [← hw0]
    refine Owns.none ?_ _ _
    have h1 := (Owns.nil (w.alloc (.cells #[.slice p n cp, .slice q A.length cq] 25)) (w.heap.size + 1)).made (by simp) #[.slice none 0 0, .nilFunc] 44 1 2 (w.heap.size + 1) rfl (by decide) (by simp)
    exact h1.made (by simp) #[.slice none 0 0, .func (.func 32) #[] #[]] 44 1 2 (w.heap.size + 1 + 1) rfl (by decide) (by simp)
  have hg0 : Grew w w0 := by rw [← hw0]; (repeat (first | exact Grew.refl _ | refine Grew.over ?_ _ | refine Grew.alloc ?_ _ | refine Grew.drew ?_ | refine Grew.drewN ?_ _))
  have HO0 := Lib.hid hO0
  have Hg0 := Lib.hid hg0
  rw [hw0]
  obtain ⟨R, hR⟩ : ∃ R, w.heap.size + 1 + 1 = R := ⟨_, rfl⟩
  rw [hR] at HO0 ⊢
  have HR := Lib.hid hR
  clear hw0 hO0 hg0 hR
  go_loopw [12] (fun v12 wr => ∃ (j : Nat) (pv : Option Addr) (cv : Nat), j ≤ A.length ∧ v12 = .int .i64 j ∧ Owns wr (w.heap.size + 1) [stRow (.slice pv (resL A f j).length cv) A f (resL A f j), reRow R (.slice pv (resL A f j).length cv), rsRow (w.heap.size + 1)] ∧ Grew w wr) (fun v12 _ => A.length - (intOf v12).toNat)
  case atStart => exact ⟨0, none, 0, Nat.zero_le _, rfl, HO0.out, Hg0.out⟩
  case round =>
    clear HO0 Hg0
    obtain ⟨j, pv, cv, hj, rfl, hO, hg⟩ := hrel
    have HO := Lib.hid hO
    have Hg := Lib.hid hg
    clear hO hg
    by_cases hlt : j < A.length
    · obtain ⟨b2, o2, rfl, hb2, c0, c1, c2, c3⟩ := (HA.out.grew Hg.out).open hlt
      have hjf : j < f.length := by have := Hl.out; omega
      obtain ⟨bf, of, hf3, hf4⟩ := HF.out.open
      obtain ⟨rfl, hbf0⟩ := hf3 (by omega)
      have df0 := Lib.hid (hf4 j hjf)
      have hfb := Hfit.out.b j hlt
      have hcb := (HV.out.a j hlt).2.2
      have hcap : (aK A j).cap = cap A j := rfl
      have hcos : (aK A j).cost = cst A j := rfl
      rw [HV.out.fr hlt] at c0
      rw [HV.out.ed hlt] at c1
      rw [hcap] at c2
      rw [hcos] at c3
      have Hlen := Lib.hid (resL_len A f j)
      have Hnx : Hid (resL A f (j + 1) = resL A f j ++ ((if ge f j < cap A j then [(j, false)] else []) ++ (if 0 < ge f j then [(j, true)] else []))) := Lib.hid rfl
      obtain ⟨L, hL⟩ : ∃ L, resL A f j = L := ⟨_, rfl⟩
      rw [hL] at HO Hlen Hnx
      obtain ⟨fj, hfj⟩ : ∃ x, ge f j = x := ⟨_, rfl⟩
      obtain ⟨cj, hcj⟩ : ∃ x, cap A j = x := ⟨_, rfl⟩
      obtain ⟨kj, hkj⟩ : ∃ x, cst A j = x := ⟨_, rfl⟩
      obtain ⟨u, hu⟩ : ∃ x, vF A j = x := ⟨_, rfl⟩
      obtain ⟨v, hv⟩ : ∃ x, vT A j = x := ⟨_, rfl⟩
      rw [hu] at c0
      rw [hv] at c1
      rw [hcj] at c2 hfb hcb
      rw [hkj] at c3 hcb
      rw [hfj] at df0 hfb
      have Hst0 : Hid (st1 A f j false = [.int .i64 (u : Int), .int .i64 (v : Int), .int .i64 kj, .int .i64 (cj - fj), .int .i64 (j : Int), .bool false]) := Lib.hid (by simp [st1, sF, sT, sR, hu, hv, hkj, hcj, hfj])
      have Hst1 : Hid (st1 A f j true = [.int .i64 (v : Int), .int .i64 (u : Int), .int .i64 kj, .int .i64 fj, .int .i64 (j : Int), .bool true]) := Lib.hid (by simp [st1, sF, sT, sR, hu, hv, hkj, hcj, hfj])
      rw [hfj, hcj] at Hnx
      have HL := Lib.hid hL
      clear hL hfj hcj hkj hu hv hf3 hf4 hcap hcos
      have hwr : IntKind.i64.wrap (cj - fj) = cj - fj := IntWalk.i64_in _ ⟨by omega, by omega⟩
      go_upto_region 5 with fail
      obtain ⟨w3, hw3⟩ : ∃ w3, wr.alloc (.cells #[.int .i64 (u : Int), .int .i64 (v : Int), .int .i64 cj, .int .i64 kj] 36) = w3 := ⟨_, rfl⟩
      obtain ⟨aw, haw⟩ : ∃ aw, wr.heap.size = aw := ⟨_, rfl⟩
      have z0 : w3.cell? ⟨aw, 0, none⟩ = some (.int .i64 (u : Int)) := by rw [← hw3, ← haw]; simp [go_sem]
      have z1 : w3.cell? ⟨aw, 1, none⟩ = some (.int .i64 (v : Int)) := by rw [← hw3, ← haw]; simp [go_sem]
      have z2 : w3.cell? ⟨aw, 2, none⟩ = some (.int .i64 cj) := by rw [← hw3, ← haw]; simp [go_sem]
      have z3 : w3.cell? ⟨aw, 3, none⟩ = some (.int .i64 kj) := by rw [← hw3, ← haw]; simp [go_sem]
      have hg3 : Grew wr w3 := by rw [← hw3]; (repeat (first | exact Grew.refl _ | refine Grew.over ?_ _ | refine Grew.alloc ?_ _ | refine Grew.drew ?_ | refine Grew.drewN ?_ _))
      have ha3 : aw < w3.heap.size := by rw [← hw3, ← haw]; simp
      have HO3 : Hid (Owns w3 (w.heap.size + 1) [⟨.slice (some ⟨aw, 0, none⟩) 4 4, 36, 1, 4, [.int .i64 (u : Int), .int .i64 (v : Int), .int .i64 cj, .int .i64 kj]⟩, stRow (.slice pv L.length cv) A f L, reRow R (.slice pv L.length cv), rsRow (w.heap.size + 1)]) := Lib.hid (by rw [← hw3]; exact HO.out.made (by have := own_lt HO.out (j := 2) rfl; omega) #[.int .i64 (u : Int), .int .i64 (v : Int), .int .i64 cj, .int .i64 kj] 36 1 4 aw rfl (by decide) haw.symm)
      have Hg3 := Lib.hid (Hg.out.trans hg3)
      have df := Hg3.out.cellEq df0.out
      have hbf3 := Nat.lt_of_lt_of_le hbf0 Hg3.out.below.size
      rw [hw3, haw]
      clear hw3 haw hg3 c0 c1 c2 c3 HO Hg hb2
      refine wp_region_over (by kernel_rfl) (by kernel_rfl) ?_; (repeat (go_big_quiet_step (fail))); refine wpQuiet_nil ?_; intro w4 hW; replace hW : Grew _ w4 := hW
      have HO4 := Lib.hid (HO3.out.grew hW)
      have Hg4 := Lib.hid (Hg3.out.trans hW)
      replace z0 := hW.cellEq z0
      replace z1 := hW.cellEq z1
      replace z2 := hW.cellEq z2
      replace z3 := hW.cellEq z3
      replace df := hW.cellEq df
      have ha4 := Nat.lt_of_lt_of_le ha3 hW.below.size
      have hbf4 := Nat.lt_of_lt_of_le hbf3 hW.below.size
      clear hW HO3 Hg3 ha3 hbf3
      go_upto_if 23 with fail
      go_cut [6] (fun v6 wx => v6 = .int .i64 j ∧ ∃ (pv' : Option Addr) (cv' : Nat), Owns wx (w.heap.size + 1) [⟨.slice (some ⟨aw, 0, none⟩) 4 4, 36, 1, 4, [.int .i64 (u : Int), .int .i64 (v : Int), .int .i64 cj, .int .i64 kj]⟩, stRow (.slice pv' (L ++ (if fj < cj then [(j, false)] else [])).length cv') A f (L ++ (if fj < cj then [(j, false)] else [])), reRow R (.slice pv' (L ++ (if fj < cj then [(j, false)] else [])).length cv'), rsRow (w.heap.size + 1)] ∧ Grew w wx)
      case first =>
        by_cases hfc : fj < cj
        · have hfc0 := hfc
          have r0 := (own_blk HO4.out (j := 2) rfl).2.2.2.2 0 _ rfl
          have hLl := Hlen.out
          have hsw := Hg4.out.below.size
          go_upto_region 6 with fail
          refine wp_region_T (s := 20) (S := fun w' => w'.cell? ⟨R, 0, none⟩ = some (.slice pv L.length cv) ∧ w'.cell? ⟨aw, 0, none⟩ = some (.int .i64 (u : Int)) ∧ w'.cell? ⟨aw, 1, none⟩ = some (.int .i64 (v : Int)) ∧ w'.cell? ⟨aw, 2, none⟩ = some (.int .i64 cj) ∧ w'.cell? ⟨aw, 3, none⟩ = some (.int .i64 kj) ∧ w'.cell? ⟨bf, of + j, none⟩ = some (.int .i64 fj)) (by kernel_rfl) ⟨r0, z0, z1, z2, z3, df⟩ (fun hH => ?_)
          refine wpAnyT_takeL (i := 0) (v := ?_) rfl (by kernel_rfl) (by kernel_rfl) (by kernel_rfl) (by kernel_rfl) (fun _ _ _ h => h) (Or.inl ⟨by rfl, ?_⟩) (by assumption) ?_
          rotate_left
          · (intro w hSw; (try dsimp only at hSw); go_simp; (try with_reducible rfl))
          (try simp only [Act.put, List.setIfInBounds_toArray, List.set_cons_zero, List.set_cons_succ])
          refine wpAnyT_takeL (i := 1) (v := ?_) rfl (by kernel_rfl) (by kernel_rfl) (by kernel_rfl) (by kernel_rfl) (fun _ _ _ h => h) (Or.inl ⟨by rfl, ?_⟩) (by assumption) ?_
          rotate_left
          · (intro w hSw; (try dsimp only at hSw); go_simp; (try with_reducible rfl))
          (try simp only [Act.put, List.setIfInBounds_toArray, List.set_cons_zero, List.set_cons_succ])
          refine wpAnyT_takeL (i := 2) (v := ?_) rfl (by kernel_rfl) (by kernel_rfl) (by kernel_rfl) (by kernel_rfl) (fun _ _ _ h => h) (Or.inl ⟨by rfl, ?_⟩) (by assumption) ?_
          rotate_left
          · (intro w hSw; (try dsimp only at hSw); go_simp; (try with_reducible rfl))
          (try simp only [Act.put, List.setIfInBounds_toArray, List.set_cons_zero, List.set_cons_succ])
          refine wpAnyT_takeL (i := 3) (v := ?_) rfl (by kernel_rfl) (by kernel_rfl) (by kernel_rfl) (by kernel_rfl) (fun _ _ _ h => h) (Or.inl ⟨by rfl, ?_⟩) (by assumption) ?_
          rotate_left
          · (intro w hSw; (try dsimp only at hSw); go_simp; (try with_reducible rfl))
          (try simp only [Act.put, List.setIfInBounds_toArray, List.set_cons_zero, List.set_cons_succ])
          refine wpAnyT_takeL (i := 4) (v := ?_) rfl (by kernel_rfl) (by kernel_rfl) (by kernel_rfl) (by kernel_rfl) (fun _ _ _ h => h) (Or.inl ⟨by rfl, ?_⟩) (by assumption) ?_
          rotate_left
          · (intro w hSw; (try dsimp only at hSw); go_simp; (try with_reducible rfl))
          (try simp only [Act.put, List.setIfInBounds_toArray, List.set_cons_zero, List.set_cons_succ])
          refine wpAnyT_takeL (i := 5) (v := ?_) rfl (by kernel_rfl) (by kernel_rfl) (by kernel_rfl) (by kernel_rfl) (fun _ _ _ h => h) (Or.inl ⟨by rfl, ?_⟩) (by assumption) ?_
          rotate_left
          · (intro w hSw; (try dsimp only at hSw); go_simp; (try with_reducible rfl))
          (try simp only [Act.put, List.setIfInBounds_toArray, List.set_cons_zero, List.set_cons_succ])
          refine wpAnyT_takeL (i := 6) (v := ?_) rfl (by kernel_rfl) (by kernel_rfl) (by kernel_rfl) (by kernel_rfl) (fun _ _ _ h => h) (Or.inl ⟨by rfl, ?_⟩) (by assumption) ?_
          rotate_left
          · (intro w hSw; (try dsimp only at hSw); go_simp; (try with_reducible rfl))
          (try simp only [Act.put, List.setIfInBounds_toArray, List.set_cons_zero, List.set_cons_succ])
          refine wpAnyT_takeL (i := 7) (v := ?_) rfl (by kernel_rfl) (by kernel_rfl) (by kernel_rfl) (by kernel_rfl) (fun _ _ _ h => h) (Or.inl ⟨by rfl, ?_⟩) (by assumption) ?_
          rotate_left
          · (intro w hSw; (try dsimp only at hSw); go_simp; (try with_reducible rfl))
          (try simp only [Act.put, List.setIfInBounds_toArray, List.set_cons_zero, List.set_cons_succ])
          refine wpAnyT_takeL (i := 8) (v := ?_) rfl (by kernel_rfl) (by kernel_rfl) (by kernel_rfl) (by kernel_rfl) (fun _ _ _ h => h) (Or.inl ⟨by rfl, ?_⟩) (by assumption) ?_
          rotate_left
          · (intro w hSw; (try dsimp only at hSw); go_simp; (try with_reducible rfl))
          (try simp only [Act.put, List.setIfInBounds_toArray, List.set_cons_zero, List.set_cons_succ])
          refine wpAnyT_takeL (i := 9) (v := ?_) rfl (by kernel_rfl) (by kernel_rfl) (by kernel_rfl) (by kernel_rfl) (fun _ _ _ h => h) (Or.inl ⟨by rfl, ?_⟩) (by assumption) ?_
          rotate_left
          · (intro w hSw; (try dsimp only at hSw); go_simp; (try with_reducible rfl))
          (try simp only [Act.put, List.setIfInBounds_toArray, List.set_cons_zero, List.set_cons_succ])
          refine wpAnyT_takeL (i := 10) (v := ?_) rfl (by kernel_rfl) (by kernel_rfl) (by kernel_rfl) (by kernel_rfl) (fun _ _ _ h => h) (Or.inl ⟨by rfl, ?_⟩) (by assumption) ?_
          rotate_left
          · (intro w hSw; (try dsimp only at hSw); go_simp; (try with_reducible rfl))
          (try simp only [Act.put, List.setIfInBounds_toArray, List.set_cons_zero, List.set_cons_succ])
          refine wpAnyT_takeL (i := 11) (v := ?_) rfl (by kernel_rfl) (by kernel_rfl) (by kernel_rfl) (by kernel_rfl) (fun _ _ _ h => h) (Or.inl ⟨by rfl, ?_⟩) (by assumption) ?_
          rotate_left
          · (intro w hSw; (try dsimp only at hSw); go_simp; (try with_reducible rfl))
          (try simp only [Act.put, List.setIfInBounds_toArray, List.set_cons_zero, List.set_cons_succ])
          refine wpAnyT_takeL (i := 12) (v := ?_) rfl (by kernel_rfl) (by kernel_rfl) (by kernel_rfl) (by kernel_rfl) (fun _ _ _ h => h) (Or.inl ⟨by rfl, ?_⟩) (by assumption) ?_
          rotate_left
          · (intro w hSw; (try dsimp only at hSw); go_simp; (try with_reducible rfl))
          (try simp only [Act.put, List.setIfInBounds_toArray, List.set_cons_zero, List.set_cons_succ])
          refine wpAnyT_takeL (i := 13) (v := ?_) rfl (by kernel_rfl) (by kernel_rfl) (by kernel_rfl) (by kernel_rfl) (fun _ _ _ h => h) (Or.inl ⟨by rfl, ?_⟩) (by assumption) ?_
          rotate_left
          · (intro w hSw; (try dsimp only at hSw); go_simp; (try with_reducible rfl))
          (try simp only [Act.put, List.setIfInBounds_toArray, List.set_cons_zero, List.set_cons_succ])
          refine wpAnyT_takeL (i := 14) (v := ?_) rfl (by kernel_rfl) (by kernel_rfl) (by kernel_rfl) (by kernel_rfl) (fun _ _ _ h => h) (Or.inl ⟨by rfl, ?_⟩) (by assumption) ?_
          rotate_left
          · (intro w hSw; (try dsimp only at hSw); go_simp; (try with_reducible rfl))
          (try simp only [Act.put, List.setIfInBounds_toArray, List.set_cons_zero, List.set_cons_succ])
          refine wpAnyT_takeL (i := 15) (v := ?_) rfl (by kernel_rfl) (by kernel_rfl) (by kernel_rfl) (by kernel_rfl) (fun _ _ _ h => h) (Or.inl ⟨by rfl, ?_⟩) (by assumption) ?_
          rotate_left
          · (intro w hSw; (try dsimp only at hSw); go_simp; (try with_reducible rfl))
          (try simp only [Act.put, List.setIfInBounds_toArray, List.set_cons_zero, List.set_cons_succ])
          refine wpAnyT_takeL (i := 16) (v := ?_) rfl (by kernel_rfl) (by kernel_rfl) (by kernel_rfl) (by kernel_rfl) (fun _ _ _ h => h) (Or.inl ⟨by rfl, ?_⟩) (by assumption) ?_
          rotate_left
          · (intro w hSw; (try dsimp only at hSw); go_simp; (try with_reducible rfl))
          (try simp only [Act.put, List.setIfInBounds_toArray, List.set_cons_zero, List.set_cons_succ])
          refine wpAnyT_all (rs := [17]) (by kernel_rfl) (by simp) (AllT.consL (i := 17) rfl (fun K hK => ?_) AllT.nil)
          go_simp
          refine hK.out _ _ ?_ (fun hH => ?_)
          · (first | (simp [go_sem, ↓IntWalk.iteOmega, *]; done) | go_keep)
          clear hK K
          (try simp only [Act.put, List.setIfInBounds_toArray, List.set_cons_zero, List.set_cons_succ])
          refine wpAnyT_all (rs := [18]) (by kernel_rfl) (by simp) (AllT.consL (i := 18) rfl (fun K hK => ?_) AllT.nil)
          refine step_append_owns rfl _ _ 41 (by rfl) 54 6 48 (.agg #[.int .i64 0, .int .i64 0, .int .i64 0, .int .i64 0, .int .i64 0, .bool false]) Try.underlying41 Try.infoStep rfl (by decide) (w.heap.size + 1) _ 1 _ _ _ (HO4.out.grew (by (repeat (first | exact Grew.refl _ | refine Grew.over ?_ _ | refine Grew.alloc ?_ _ | refine Grew.drew ?_ | refine Grew.drewN ?_ _)))) rfl (by rfl) _ 1 1 (by rfl) [.int .i64 (u : Int), .int .i64 (v : Int), .int .i64 kj, .int .i64 (cj - fj), .int .i64 (j : Int), .bool false] rfl (fun h => by cases h) (six_news (by (simp [go_sem, ↓IntWalk.iteOmega])) (by (simp [go_sem, ↓IntWalk.iteOmega])) (by (simp [go_sem, ↓IntWalk.iteOmega])) (by (simp [go_sem, ↓IntWalk.iteOmega])) (by (simp [go_sem, ↓IntWalk.iteOmega])) (by (simp [go_sem, ↓IntWalk.iteOmega]))) (by simp [Value.oneCell']) (by simp only [maxLen]; omega) (by omega) (by first | rfl | omega | (simp <;> omega)) ?_
          intro v1 w6 hO1 hg1 hb1 _
          obtain ⟨p1, c1, rfl⟩ := own_form hO1 (k := 1) rfl
          have hba := own_blk hO1 (j := 0) rfl
          have q0 := hba.2.2.2.2 0 _ rfl
          have q1 := hba.2.2.2.2 1 _ rfl
          have q2 := hba.2.2.2.2 2 _ rfl
          have q3 := hba.2.2.2.2 3 _ rfl
          have q4 : w6.cell? ⟨bf, of + j, none⟩ = some (.int .i64 fj) := by
            rw [grownBy_cell hg1 (of + j) (by simp; omega) (fun g hg e => by have := hb1 g hg; omega)]
            exact Grew.cellEq (by (repeat (first | exact Grew.refl _ | refine Grew.over ?_ _ | refine Grew.alloc ?_ _ | refine Grew.drew ?_ | refine Grew.drewN ?_ _))) df
          have hbk := own_blk hO1 (j := 2) rfl
          have q5 := hbk.2.2.2.2 0 _ rfl
          have q6 := hbk.2.2.2.1 0
          have q7 := hbk.2.2.1
          refine hK.out _ _ ⟨q5, q0, q1, q2, q3, q4⟩ (fun hH => ?_)
          clear hK K
          (try simp only [Act.put, List.setIfInBounds_toArray, List.set_cons_zero, List.set_cons_succ])
          have Hg6 := Lib.hid (Grew.grownBy (w0 := w) (Hg4.out.trans (by (repeat (first | exact Grew.refl _ | refine Grew.over ?_ _ | refine Grew.alloc ?_ _ | refine Grew.drew ?_ | refine Grew.drewN ?_ _)))) hg1 (fun k hk => by have := hb1 k hk; omega))
          have HO6 := Lib.hid hO1
          clear hO1 hg1 hb1 hba hbk
          refine wpAnyT_takeL (i := 19) (v := ?_) rfl (by kernel_rfl) (by kernel_rfl) (by kernel_rfl) (by kernel_rfl) (fun _ _ _ h => h) (Or.inl ⟨by rfl, ?_⟩) (by assumption) ?_
          rotate_left
          · (intro w hSw; (try dsimp only at hSw); go_simp; (try with_reducible rfl))
          (try simp only [Act.put, List.setIfInBounds_toArray, List.set_cons_zero, List.set_cons_succ])
          refine wpAnyT_all (rs := [20]) (by kernel_rfl) (by simp) (AllT.lastL rfl (fun K hK => ?_))
          go_simp
          refine hK.out _ _ ?_
          clear hK K
          (try simp only [Act.put, List.setIfInBounds_toArray, List.set_cons_zero, List.set_cons_succ])
          refine wpAnyT_done (by kernel_rfl) ?_ _
          have HO7 := Lib.hid (HO6.out.set (k := 2) rfl 0 (.slice p1 (L.length + 1) c1))
          have Hg7 := Lib.hid (HO6.out.setGrew (w0 := w) (Nat.le_succ _) Hg6.out (k := 2) rfl 0 (.slice p1 (L.length + 1) c1))
          have hlA : (L ++ [(j, false)]).length = L.length + 1 := by rw [List.length_append, List.length_singleton]
          have hsA : stVs A f (L ++ [(j, false)]) = stVs A f L ++ [.int .i64 (u : Int), .int .i64 (v : Int), .int .i64 kj, .int .i64 (cj - fj), .int .i64 (j : Int), .bool false] := by rw [stVs_app]; show _ ++ (st1 A f j false ++ []) = _; rw [List.append_nil, Hst0.out]
          have HlA := Lib.hid hlA
          have HsA := Lib.hid hsA
          clear hlA hsA
          go_wp2_with fail
          go_meet
          have e : L ++ (if fj < cj then [(j, false)] else []) = L ++ [(j, false)] := by rw [if_pos hfc]
          rw [e, HlA.out]
          refine ⟨rfl, p1, c1, ?_, Hg7.out⟩
          have h := HO7.out
          unfold stRow
          rw [HsA.out, HlA.out]
          exact h
        · go_wp2_with fail
          go_meet
          have e : L ++ (if fj < cj then [(j, false)] else []) = L := by rw [if_neg (by omega), List.append_nil]
          rw [e]
          exact ⟨rfl, pv, cv, HO4.out, Hg4.out⟩
      case rest =>
        clear z0 z1 z2 z3 df ha4 hbf4 HO4 Hg4
        obtain ⟨rfl, pv2, cv2, hO5, hg5⟩ := hcut
        obtain ⟨L2, hL2⟩ : ∃ L2, L ++ (if fj < cj then [(j, false)] else []) = L2 := ⟨_, rfl⟩
        rw [hL2] at hO5
        have HL2 : Hid (resL A f (j + 1) = L2 ++ (if 0 < fj then [(j, true)] else [])) := Lib.hid (by rw [Hnx.out, ← hL2, List.append_assoc])
        replace Hlen : Hid (L2.length ≤ 2 * j + 1) := Lib.hid (by
          have := Hlen.out
          rw [← hL2, List.length_append]
          split <;> simp <;> omega)
        have HO5 := Lib.hid hO5
        have Hg5 := Lib.hid hg5
        clear hL2 hO5 hg5
        have df := Hg5.out.cellEq df0.out
        have hbf5 := Nat.lt_of_lt_of_le hbf0 Hg5.out.below.size
        have hba5 := own_blk HO5.out (j := 0) rfl
        have ha5 := hba5.2.2.1
        have z0 := hba5.2.2.2.2 0 _ rfl
        have z1 := hba5.2.2.2.2 1 _ rfl
        have z3 := hba5.2.2.2.2 3 _ rfl
        clear hba5
        by_cases hf0 : 0 < fj
        · have hf00 := hf0
          have r0 := (own_blk HO5.out (j := 2) rfl).2.2.2.2 0 _ rfl
          have hLl := Hlen.out
          have hsw := Hg5.out.below.size
          go_upto_region 8 with fail
          refine wp_region_T (s := 17) (S := fun w' => w'.cell? ⟨R, 0, none⟩ = some (.slice pv2 L2.length cv2) ∧ w'.cell? ⟨aw, 0, none⟩ = some (.int .i64 (u : Int)) ∧ w'.cell? ⟨aw, 1, none⟩ = some (.int .i64 (v : Int)) ∧ w'.cell? ⟨aw, 3, none⟩ = some (.int .i64 kj) ∧ w'.cell? ⟨bf, of + j, none⟩ = some (.int .i64 fj)) (by kernel_rfl) ⟨r0, z0, z1, z3, df⟩ (fun hH => ?_)
          refine wpAnyT_takeL (i := 0) (v := ?_) rfl (by kernel_rfl) (by kernel_rfl) (by kernel_rfl) (by kernel_rfl) (fun _ _ _ h => h) (Or.inl ⟨by rfl, ?_⟩) (by assumption) ?_
          rotate_left
          · (intro w hSw; (try dsimp only at hSw); go_simp; (try with_reducible rfl))
          (try simp only [Act.put, List.setIfInBounds_toArray, List.set_cons_zero, List.set_cons_succ])
          refine wpAnyT_takeL (i := 1) (v := ?_) rfl (by kernel_rfl) (by kernel_rfl) (by kernel_rfl) (by kernel_rfl) (fun _ _ _ h => h) (Or.inl ⟨by rfl, ?_⟩) (by assumption) ?_
          rotate_left
          · (intro w hSw; (try dsimp only at hSw); go_simp; (try with_reducible rfl))
          (try simp only [Act.put, List.setIfInBounds_toArray, List.set_cons_zero, List.set_cons_succ])
          refine wpAnyT_takeL (i := 2) (v := ?_) rfl (by kernel_rfl) (by kernel_rfl) (by kernel_rfl) (by kernel_rfl) (fun _ _ _ h => h) (Or.inl ⟨by rfl, ?_⟩) (by assumption) ?_
          rotate_left
          · (intro w hSw; (try dsimp only at hSw); go_simp; (try with_reducible rfl))
          (try simp only [Act.put, List.setIfInBounds_toArray, List.set_cons_zero, List.set_cons_succ])
          refine wpAnyT_takeL (i := 3) (v := ?_) rfl (by kernel_rfl) (by kernel_rfl) (by kernel_rfl) (by kernel_rfl) (fun _ _ _ h => h) (Or.inl ⟨by rfl, ?_⟩) (by assumption) ?_
          rotate_left
          · (intro w hSw; (try dsimp only at hSw); go_simp; (try with_reducible rfl))
          (try simp only [Act.put, List.setIfInBounds_toArray, List.set_cons_zero, List.set_cons_succ])
          refine wpAnyT_takeL (i := 4) (v := ?_) rfl (by kernel_rfl) (by kernel_rfl) (by kernel_rfl) (by kernel_rfl) (fun _ _ _ h => h) (Or.inl ⟨by rfl, ?_⟩) (by assumption) ?_
          rotate_left
          · (intro w hSw; (try dsimp only at hSw); go_simp; (try with_reducible rfl))
          (try simp only [Act.put, List.setIfInBounds_toArray, List.set_cons_zero, List.set_cons_succ])
          refine wpAnyT_takeL (i := 5) (v := ?_) rfl (by kernel_rfl) (by kernel_rfl) (by kernel_rfl) (by kernel_rfl) (fun _ _ _ h => h) (Or.inl ⟨by rfl, ?_⟩) (by assumption) ?_
          rotate_left
          · (intro w hSw; (try dsimp only at hSw); go_simp; (try with_reducible rfl))
          (try simp only [Act.put, List.setIfInBounds_toArray, List.set_cons_zero, List.set_cons_succ])
          refine wpAnyT_takeL (i := 6) (v := ?_) rfl (by kernel_rfl) (by kernel_rfl) (by kernel_rfl) (by kernel_rfl) (fun _ _ _ h => h) (Or.inl ⟨by rfl, ?_⟩) (by assumption) ?_
          rotate_left
          · (intro w hSw; (try dsimp only at hSw); go_simp; (try with_reducible rfl))
          (try simp only [Act.put, List.setIfInBounds_toArray, List.set_cons_zero, List.set_cons_succ])
          refine wpAnyT_takeL (i := 7) (v := ?_) rfl (by kernel_rfl) (by kernel_rfl) (by kernel_rfl) (by kernel_rfl) (fun _ _ _ h => h) (Or.inl ⟨by rfl, ?_⟩) (by assumption) ?_
          rotate_left
          · (intro w hSw; (try dsimp only at hSw); go_simp; (try with_reducible rfl))
          (try simp only [Act.put, List.setIfInBounds_toArray, List.set_cons_zero, List.set_cons_succ])
          refine wpAnyT_takeL (i := 8) (v := ?_) rfl (by kernel_rfl) (by kernel_rfl) (by kernel_rfl) (by kernel_rfl) (fun _ _ _ h => h) (Or.inl ⟨by rfl, ?_⟩) (by assumption) ?_
          rotate_left
          · (intro w hSw; (try dsimp only at hSw); go_simp; (try with_reducible rfl))
          (try simp only [Act.put, List.setIfInBounds_toArray, List.set_cons_zero, List.set_cons_succ])
          refine wpAnyT_takeL (i := 9) (v := ?_) rfl (by kernel_rfl) (by kernel_rfl) (by kernel_rfl) (by kernel_rfl) (fun _ _ _ h => h) (Or.inl ⟨by rfl, ?_⟩) (by assumption) ?_
          rotate_left
          · (intro w hSw; (try dsimp only at hSw); go_simp; (try with_reducible rfl))
          (try simp only [Act.put, List.setIfInBounds_toArray, List.set_cons_zero, List.set_cons_succ])
          refine wpAnyT_takeL (i := 10) (v := ?_) rfl (by kernel_rfl) (by kernel_rfl) (by kernel_rfl) (by kernel_rfl) (fun _ _ _ h => h) (Or.inl ⟨by rfl, ?_⟩) (by assumption) ?_
          rotate_left
          · (intro w hSw; (try dsimp only at hSw); go_simp; (try with_reducible rfl))
          (try simp only [Act.put, List.setIfInBounds_toArray, List.set_cons_zero, List.set_cons_succ])
          refine wpAnyT_takeL (i := 11) (v := ?_) rfl (by kernel_rfl) (by kernel_rfl) (by kernel_rfl) (by kernel_rfl) (fun _ _ _ h => h) (Or.inl ⟨by rfl, ?_⟩) (by assumption) ?_
          rotate_left
          · (intro w hSw; (try dsimp only at hSw); go_simp; (try with_reducible rfl))
          (try simp only [Act.put, List.setIfInBounds_toArray, List.set_cons_zero, List.set_cons_succ])
          refine wpAnyT_takeL (i := 12) (v := ?_) rfl (by kernel_rfl) (by kernel_rfl) (by kernel_rfl) (by kernel_rfl) (fun _ _ _ h => h) (Or.inl ⟨by rfl, ?_⟩) (by assumption) ?_
          rotate_left
          · (intro w hSw; (try dsimp only at hSw); go_simp; (try with_reducible rfl))
          (try simp only [Act.put, List.setIfInBounds_toArray, List.set_cons_zero, List.set_cons_succ])
          refine wpAnyT_takeL (i := 13) (v := ?_) rfl (by kernel_rfl) (by kernel_rfl) (by kernel_rfl) (by kernel_rfl) (fun _ _ _ h => h) (Or.inl ⟨by rfl, ?_⟩) (by assumption) ?_
          rotate_left
          · (intro w hSw; (try dsimp only at hSw); go_simp; (try with_reducible rfl))
          (try simp only [Act.put, List.setIfInBounds_toArray, List.set_cons_zero, List.set_cons_succ])
          refine wpAnyT_all (rs := [14]) (by kernel_rfl) (by simp) (AllT.consL (i := 14) rfl (fun K hK => ?_) AllT.nil)
          go_simp
          refine hK.out _ _ ?_ (fun hH => ?_)
          · (first | (simp [go_sem, ↓IntWalk.iteOmega, *]; done) | go_keep)
          clear hK K
          (try simp only [Act.put, List.setIfInBounds_toArray, List.set_cons_zero, List.set_cons_succ])
          refine wpAnyT_all (rs := [15]) (by kernel_rfl) (by simp) (AllT.consL (i := 15) rfl (fun K hK => ?_) AllT.nil)
          refine step_append_owns rfl _ _ 41 (by rfl) 54 6 48 (.agg #[.int .i64 0, .int .i64 0, .int .i64 0, .int .i64 0, .int .i64 0, .bool false]) Try.underlying41 Try.infoStep rfl (by decide) (w.heap.size + 1) _ 1 _ _ _ (HO5.out.grew (by (repeat (first | exact Grew.refl _ | refine Grew.over ?_ _ | refine Grew.alloc ?_ _ | refine Grew.drew ?_ | refine Grew.drewN ?_ _)))) rfl (by rfl) _ 1 1 (by rfl) [.int .i64 (v : Int), .int .i64 (u : Int), .int .i64 kj, .int .i64 fj, .int .i64 (j : Int), .bool true] rfl (fun h => by cases h) (six_news (by (simp [go_sem, ↓IntWalk.iteOmega])) (by (simp [go_sem, ↓IntWalk.iteOmega])) (by (simp [go_sem, ↓IntWalk.iteOmega])) (by (simp [go_sem, ↓IntWalk.iteOmega])) (by (simp [go_sem, ↓IntWalk.iteOmega])) (by (simp [go_sem, ↓IntWalk.iteOmega]))) (by simp [Value.oneCell']) (by simp only [maxLen]; omega) (by omega) (by first | rfl | omega | (simp <;> omega)) ?_
          intro v1 w6 hO1 hg1 hb1 _
          obtain ⟨p1, c1, rfl⟩ := own_form hO1 (k := 1) rfl
          have hba := own_blk hO1 (j := 0) rfl
          have q0 := hba.2.2.2.2 0 _ rfl
          have q1 := hba.2.2.2.2 1 _ rfl
          have q3 := hba.2.2.2.2 3 _ rfl
          have q4 : w6.cell? ⟨bf, of + j, none⟩ = some (.int .i64 fj) := by
            rw [grownBy_cell hg1 (of + j) (by simp; omega) (fun g hg e => by have := hb1 g hg; omega)]
            exact Grew.cellEq (by (repeat (first | exact Grew.refl _ | refine Grew.over ?_ _ | refine Grew.alloc ?_ _ | refine Grew.drew ?_ | refine Grew.drewN ?_ _))) df
          have hbk := own_blk hO1 (j := 2) rfl
          have q5 := hbk.2.2.2.2 0 _ rfl
          have q6 := hbk.2.2.2.1 0
          have q7 := hbk.2.2.1
          refine hK.out _ _ ⟨q5, q0, q1, q3, q4⟩ (fun hH => ?_)
          clear hK K
          (try simp only [Act.put, List.setIfInBounds_toArray, List.set_cons_zero, List.set_cons_succ])
          have Hg6 := Lib.hid (Grew.grownBy (w0 := w) (Hg5.out.trans (by (repeat (first | exact Grew.refl _ | refine Grew.over ?_ _ | refine Grew.alloc ?_ _ | refine Grew.drew ?_ | refine Grew.drewN ?_ _)))) hg1 (fun k hk => by have := hb1 k hk; omega))
          have HO6 := Lib.hid hO1
          clear hO1 hg1 hb1 hba hbk
          refine wpAnyT_takeL (i := 16) (v := ?_) rfl (by kernel_rfl) (by kernel_rfl) (by kernel_rfl) (by kernel_rfl) (fun _ _ _ h => h) (Or.inl ⟨by rfl, ?_⟩) (by assumption) ?_
          rotate_left
          · (intro w hSw; (try dsimp only at hSw); go_simp; (try with_reducible rfl))
          (try simp only [Act.put, List.setIfInBounds_toArray, List.set_cons_zero, List.set_cons_succ])
          refine wpAnyT_all (rs := [17]) (by kernel_rfl) (by simp) (AllT.lastL rfl (fun K hK => ?_))
          go_simp
          refine hK.out _ _ ?_
          clear hK K
          (try simp only [Act.put, List.setIfInBounds_toArray, List.set_cons_zero, List.set_cons_succ])
          refine wpAnyT_done (by kernel_rfl) ?_ _
          have HO7 := Lib.hid (HO6.out.set (k := 2) rfl 0 (.slice p1 (L2.length + 1) c1))
          have Hg7 := Lib.hid (HO6.out.setGrew (w0 := w) (Nat.le_succ _) Hg6.out (k := 2) rfl 0 (.slice p1 (L2.length + 1) c1))
          have hlA : (L2 ++ [(j, true)]).length = L2.length + 1 := by rw [List.length_append, List.length_singleton]
          have hsA : stVs A f (L2 ++ [(j, true)]) = stVs A f L2 ++ [.int .i64 (v : Int), .int .i64 (u : Int), .int .i64 kj, .int .i64 fj, .int .i64 (j : Int), .bool true] := by rw [stVs_app]; show _ ++ (st1 A f j true ++ []) = _; rw [List.append_nil, Hst1.out]
          have HlA := Lib.hid hlA
          have HsA := Lib.hid hsA
          clear hlA hsA
          go_wp2
          go_roundw
          case rel =>
            have e : resL A f (j + 1) = L2 ++ [(j, true)] := by rw [HL2.out, if_pos hf0]
            refine ⟨j + 1, p1, c1, by omega, by go_num, ?_, Hg7.out⟩
            have h := HO7.out.tail
            rw [e]
            unfold stRow
            rw [HsA.out, HlA.out]
            exact h
          case measure => simp [intOf]; omega
        · have HO8 : Hid (Owns wc (w.heap.size + 1) [stRow (.slice pv2 (resL A f (j + 1)).length cv2) A f (resL A f (j + 1)), reRow R (.slice pv2 (resL A f (j + 1)).length cv2), rsRow (w.heap.size + 1)]) := Lib.hid (by
            have e : resL A f (j + 1) = L2 := by rw [HL2.out, if_neg hf0, List.append_nil]
            rw [e]
            exact HO5.out.tail)
          go_wp2
          go_roundw
          case rel => exact ⟨j + 1, pv2, cv2, by omega, by go_num, HO8.out, Hg5.out⟩
          case measure => simp [intOf]; omega
    · have hje : j = A.length := by omega
      subst hje
      have hbr := own_blk HO.out (j := 1) rfl
      have y0 := hbr.2.2.2.2 0 _ rfl
      have y1 := hbr.2.2.2.2 1 _ rfl
      have hbs := own_blk HO.out (j := 2) rfl
      have x0 := hbs.2.2.2.2 0 _ rfl
      have x1 := hbs.2.2.2.2 1 _ rfl
      have x2 := hbs.2.2.2.1 0
      have x3 := hbs.2.2.2.1 1
      have x4 := hbs.2.2.1
      have x5 := hbr.2.2.1
      clear hbr hbs
      go_wp2
      refine bodyPost_ret (v := .agg #[.slice pv (resL A f A.length).length cv, .func (.func 32) #[] #[]]) (by simp [results, Try.results25, go_sem, x0, x1]) rfl ?_
      have h1 := (HO.out.set (k := 2) rfl 0 (.slice pv (resL A f A.length).length cv)).set (k := 2) rfl 1 (.func (.func 32) #[] #[])
      have h2 := Owns.setGrew HO.out (Nat.le_succ _) Hg.out (k := 2) rfl 0 (.slice pv (resL A f A.length).length cv)
      have h3 := Owns.setGrew (HO.out.set (k := 2) rfl 0 (.slice pv (resL A f A.length).length cv)) (Nat.le_succ _) h2 (k := 2) rfl 1 (.func (.func 32) #[] #[])
      exact ⟨h3, _, rfl, (Owns.tail_of (xs := [_, _]) (h1.perm (List.perm_append_comm (l₁ := [_]) (l₂ := [_, _])))).base (Nat.le_succ _)⟩
end Go.Proofs.Ytnnlhmialmhpfaa
