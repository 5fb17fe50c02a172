/- The reference's preorder; its Count and Depth. -/
import Derived.Test.YtbamckfjikpjlaaTreE
import Derived.Test.YtbamckfjikpjlaaOwnSl
set_option linter.unusedSimpArgs false
set_option linter.unusedVariables false
namespace Go.Proofs.Ytbamckfjikpjlaa
open Go.RowKit
attribute [local go_sem ↓] Go.wp_at_zero Go.wp_at_succ

/-- Five cells. -/
def Ce5 (w : World) (b i : Nat) (v0 v1 v2 v3 v4 : Value) : Prop := b < w.heap.size ∧ w.cell? ⟨b, i, none⟩ = some v0 ∧ w.cell? ⟨b, i + 1, none⟩ = some v1 ∧ w.cell? ⟨b, i + 2, none⟩ = some v2 ∧ w.cell? ⟨b, i + 3, none⟩ = some v3 ∧ w.cell? ⟨b, i + 4, none⟩ = some v4
theorem Ce5.grew {w w' : World} {b i : Nat} {v0 v1 v2 v3 v4 : Value} (h : Ce5 w b i v0 v1 v2 v3 v4) (hg : Grew w w') : Ce5 w' b i v0 v1 v2 v3 v4 :=
  ⟨Nat.lt_of_lt_of_le h.1 hg.below.size, hg.cellEq h.2.1, hg.cellEq h.2.2.1, hg.cellEq h.2.2.2.1, hg.cellEq h.2.2.2.2.1, hg.cellEq h.2.2.2.2.2⟩
def layFl : Lay Try.prog := ⟨48, 51, 6, 104, .agg #[.int .i64 0, .string ⟨#[]⟩, .slice none 0 0, .slice none 0 0, .slice none 0 0, .int .i64 0], Try.underlying48, by kernel_rfl, rfl, by decide⟩
/-- A statement with its level, read in the world w0. -/
def rFl (w0 : World) (cs : List Value) (x : St × Nat) : Prop := ∃ n c5, cs = c5 ++ [.int .i64 x.2] ∧ rSt n w0 c5 x.1
theorem rSt_one {n : Nat} {w : World} {cs : List Value} {x : St} (h : rSt n w cs x) : ∀ u ∈ cs, u.oneCell' = true := by
  cases n with
  | zero => exact h.elim
  | succ n =>
    cases x with
    | mk k nm rs ats bd =>
      obtain ⟨_, _, rp, rc, ap, ac, bp, bc, rfl, _⟩ := h
      simp [Value.oneCell']
theorem rFl_one {w0 : World} : ∀ ce x, rFl w0 ce x → ∀ u ∈ ce, u.oneCell' = true := by
  rintro ce x ⟨n, c5, rfl, h⟩ u hu
  rw [List.mem_append] at hu
  rcases hu with hu | hu
  · exact rSt_one h u hu
  · simp at hu; subst hu; rfl

set_option maxHeartbeats 4000000 in
theorem preorder_r : ∀ (n : Nat) (p : Option Addr) (m cap : Nat) (l : List St) (lv : Nat) (w0 W : World) (_ : Sts n w0 p cap l) (_ : l.length = m) (_ : lv + n ≤ 1000) (_ : cntL l ≤ 600) (_ : Grew w0 W),
    Calls Try.prog 30 #[.slice p m cap, .int .i64 lv] W fun e w' => (∃ q c, e = .returned (.slice q (cntL l) c) ∧ SlAt (fun _ => rFl w0) 6 w' q c (pre l lv) ∧ ∀ a, q = some a → W.heap.size ≤ a.block) ∧ Grew W w' := by
  intro n
  induction n using Nat.strongRecOn with
  | ind n ih =>
  intro p m cap l lv w0 W hS hm hlv hct hg0
  subst hm
  have hmc := len_lt hS
  have HS := Lib.hid hS
  have Ih := Lib.hid ih
  have Hg0 := Lib.hid hg0
  have Hct := Lib.hid hct
  clear ih hS hg0 hct
  go_enter Try.func30, Try.ntmps30
  go_wp2
  go_loopw [5, 6, 7] (fun out i _ wr => ∃ k : Nat, k ≤ l.length ∧ i = .int .i64 k ∧ OwnSl layFl (rFl w0) wr W.heap.size out (pre (l.take k) lv) ∧ Grew W wr) (fun _ i _ _ => l.length - (intOf i).toNat)
  case atStart => exact ⟨0, Nat.zero_le _, rfl, by simp only [List.take_zero, pre]; exact OwnSl.made layFl (rFl w0) W W.heap.size _ (Nat.le_refl _) rfl, by (repeat (first | exact Grew.refl _ | refine Grew.over ?_ _ | refine Grew.alloc ?_ _ | refine Grew.drew ?_ | refine Grew.drewN ?_ _))⟩
  case round =>
    obtain ⟨k, hk, rfl, hO, hg⟩ := hrel
    have HO := Lib.hid hO
    have Hg := Lib.hid hg
    have Hg1 := Lib.hid (Hg0.out.trans hg)
    clear hO hg
    by_cases hlt : k < l.length
    · obtain ⟨b, o, kd, nm, rs, ats, bd, rp, rc, ap, ac, bp, bc, m', hm', rfl, hb, hx, hkw, hnm, c0, c1, c2, c3, c4, hR, hA, hB⟩ := sts_el HS.out hlt
      have C := Lib.hid (show Ce5 w0 b (o + k * 5) _ _ _ _ _ from ⟨hb, c0, c1, c2, c3, c4⟩)
      clear hb c0 c1 c2 c3 c4
      obtain ⟨hb, c0, c1, c2, c3, c4⟩ := C.out.grew Hg1.out
      have hm1 : m' < n := by omega
      have Hx := Lib.hid hx
      have HB := Lib.hid hB
      have Hr := Lib.hid (show rFl w0 [.int .i64 kd, .string nm, .slice rp rs.length rc, .slice ap ats.length ac, .slice bp bd.length bc, .int .i64 lv] (.mk kd nm rs ats bd, lv) from ⟨m' + 1, [.int .i64 kd, .string nm, .slice rp rs.length rc, .slice ap ats.length ac, .slice bp bd.length bc], rfl, hkw, hnm, rp, rc, ap, ac, bp, bc, rfl, hR, hA, hB⟩)
      have hcs : cntL (l.take k) + 1 + cntL bd ≤ 600 := by
        have h1 := cnt_pre l 0
        have h2 := cnt_pre (l.take k) 0
        have h3 := cnt_pre bd (inn kd 0)
        obtain ⟨rest, hr⟩ := pre_split hx 0
        rw [hr] at h1
        simp at h1
        have := Hct.out
        omega
      clear hx hB hR hA hkw hm' hnm
      have hpl := cnt_pre (l.take k) lv
      have hbl := cnt_pre bd (inn kd lv)
      obtain ⟨lv', hlv'⟩ : ∃ lv', inn kd lv = lv' := ⟨_, rfl⟩
      have hle : lv' ≤ lv + 1 := by rw [← hlv']; unfold inn; split <;> omega
      have Hin := Lib.hid hlv'
      rw [hlv'] at hbl
      by_cases h5 : kd = 5
      · have e1 : (lv' : Int) = (lv : Int) + 1 := by rw [← hlv', h5]; unfold inn; rw [if_pos rfl]; rfl
        subst h5
        clear hlv'
        go_wp2_with (first
          | (at_builtin; refine wp_append_sl rfl layFl (rFl w0) rFl_one _ _ rfl W.heap.size _ _ (pre bd lv') (hO1.grew hg3) (Hg3.out.below.size) rfl _ _ _ rfl hs3 hbl (by rw [List.length_append, hpl, hbl]; simp [maxLen]; omega) (by rw [List.length_append, hpl, hbl]; simp [layFl]; omega) ?_; intro v4 w4 hO4 hg4 hb4 hx4; have HO4 := Lib.hid hO4; have Hg4 := Lib.hid (Hg3.out.grownBy hg4 hb4); clear hO4 hg4 hb4 hx4)
          | (at_builtin; refine wp_append_sl rfl layFl (rFl w0) rFl_one _ _ rfl W.heap.size _ _ [(.mk 5 nm rs ats bd, lv)] (HO.out.grew (by (repeat (first | exact Grew.refl _ | refine Grew.over ?_ _ | refine Grew.alloc ?_ _ | refine Grew.drew ?_ | refine Grew.drewN ?_ _)))) (by have := Hg.out.below.size; simp [go_sem]; omega) rfl _ _ _ rfl (slat_one _ _ (by simp [cellsAt, go_sem]) rfl (by decide) Hr.out) rfl (by rw [hpl]; simp [maxLen]; omega) (by rw [hpl]; simp [layFl]; omega) ?_; intro v1 w1 hO1 hg1 hb1 hx1; have Hgw := Lib.hid ((Hg.out.trans (by (repeat (first | exact Grew.refl _ | refine Grew.over ?_ _ | refine Grew.alloc ?_ _ | refine Grew.drew ?_ | refine Grew.drewN ?_ _)))).grownBy hg1 hb1); obtain ⟨hb', d0, d1, d2, d3, d4⟩ := C.out.grew (Hg0.out.trans Hgw.out); clear hg1 hb1 hx1)
          | (go_at_call 30; apply Calls.mono; (rw [← e1]; with_reducible exact Ih.out _ hm1 _ _ _ _ _ _ _ HB.out rfl (by omega) (by omega) (Hg0.out.trans Hgw.out)); rintro e w3 ⟨⟨q, c, rfl, hs3, -⟩, hg3⟩; have Hg3 := Lib.hid (Hgw.out.trans hg3)))
        have HO5 := Lib.hid (show OwnSl layFl (rFl w0) w4 W.heap.size v4 (pre (l.take (k + 1)) lv) by rw [pre_next Hx.out, Hin.out]; have := HO4.out; simpa using this)
        clear hs3 hg3 hO1
        go_roundw
        case rel => exact ⟨k + 1, hlt, by go_num, HO5.out, Hg4.out⟩
        case measure => simp [intOf]; omega
      · have e1 : lv = lv' := by rw [← hlv']; unfold inn; rw [if_neg h5]
        subst e1
        clear hlv'
        go_wp2_with (first
          | (at_builtin; refine wp_append_sl rfl layFl (rFl w0) rFl_one _ _ rfl W.heap.size _ _ (pre bd lv) (hO1.grew hg3) (Hg3.out.below.size) rfl _ _ _ rfl hs3 hbl (by rw [List.length_append, hpl, hbl]; simp [maxLen]; omega) (by rw [List.length_append, hpl, hbl]; simp [layFl]; omega) ?_; intro v4 w4 hO4 hg4 hb4 hx4; have HO4 := Lib.hid hO4; have Hg4 := Lib.hid (Hg3.out.grownBy hg4 hb4); clear hO4 hg4 hb4 hx4)
          | (at_builtin; refine wp_append_sl rfl layFl (rFl w0) rFl_one _ _ rfl W.heap.size _ _ [(.mk kd nm rs ats bd, lv)] (HO.out.grew (by (repeat (first | exact Grew.refl _ | refine Grew.over ?_ _ | refine Grew.alloc ?_ _ | refine Grew.drew ?_ | refine Grew.drewN ?_ _)))) (by have := Hg.out.below.size; simp [go_sem]; omega) rfl _ _ _ rfl (slat_one _ _ (by simp [cellsAt, go_sem]) rfl (by decide) Hr.out) rfl (by rw [hpl]; simp [maxLen]; omega) (by rw [hpl]; simp [layFl]; omega) ?_; intro v1 w1 hO1 hg1 hb1 hx1; have Hgw := Lib.hid ((Hg.out.trans (by (repeat (first | exact Grew.refl _ | refine Grew.over ?_ _ | refine Grew.alloc ?_ _ | refine Grew.drew ?_ | refine Grew.drewN ?_ _)))).grownBy hg1 hb1); obtain ⟨hb', d0, d1, d2, d3, d4⟩ := C.out.grew (Hg0.out.trans Hgw.out); clear hg1 hb1 hx1)
          | (go_at_call 30; apply Calls.mono; (with_reducible exact Ih.out _ hm1 _ _ _ _ _ _ _ HB.out rfl (by omega) (by omega) (Hg0.out.trans Hgw.out)); rintro e w3 ⟨⟨q, c, rfl, hs3, -⟩, hg3⟩; have Hg3 := Lib.hid (Hgw.out.trans hg3)))
        have HO5 := Lib.hid (show OwnSl layFl (rFl w0) w4 W.heap.size v4 (pre (l.take (k + 1)) lv) by rw [pre_next Hx.out, Hin.out]; have := HO4.out; simpa using this)
        clear hs3 hg3 hO1
        go_roundw
        case rel => exact ⟨k + 1, hlt, by go_num, HO5.out, Hg4.out⟩
        case measure => simp [intOf]; omega
    · have ht : l.take k = l := List.take_of_length_le (by omega)
      rw [ht] at HO
      obtain ⟨q, c, rfl, hs, hfr⟩ := HO.out.slatB
      have Hfr := Lib.hid hfr
      rw [cnt_pre] at HO ⊢
      clear hfr
      have Hs := Lib.hid hs
      clear hs
      go_wp2
      go_ret
      exact ⟨⟨q, c, rfl, SlAt.grew (fun _ _ _ _ _ h => h) Hs.out (by (repeat (first | exact Grew.refl _ | refine Grew.over ?_ _ | refine Grew.alloc ?_ _ | refine Grew.drew ?_ | refine Grew.drewN ?_ _))), fun a ha => (Hfr.out a ha).1⟩, Hg.out.trans (by (repeat (first | exact Grew.refl _ | refine Grew.over ?_ _ | refine Grew.alloc ?_ _ | refine Grew.drew ?_ | refine Grew.drewN ?_ _)))⟩

/-- A statement with its level in memory. -/
theorem fl_el {w0 w : World} {p : Option Addr} {cap : Nat} {F : List (St × Nat)} {i : Nat} (h : SlAt (fun _ => rFl w0) 6 w p cap F) (hi : i < F.length) :
    ∃ b o k nm rs ats bd lv rp rc ap ac bp bc m, p = some ⟨b, o, none⟩ ∧ F[i]? = some (.mk k nm rs ats bd, lv) ∧ (Lit.int .i64 k).wf = true ∧ nm.size ≤ maxLen ∧
      Ce5 w b (o + i * 6) (.int .i64 k) (.string nm) (.slice rp rs.length rc) (.slice ap ats.length ac) (.slice bp bd.length bc) ∧ w.cell? ⟨b, o + i * 6 + 5, none⟩ = some (.int .i64 lv) ∧
      P2s w0 rp rc rs ∧ P2s w0 ap ac ats ∧ Sts m w0 bp bc bd := by
  obtain ⟨h1, h2, h3, h4⟩ := h
  obtain ⟨b, o, ce, g1, g2, g3, ⟨n, c5, hce, g4⟩, g5⟩ := h4 i _ (List.getElem?_eq_getElem hi)
  cases n with
  | zero => exact g4.elim
  | succ m =>
    revert g4 hce
    cases hx : F[i] with
    | mk s lv =>
      cases s with
      | mk k nm rs ats bd =>
        rintro hce ⟨e1, e2, rp, rc, ap, ac, bp, bc, e3, e4, e5, e6⟩
        subst e3
        subst hce
        exact ⟨b, o, k, nm, rs, ats, bd, lv, rp, rc, ap, ac, bp, bc, m, g1, by rw [List.getElem?_eq_getElem hi, hx], e1, e2, ⟨g2, g5 0 (by omega), g5 1 (by omega), g5 2 (by omega), g5 3 (by omega), g5 4 (by omega)⟩, g5 5 (by omega), e4, e5, e6⟩
theorem preorder_0 (p : Option Addr) (m cap : Nat) (l : List St) (w0 W : World) (hS : Sts 20 w0 p cap l) (hm : l.length = m) (hc : cntL l ≤ 600) (hg : Grew w0 W) :
    Calls Try.prog 30 #[.slice p m cap, .int .i64 0] W fun e w' => (∃ q c, e = .returned (.slice q (cntL l) c) ∧ SlAt (fun _ => rFl w0) 6 w' q c (pre l 0) ∧ ∀ a, q = some a → W.heap.size ≤ a.block) ∧ Grew W w' :=
  preorder_r 20 p m cap l 0 w0 W hS hm (by omega) hc hg
theorem count_r (name : ByteArray) (dir : Bool) (p : Option Addr) (n cap : Nat) (l : List St) (w : World) (hS : Sts 20 w p cap l) (hn : l.length = n) (hc : cntL l ≤ 600) :
    Calls Try.prog 22 #[.agg #[.string name, .bool dir, .slice p n cap]] w fun e w' => e = .returned (.int .i64 (cntL l)) ∧ Grew w w' := by
  have HS := Lib.hid hS
  clear hS
  go_enter Try.func22, Try.ntmps22
  go_wp2_with (go_at_call 30; apply Calls.mono; (with_reducible exact preorder_0 _ _ _ l w _ HS.out hn hc (by (repeat (first | exact Grew.refl _ | refine Grew.over ?_ _ | refine Grew.alloc ?_ _ | refine Grew.drew ?_ | refine Grew.drewN ?_ _)))); rintro e w3 ⟨⟨q, c, rfl, hs3, -⟩, hg3⟩; have Hg3 := Lib.hid (show Grew w w3 from Grew.trans (by (repeat (first | exact Grew.refl _ | refine Grew.over ?_ _ | refine Grew.alloc ?_ _ | refine Grew.drew ?_ | refine Grew.drewN ?_ _))) hg3); clear hs3 hg3)
  go_ret
  exact ⟨rfl, Hg3.out⟩

set_option maxHeartbeats 1000000 in
theorem depth_r (name : ByteArray) (dir : Bool) (p : Option Addr) (n cap : Nat) (l : List St) (w : World) (hS : Sts 20 w p cap l) (hn : l.length = n) (hc : cntL l ≤ 600) (hd : depL l ≤ 20) :
    Calls Try.prog 23 #[.agg #[.string name, .bool dir, .slice p n cap]] w fun e w' => e = .returned (.int .i64 (mxL (pre l 0))) ∧ Grew w w' := by
  have HS := Lib.hid hS
  have hlv := pre_lv l 0
  have Hlv := Lib.hid hlv
  clear hS hlv
  have hF := cnt_pre l 0
  have hp := fun W hg => preorder_0 p n cap l w W HS.out hn hc hg
  obtain ⟨F, hFF⟩ : ∃ F, pre l 0 = F := ⟨_, rfl⟩
  simp only [hFF] at hp Hlv hF
  rw [hFF]
  simp only [← hF] at hp
  have Hp := Lib.hid hp
  clear hp hFF
  go_enter Try.func23, Try.ntmps23
  go_wp2_with (go_at_call 30; apply Calls.mono; (with_reducible exact Hp.out _ (by (repeat (first | exact Grew.refl _ | refine Grew.over ?_ _ | refine Grew.alloc ?_ _ | refine Grew.drew ?_ | refine Grew.drewN ?_ _)))); rintro e w3 ⟨⟨q, c, rfl, hs3, -⟩, hg3⟩; have Hg3 := Lib.hid (show Grew w w3 from Grew.trans (by (repeat (first | exact Grew.refl _ | refine Grew.over ?_ _ | refine Grew.alloc ?_ _ | refine Grew.drew ?_ | refine Grew.drewN ?_ _))) hg3); have Hs3 := Lib.hid hs3; clear hs3 hg3)
  have hFl := len_lt Hs3.out
  go_loopw [4, 5] (fun m i wr => ∃ k : Nat, k ≤ F.length ∧ i = .int .i64 k ∧ m = .int .i64 (mxL (F.take k)) ∧ Grew w3 wr) (fun _ i _ => F.length - (intOf i).toNat)
  case atStart => exact ⟨0, Nat.zero_le _, rfl, by simp [mxL], by (repeat (first | exact Grew.refl _ | refine Grew.over ?_ _ | refine Grew.alloc ?_ _ | refine Grew.drew ?_ | refine Grew.drewN ?_ _))⟩
  case round =>
    obtain ⟨k, hk, rfl, rfl, hg⟩ := hrel
    have Hg := Lib.hid hg
    clear hg
    have hmx : mxL (F.take k) ≤ 21 := mxL_le fun x hx => by have := Hlv.out x (List.mem_of_mem_take hx); omega
    obtain ⟨m, hm⟩ : ∃ m, mxL (F.take k) = m := ⟨_, rfl⟩
    have Hm := Lib.hid hm
    rw [hm] at hmx ⊢
    clear hm
    by_cases hlt : k < F.length
    · obtain ⟨b, o, kd, nm, rs, ats, bd, lv, rp, rc, ap, ac, bp, bc, m', rfl, hx, -, -, hC, c5, -, -, -⟩ := fl_el (SlAt.grew (fun _ _ _ _ _ h => h) Hs3.out Hg.out) hlt
      have hle : lv ≤ 20 := by have := Hlv.out _ (List.mem_of_getElem? hx); dsimp only at this; omega
      obtain ⟨hb, c0, c1, c2, c3, c4⟩ := hC
      have Hx : Hid (mxL (F.take (k + 1)) = if kd = 5 then max m (lv + 1) else m) := Lib.hid (by rw [take_snoc' hx, mxL_snoc, Hm.out]; rfl)
      clear hx c1 c2 c3 c4
      by_cases h5 : kd = 5
      case neg =>
        rw [if_neg h5] at Hx
        go_wp2
        go_roundw
        case rel => exact ⟨k + 1, hlt, by go_num, by rw [Hx.out], Hg.out.trans (by (repeat (first | exact Grew.refl _ | refine Grew.over ?_ _ | refine Grew.alloc ?_ _ | refine Grew.drew ?_ | refine Grew.drewN ?_ _)))⟩
        case measure => simp [intOf]; omega
      subst h5
      rw [if_pos rfl] at Hx
      rcases Nat.lt_trichotomy m (lv + 1) with hlt | hlt | hlt
      all_goals
        obtain ⟨M, hM⟩ : ∃ M, max m (lv + 1) = M := ⟨_, rfl⟩
        have hM' : (M = m ∨ M = lv + 1) ∧ m ≤ M ∧ lv + 1 ≤ M := by omega
        have HM := Lib.hid hM'
        rw [hM] at Hx
        clear hM hM'
        go_wp2
        go_roundw
        case rel => exact ⟨k + 1, by omega, by go_num, by rw [Hx.out]; have := HM.out; congr 1; omega, Hg.out.trans (by (repeat (first | exact Grew.refl _ | refine Grew.over ?_ _ | refine Grew.alloc ?_ _ | refine Grew.drew ?_ | refine Grew.drewN ?_ _)))⟩
        case measure => simp [intOf]; omega
    · rw [List.take_of_length_le (by omega)] at Hm
      go_wp2
      go_ret
      exact ⟨ret_int (by rw [Hm.out]), Hg3.out.trans (Hg.out.trans (by (repeat (first | exact Grew.refl _ | refine Grew.over ?_ _ | refine Grew.alloc ?_ _ | refine Grew.drew ?_ | refine Grew.drewN ?_ _))))⟩
end Go.Proofs.Ytbamckfjikpjlaa
