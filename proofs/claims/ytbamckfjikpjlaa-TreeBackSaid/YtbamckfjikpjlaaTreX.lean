/- awake: the examples of the chapter. -/
import Derived.Test.YtbamckfjikpjlaaTreW
set_option linter.unusedSimpArgs false
set_option linter.unusedVariables false
namespace Go.Proofs.Ytbamckfjikpjlaa
open Go.RowKit
attribute [local go_sem ↓] Go.wp_at_zero Go.wp_at_succ

abbrev sE : ByteArray := ⟨#[]⟩
abbrev sA : ByteArray := ⟨#[97]⟩
abbrev sB : ByteArray := ⟨#[98]⟩
abbrev sC : ByteArray := ⟨#[99]⟩
abbrev sG : ByteArray := ⟨#[103]⟩
abbrev sN : ByteArray := ⟨#[110, 111, 100, 101]⟩
def lT : List St := [.mk 2 sE [(sA, sE), (sB, sE)] [] []]
def lB : List St := [.mk 2 sE [(sA, sE)] [] []]
def lW : List St := [.mk 1 sN [] [] []]
def lU : List St := [.mk 2 sE [(sC, sE), (sB, sE)] [] []]
theorem v_T : vlE sG lT = 0 := by
  unfold vlE lT
  rw [if_neg (by decide +kernel), if_neg (by simp [cntL])]
  simp only [pre, List.append_nil, List.map_cons, List.map_nil, stE]
  decide +kernel
theorem v_B : vlE sG lB = 1 := by
  unfold vlE lB
  rw [if_neg (by decide +kernel), if_neg (by simp [cntL])]
  simp only [pre, List.append_nil, List.map_cons, List.map_nil, stE]
  decide +kernel
theorem v_W : vlE sG lW = 5 := by
  unfold vlE lW
  rw [if_neg (by decide +kernel), if_neg (by simp [cntL])]
  simp only [pre, List.append_nil, List.map_cons, List.map_nil, stE]
  decide +kernel
theorem v_U : vlE sG lU = 0 := by
  unfold vlE lU
  rw [if_neg (by decide +kernel), if_neg (by simp [cntL])]
  simp only [pre, List.append_nil, List.map_cons, List.map_nil, stE]
  decide +kernel
theorem n_T : nmsL (pre lT 0) = [sA, sB] := by
  unfold lT
  simp only [pre, List.append_nil]
  kernel_rfl
theorem n_U : nmsL (pre lU 0) = [sC, sB] := by
  unfold lU
  simp only [pre, List.append_nil]
  kernel_rfl
theorem nl_T : namesL sG lT = [sA, sB] := by unfold namesL; rw [if_pos v_T, n_T]
theorem nl_U : namesL sG lU = [sC, sB] := by unfold namesL; rw [if_pos v_U, n_U]
theorem r_ab : rnE sG lT sA sB = 6 := by
  unfold rnE
  rw [if_pos v_T, if_pos (by decide +kernel), n_T, if_pos (by decide +kernel), if_pos (Or.inl (by decide +kernel))]
theorem c_T : clsL (pre lT 0) = [] := by
  unfold lT
  simp only [pre, List.append_nil]
  kernel_rfl
theorem r_ac : rnE sG lT sA sC = 0 := by
  unfold rnE
  rw [if_pos v_T, if_pos (by decide +kernel), n_T, c_T, if_pos (by decide +kernel), if_neg (by decide +kernel)]
theorem l_ac : renL sA sC lT = lU := by
  unfold lT lU
  simp only [renL]
  kernel_rfl
theorem cnt_T : cntL lT = 1 := by unfold lT; simp [cntL]
theorem sm_T : smL lT := by unfold lT; simp [smL]
theorem sm_U : smL lU := by unfold lU; simp [smL]
/-- Trees in memory, cell by cell. -/
theorem sts_1 {w : World} {g : Nat} {k : Int} {nm : ByteArray} {rp : Option Addr} {rc : Nat} {rs : List P2} (n : Nat) (hk : (Lit.int .i64 k).wf = true) (hn : nm.size ≤ maxLen) (hc : cellsAt w g 0 [.int .i64 k, .string nm, .slice rp rs.length rc, .slice none 0 0, .slice none 0 0]) (hr : P2s w rp rc rs) :
    Sts (n + 1) w (some ⟨g, 0, none⟩) 1 [.mk k nm rs [] []] := by
  have := slat_one (R := rSt (n + 1) w) (sz := 5) _ (.mk k nm rs [] []) hc rfl (by decide) ⟨hk, hn, rp, rc, none, 0, none, 0, rfl, hr, ⟨by simp, Nat.zero_le _, fun _ => rfl, fun i x hx => by simp at hx⟩, ⟨by simp, Nat.zero_le _, fun _ => rfl, fun i x hx => by simp at hx⟩⟩
  exact this
theorem p2s_nil {w : World} : P2s w none 0 [] := ⟨by simp, Nat.zero_le _, fun _ => rfl, fun i x hx => by simp at hx⟩
theorem p2s_1 {w : World} {g : Nat} {a b : ByteArray} (h0 : w.cell? ⟨g, 0, none⟩ = some (.string a)) (h1 : w.cell? ⟨g, 1, none⟩ = some (.string b)) (ha : a.size ≤ maxLen) (hb : b.size ≤ maxLen) : P2s w (some ⟨g, 0, none⟩) 1 [(a, b)] :=
  slat_one (R := rP2c) (sz := 2) [.string a, .string b] (a, b) ⟨h0, h1, trivial⟩ rfl (by decide) ⟨rfl, ha, hb⟩
theorem p2s_2 {w : World} {g : Nat} {a b c d : ByteArray} (h0 : w.cell? ⟨g, 0, none⟩ = some (.string a)) (h1 : w.cell? ⟨g, 1, none⟩ = some (.string b)) (h2 : w.cell? ⟨g, 2, none⟩ = some (.string c)) (h3 : w.cell? ⟨g, 3, none⟩ = some (.string d))
    (ha : a.size ≤ maxLen) (hb : b.size ≤ maxLen) (hc : c.size ≤ maxLen) (hd : d.size ≤ maxLen) : P2s w (some ⟨g, 0, none⟩) 2 [(a, b), (c, d)] := by
  refine ⟨by simp, by unfold maxLen; omega, fun h => (by cases h), fun i x hx => ?_⟩
  match i, hx with
  | 0, hx =>
    cases hx
    refine ⟨g, 0, [.string a, .string b], rfl, World.block_lt_of_cell? _ _ h0, rfl, ⟨rfl, ha, hb⟩, fun j hj => ?_⟩
    match j, hj with
    | 0, _ => exact h0
    | 1, _ => exact h1
  | 1, hx =>
    cases hx
    refine ⟨g, 0, [.string c, .string d], rfl, World.block_lt_of_cell? _ _ h0, rfl, ⟨rfl, hc, hd⟩, fun j hj => ?_⟩
    match j, hj with
    | 0, _ => exact h2
    | 1, _ => exact h3
  | i + 2, hx => simp at hx
theorem strs_2 {w : World} {g : Nat} {a b : ByteArray} (h0 : w.cell? ⟨g, 0, none⟩ = some (.string a)) (h1 : w.cell? ⟨g, 1, none⟩ = some (.string b)) (ha : a.size ≤ maxLen) (hb : b.size ≤ maxLen) : Strs w (some ⟨g, 0, none⟩) 2 [a, b] := by
  refine ⟨by simp, by unfold maxLen; omega, fun h => (by cases h), fun i x hx => ?_⟩
  match i, hx with
  | 0, hx =>
    cases hx
    refine ⟨g, 0, [.string a], rfl, World.block_lt_of_cell? _ _ h0, rfl, ⟨rfl, ha⟩, fun j hj => ?_⟩
    obtain rfl : j = 0 := by omega
    exact h0
  | 1, hx =>
    cases hx
    refine ⟨g, 0, [.string b], rfl, World.block_lt_of_cell? _ _ h0, rfl, ⟨rfl, hb⟩, fun j hj => ?_⟩
    obtain rfl : j = 0 := by omega
    exact h1
  | i + 2, hx => simp at hx
theorem rename_6 {w0 w : World} {p : Option Addr} (hS : Sts 20 w0 p 1 lT) (hg : Grew w0 w) :
    Calls Try.prog 15 #[.agg #[.string sG, .bool false, .slice p 1 1], .string sA, .string sB] w fun e w' => (∃ q c, e = .returned (.tuple #[.agg #[.string sE, .bool false, .slice q 0 c], .int .i64 6])) ∧ Grew w w' := by
  refine (rename_p sG false p 1 1 lT sA sB w (hS.grew (stable_st _) hg) rfl (by rw [cnt_T]; omega) sm_T (by decide)).mono ?_
  rintro e w' ⟨⟨q, c, he, -⟩, hg⟩
  unfold rnL at he
  rw [r_ab] at he
  exact ⟨⟨q, c, he⟩, hg⟩
theorem rename_0 {w0 w : World} {p : Option Addr} (hS : Sts 20 w0 p 1 lT) (hg : Grew w0 w) :
    Calls Try.prog 15 #[.agg #[.string sG, .bool false, .slice p 1 1], .string sA, .string sC] w fun e w' => (∃ q c, e = .returned (.tuple #[.agg #[.string sG, .bool false, .slice q 1 c], .int .i64 0]) ∧ Sts 20 w' q c lU) ∧ Grew w w' := by
  refine (rename_p sG false p 1 1 lT sA sC w (hS.grew (stable_st _) hg) rfl (by rw [cnt_T]; omega) sm_T (by decide)).mono ?_
  rintro e w' ⟨⟨q, c, he, hs⟩, hg⟩
  unfold rnL at he hs
  rw [r_ac, if_pos rfl, l_ac] at he hs
  exact ⟨⟨q, c, he, hs⟩, hg⟩
end Go.Proofs.Ytbamckfjikpjlaa
