/- Solve of the program. -/
import Derived.Test.YtdenjldadlgniaaAsgD
import Derived.Test.YtdenjldadlgniaaAsgG
set_option linter.unusedSimpArgs false
set_option linter.unusedVariables false
namespace Go.Proofs.Ytdenjldadlgniaa
open Go.RowKit

theorem make_rows (n : Nat) (hn : n ≤ 1000) (W : World) : (Instr.makeSlice 23 (.int .i64 n) (.int .i64 n)).run Try.prog W = .ok (.slice (some ⟨W.heap.size, 0, none⟩) n n) (W.alloc (.cells (Array.replicate n (.slice none 0 0)) 24)) := by
  obtain ⟨i0, hi, hz0, hz1, hz2⟩ := info_parts Try.infoInts
  have h := run_make (P := Try.prog) W 23 24 i0 (.slice none 0 0) Try.underlying23 hi hz0 .i64 .i64 (n : Int) (n : Int) (by omega) (by omega) (by rw [hz2]; omega) (by omega)
  rw [hz1, show (Value.slice none 0 0).cells = #[.slice none 0 0] from rfl, Int.toNat_natCast, Nat.mul_one, ones_rep] at h
  exact h
def intL (l : List Nat) : List Int := l.map (fun x : Nat => (x : Int))
theorem intL_length (l : List Nat) : (intL l).length = l.length := by simp [intL]
theorem natVs_intL (l : List Nat) : natVs l = intVs (intL l) := by simp [natVs, intVs, intL]
theorem natVs_snoc (l : List Nat) (c : Nat) : natVs l ++ [.int .i64 (c : Int)] = natVs (l ++ [c]) := by simp [natVs]
theorem intL_mem {l : List Nat} {c : Nat} : (c : Int) ∈ intL l ↔ c ∈ l := by
  unfold intL
  rw [List.mem_map]
  constructor
  · rintro ⟨x, hx, e⟩
    have : x = c := by omega
    rw [← this]; exact hx
  · intro h; exact ⟨c, h, rfl⟩
theorem gn_mem {l : List Nat} {x : Nat} (h : x ∈ l) : ∃ u, u < l.length ∧ gn l u = x := by
  obtain ⟨u, hu, e⟩ := List.getElem_of_mem h
  exact ⟨u, hu, by unfold gn; simp [hu, e]⟩
theorem intL_rng {m : List (List Int)} (hV : vA m) {l : List Nat} (hL : LOK m l) : ∀ x ∈ intL l, -9223372036854775808 ≤ x ∧ x ≤ 9223372036854775807 := by
  intro x hx
  unfold intL at hx
  obtain ⟨y, hy, rfl⟩ := List.mem_map.1 hx
  obtain ⟨u, hu, rfl⟩ := gn_mem hy
  have h1 := hL.lt u hu
  have h2 := hV.k64 (by have := hL.le; omega)
  omega
theorem bd_nil (m : List (List Int)) : bd m [] = m := by
  apply List.ext_getElem (bd_length m [])
  intro i h1 h2
  rw [← rowOf_eq _ h1, ← rowOf_eq _ h2, rowOf_bd m [] h2]
  rfl
theorem row_rng {m : List (List Int)} (hV : vA m) {u : Nat} (hu : u < m.length) : ∀ x ∈ rowOf m u, -9223372036854775808 ≤ x ∧ x ≤ 9223372036854775807 := by
  intro x hx
  obtain ⟨v, hv, e⟩ := List.getElem_of_mem hx
  have h1 := hV.sq u hu
  have := hV.b u hu v (by omega)
  unfold at2 at this
  rw [ge_eq _ hv, e] at this
  omega
theorem SolM.matV {w : World} {B go : Nat} {vo : Value} {l : List Nat} {m : List (List Int)} {vals : List Value} (h : SolM w B go vo l m vals) (hV : vA m) : Mat w (some ⟨go, 0, none⟩) m :=
  h.mat (by have := hV.n16; omega) (fun u hu => by rw [hV.sq u hu]; have := hV.k64 (by omega); omega) (fun u hu => row_rng hV hu)
theorem SolM.cellV {w : World} {B go : Nat} {vo : Value} {l : List Nat} {m : List (List Int)} {vals : List Value} (h : SolM w B go vo l m vals) (hV : vA m) {u : Nat} (hu : u < m.length) :
    ∃ g c, w.cell? ⟨go, u, none⟩ = some (.slice (some ⟨g, 0, none⟩) (kO m) c) ∧ Ints w (some ⟨g, 0, none⟩) (rowOf m u) ∧ g < w.heap.size ∧ go ≠ g := by
  have := h.cell hu (by rw [hV.sq u hu]; have := hV.k64 (by omega); omega) (row_rng hV hu)
  rw [hV.sq u hu] at this
  exact this
theorem SolM.out {w : World} {B go : Nat} {g c : Nat} {l : List Nat} {m : List (List Int)} {vals : List Value} (h : SolM w B go (.slice (some ⟨g, 0, none⟩) l.length c) l m vals) (hl : l.length ≤ 16) (hw : ∀ x ∈ intL l, -9223372036854775808 ≤ x ∧ x ≤ 9223372036854775807) : Ints w (some ⟨g, 0, none⟩) (intL l) :=
  own_ints h.own (k := 1) (n := l.length) (c := c) (by unfold outR; rw [natVs_intL]; rfl) (intL_length l) (by omega) hw
theorem SolM.hdr {w : World} {B go : Nat} {vo : Value} {l : List Nat} {m : List (List Int)} {vals : List Value} (h : SolM w B go vo l m vals) {i : Nat} (hi : i < m.length) :
    (∃ v, w.cell? ⟨go, i, none⟩ = some v) ∧ w.frozen? ⟨go, i, none⟩ = false ∧ go < w.heap.size ∧ B ≤ go := by
  obtain ⟨v, h1, _⟩ := h.row i hi
  have hb := own_blk h.own (j := 0) rfl
  exact ⟨⟨v, hb.2.2.2.2 i v h1⟩, hb.2.2.2.1 i, hb.2.2.1, hb.2.1⟩
theorem SolK.hdr {w : World} {B go : Nat} {m : List (List Int)} {vals : List Value} {k : Nat} (h : SolK w B go m vals k) {i : Nat} (hi : i < m.length) :
    (∃ v, w.cell? ⟨go, i, none⟩ = some v) ∧ w.frozen? ⟨go, i, none⟩ = false ∧ go < w.heap.size ∧ B ≤ go := by
  have hb := own_blk h.own (j := 0) rfl
  exact ⟨⟨vals[i]'(by rw [h.vl]; exact hi), hb.2.2.2.2 i _ (List.getElem?_eq_getElem _)⟩, hb.2.2.2.1 i, hb.2.2.1, hb.2.1⟩
theorem SolK.begin (W : World) {B : Nat} (m : List (List Int)) (hB : B ≤ W.heap.size) (hn : m.length ≤ 1000) (g : Nat) (hg : g = W.heap.size) :
    SolK (W.alloc (.cells (Array.replicate m.length (.slice none 0 0)) 24)) B g m (List.replicate m.length (.slice none 0 0)) 0 := by
  refine ⟨?_, by simp, fun u hu => by omega⟩
  have := (Owns.nil W B).made hB (Array.replicate m.length (.slice none 0 0)) 24 1 m.length g (by simp) (by simp only [maxLen]; omega) hg
  simpa [hdrR, matRows] using this
/-- A row of a valid matrix that came in. -/
theorem Mat.row1 {w : World} {p : Option Addr} {m : List (List Int)} (h : Mat w p m) (hV : vA m) {u : Nat} (hu : u < m.length) :
    ∃ b o b1 o1 c, p = some ⟨b, o, none⟩ ∧ b < w.heap.size ∧ w.cell? ⟨b, o + u, none⟩ = some (.slice (some ⟨b1, o1, none⟩) (kO m) c) ∧ Ints w (some ⟨b1, o1, none⟩) (rowOf m u) := by
  obtain ⟨_, b, o, rp, rc, h3, h4⟩ := h
  obtain ⟨h5, h6⟩ := h4 u hu
  have hl := hV.sq u hu
  have hk := hV.nk (by omega)
  obtain ⟨b1, o1, g1, _⟩ := h6.open
  have hp := (g1 (by omega)).1
  rw [hp] at h5 h6
  rw [hl] at h5
  exact ⟨b, o, b1, o1, _, (h3 (by omega)).1, (h3 (by omega)).2, h5, h6⟩
theorem SolM.app {w w' : World} {B go : Nat} {vo : Value} {l : List Nat} {m : List (List Int)} {vals : List Value} (h : SolM w B go vo l m vals) {c : Nat} {v' : Value}
    (hO : Owns w' B ((hdrR go m.length vals :: outR vo l :: matRows vals m).set 1 ⟨v', 3, 1, l.length + 1, natVs l ++ [.int .i64 (c : Int)]⟩)) : SolM w' B go v' (l ++ [c]) m vals := by
  refine ⟨?_, h.vl, h.row⟩
  have e : outR v' (l ++ [c]) = ⟨v', 3, 1, l.length + 1, natVs l ++ [.int .i64 (c : Int)]⟩ := by
    unfold outR
    rw [natVs_snoc, List.length_append, List.length_singleton]
  rw [e]
  exact hO

theorem Ints.setOther {w : World} {g : Nat} {xs : List Int} (h : Ints w (some ⟨g, 0, none⟩) xs) {b : Nat} (hb : b ≠ g) (i : Nat) (u : Value) : Ints (w.setCell ⟨b, i, none⟩ u) (some ⟨g, 0, none⟩) xs := by
  obtain ⟨h1, h2, b', o', h3, h4⟩ := h
  by_cases h0 : 0 < xs.length
  · obtain ⟨e, hlt⟩ := h3 h0
    cases e
    refine ⟨h1, h2, g, 0, fun _ => ⟨rfl, by simpa using hlt⟩, fun j hj => ?_⟩
    rw [World.cell?_setCell_other _ _ _ _ (fun e => hb (congrArg Addr.block e))]
    exact h4 j hj
  · have e : xs = [] := List.eq_nil_of_length_eq_zero (by omega)
    subst e
    exact Ints.nil _ _
theorem rI_only (q K c : Nat) (x : Int) : rI q K (onlyR K c x) = matRow (.slice (some ⟨q, 0, none⟩) K K) (onlyR K c x) := by
  unfold matRow
  rw [onlyR_len]

def SolvePost (m : List (List Int)) (w : World) (e : Ending) (w' : World) : Prop :=
  Grew w w' ∧ ((vB m = false ∧ e = .returned (.tuple #[.slice none 0 0, .int .i64 0, .int .i64 1])) ∨
    (vB m = true ∧ (∀ a, ¬ Asg m a) ∧ e = .returned (.tuple #[.slice none 0 0, .int .i64 0, .int .i64 15])) ∨
    (vB m = true ∧ ∃ a q c, BestA m a ∧ e = .returned (.tuple #[.slice q a.length c, .int .i64 (costN m a), .int .i64 0]) ∧ Ints w' q (intL a) ∧ a.length ≤ c))

theorem one_news {w : World} {ad : Addr} (v : Value) (h : w.cell? (ad.add 0) = some v) : ∀ b, some ad = some b → ∀ j u, [v][j]? = some u → w.cell? (b.add j) = some u := by
  intro b hb j u hj
  cases hb
  cases j with
  | zero => simp at hj; subst hj; exact h
  | succ j => simp at hj

set_option maxHeartbeats 8000000 in
theorem solve_p (p : Option Addr) (n cp : Nat) (m : List (List Int)) (w : World) (hM : Mat w p m) (hn : m.length = n) :
    Calls Try.prog 39 #[.slice p n cp] w (SolvePost m w) := by
  subst hn
  have hmm := hM.1
  cases hv : vB m
  case false =>
    have Hv := Lib.hid hv
    go_enter Try.func39, Try.ntmps39
    go_wp2_with ((go_at_call 36; apply Calls.mono; (with_reducible exact valid_p _ _ _ _ _ hM rfl); rintro e w' ⟨rfl, x, rfl⟩))
    go_ret3
    exact ⟨by (repeat (first | exact Grew.refl _ | refine Grew.over ?_ _ | refine Grew.alloc ?_ _ | refine Grew.drew ?_ | refine Grew.drewN ?_ _)), Or.inl ⟨Hv.out, rfl⟩⟩
  case true =>
  have hV := vB_iff.1 hv
  have HV := Lib.hid hV
  have Hv := Lib.hid hv
  have h16 := hV.n16
  have hmk := make_rows m.length (by omega)
  clear hV
  go_enter Try.func39, Try.ntmps39
  go_upto_region 4 with (first
    | (go_at_call 36; apply Calls.mono; (with_reducible exact valid_p _ _ _ _ _ hM rfl); rintro e w' ⟨rfl, x, rfl⟩)
    | (go_at_call 54; apply Calls.mono; (with_reducible exact least_p _ _ _ _ _ (hM.grew (by (repeat (first | exact Grew.refl _ | refine Grew.over ?_ _ | refine Grew.alloc ?_ _ | refine Grew.drew ?_ | refine Grew.drewN ?_ _)))) HV.out rfl); rintro e w2 ⟨⟨z, rfl, hz⟩, hg2⟩; have Hz := Lib.hid hz; have Hg2 : Hid (Grew w w2) := Lib.hid (Grew.trans (by (repeat (first | exact Grew.refl _ | refine Grew.over ?_ _ | refine Grew.alloc ?_ _ | refine Grew.drew ?_ | refine Grew.drewN ?_ _))) hg2); clear hz hg2))
  clear hv
  by_cases hfar : (1099511627776 : Int) ≤ z
  · have Hno : Hid (∀ a, ¬ Asg m a) := Lib.hid (by
      rcases Hz.out with ⟨h, _⟩ | ⟨_, h⟩
      · omega
      · exact h)
    go_wp2
    go_ret3
    exact ⟨Hg2.out, Or.inr (Or.inl ⟨Hv.out, Hno.out, rfl⟩)⟩
  have Hex : Hid ((∃ a, Asg m a ∧ costN m a = z) ∧ ∀ b, Asg m b → z ≤ costN m b) := Lib.hid (by
    rcases Hz.out with ⟨_, h1, h2⟩ | ⟨h, _⟩
    · exact ⟨h1, h2⟩
    · omega)
  clear Hz
  have hs2 := Hg2.out.below.size
  go_wp2
  obtain ⟨go, hgo⟩ : ∃ go, w2.heap.size = go := ⟨_, rfl⟩
  have HK0 : Hid (SolK (w2.alloc (.cells (Array.replicate m.length (.slice none 0 0)) 24)) w.heap.size go m (List.replicate m.length (.slice none 0 0)) 0) := Lib.hid (SolK.begin w2 m hs2 (by omega) go hgo.symm)
  have Hg0 : Hid (Grew w (w2.alloc (.cells (Array.replicate m.length (.slice none 0 0)) 24))) := Lib.hid (Hg2.out.alloc _)
  rw [hgo]
  clear hgo hmk hs2 Hg2
  go_loopw [26] (fun v26 wr => ∃ (k : Nat) (vals : List Value), k ≤ m.length ∧ v26 = .int .i64 k ∧ SolK wr w.heap.size go m vals k ∧ Grew w wr) (fun v26 _ => m.length - (intOf v26).toNat)
  case atStart => exact ⟨0, _, Nat.zero_le _, rfl, HK0.out, Hg0.out⟩
  case round =>
    clear HK0 Hg0
    obtain ⟨k, vals, hk, rfl, hK, hg⟩ := hrel
    have HK := Lib.hid hK
    have Hg := Lib.hid hg
    clear hK hg
    have hsz := Hg.out.below.size
    by_cases hlt : k < m.length
    · obtain ⟨b, o, b1, o1, c1, rfl, hb, hc, hI⟩ := (hM.grew Hg.out).row1 HV.out hlt
      obtain ⟨⟨v0, d0⟩, f0, s0, _⟩ := HK.out.hdr hlt
      have hl := HV.out.sq k hlt
      have hk64 := HV.out.k64 (by omega)
      have hk0 := HV.out.nk (by omega)
      obtain ⟨K, hKe⟩ : ∃ K, kO m = K := ⟨_, rfl⟩
      rw [hKe] at hc hl hk64 hk0
      have Hl := Lib.hid hl
      have hK0 : 0 < K := by omega
      have HI := Lib.hid hI
      clear hl hKe hI
      go_wp2_with (go_at_call 49; apply Calls.mono; (with_reducible exact clone_i _ _ _ _ _ _ HI.out Hl.out hK0 hk64); rintro e w3 ⟨hg3, q, c3, rfl, hO3⟩; have Hg3 := Lib.hid hg3; have HO3 := Lib.hid hO3; have d3 := hg3.cellEq d0; have f3 := hg3.frozenEq s0 f0; have s3 := Nat.lt_of_lt_of_le s0 hg3.below.size; clear hg3 hO3)
      go_roundw
      case rel =>
        refine ⟨k + 1, _, by omega, by go_num, HK.out.set Hg3.out hsz hlt ⟨q, c3, by rw [Hl.out]⟩ HO3.out, ?_⟩
        exact (HK.out.own.grew Hg3.out).setGrew (w0 := w) (Nat.le_refl _) (Hg.out.trans Hg3.out) (k := 0) rfl k _
      case measure => simp [intOf]; omega
    · have hkm : k = m.length := by omega
      subst hkm
      go_wp2
      have HM0 : Hid (SolM (wr.alloc (.cells #[] 3)) w.heap.size go (.slice (some ⟨wr.heap.size, 0, none⟩) 0 0) [] (bd m []) vals) := Lib.hid (by rw [bd_nil]; exact HK.out.start hsz _ rfl)
      have HS0 := Lib.hid (StA.begin Hex.out.1)
      have Hg0 : Hid (Grew w (wr.alloc (.cells #[] 3))) := Lib.hid (Hg.out.alloc _)
      clear HK Hg
      go_loopw [9, 40] (fun v9 v40 wr => ∃ (l : List Nat) (g2 c2 : Nat) (vals : List Value), l.length ≤ m.length ∧ v40 = .int .i64 (l.length : Nat) ∧ v9 = .slice (some ⟨g2, 0, none⟩) l.length c2 ∧ l.length ≤ c2 ∧ StA m z l ∧
        SolM wr w.heap.size go (.slice (some ⟨g2, 0, none⟩) l.length c2) l (bd m l) vals ∧ Grew w wr) (fun _ v40 _ => m.length - (intOf v40).toNat)
      case atStart => exact ⟨[], _, _, _, Nat.zero_le _, rfl, rfl, Nat.le_refl _, HS0.out, HM0.out, Hg0.out⟩
      case round =>
        clear HM0 HS0 Hg0 hsz
        obtain ⟨l, g2, c2, vals, hl, rfl, rfl, hlc, hS, hM1, hg⟩ := hrel
        have HS := Lib.hid hS
        have HM1 := Lib.hid hM1
        have Hg := Lib.hid hg
        clear hS hM1 hg
        have hsz := Hg.out.below.size
        by_cases hlt : l.length < m.length
        · obtain ⟨i, hi⟩ : ∃ i, l.length = i := ⟨_, rfl⟩
          have hib : i < (bd m l).length := by rw [bd_length]; omega
          obtain ⟨gr, cr, d1, hI1, s1, hne⟩ := HM1.out.cellV (vA_bd HV.out HS.out.ok) hib
          rw [kO_bd HV.out l (by omega)] at d1
          have hgo := own_lt HM1.out.own (j := 0) rfl
          have hk64 := HV.out.k64 (by omega)
          obtain ⟨K, hKe⟩ : ∃ K, kO m = K := ⟨_, rfl⟩
          rw [hKe] at d1 hk64
          have HKe := Lib.hid hKe
          have HI0 : Hid (Ints wr (some ⟨gr, 0, none⟩) (rowOf m i)) := Lib.hid (by
            rw [rowOf_bd m l (by omega), if_neg (by omega)] at hI1
            exact hI1)
          clear hI1 hKe
          have HJ0 : Hid (SolM wr w.heap.size go (.slice (some ⟨g2, 0, none⟩) l.length c2) l ((bd m l).set i (rowOf m i)) vals) := Lib.hid (by rw [← hi, bd_set_self hlt]; exact HM1.out)
          have HJ1 : Hid ((rowOf m i).length = K ∧ ∀ v, v < K → -1 ≤ ge (rowOf m i) v ∧ ge (rowOf m i) v ≤ 1000000) := Lib.hid (by
            refine ⟨by rw [HV.out.sq i (by omega), HKe.out], fun v hv => HV.out.b i (by omega) v (by rw [HKe.out]; exact hv)⟩)
          have hl16 : l.length ≤ 16 := by omega
          rw [hi] at hlt hlc hl16 ⊢
          have Hi := Lib.hid hi
          clear hi
          go_wp2
          go_loopw [9, 47] (fun v9 v47 wr => ∃ (c : Nat) (J : List Int) (vals : List Value), c ≤ K ∧ v47 = .int .i64 c ∧ v9 = .slice (some ⟨g2, 0, none⟩) i c2 ∧ (∀ c', c' < c → NoA m z l c') ∧
            (J.length = K ∧ ∀ v, v < K → -1 ≤ ge J v ∧ ge J v ≤ 1000000) ∧ SolM wr w.heap.size go (.slice (some ⟨g2, 0, none⟩) i c2) l ((bd m l).set i J) vals ∧ Ints wr (some ⟨gr, 0, none⟩) (rowOf m i) ∧ Grew w wr) (fun _ v47 _ => K - (intOf v47).toNat)
          case atStart => exact ⟨0, _, _, Nat.zero_le _, rfl, rfl, fun c' hc => by omega, HJ1.out, by have := HJ0.out; rw [Hi.out] at this; exact this, HI0.out, Hg.out⟩
          case round =>
            clear HI0 HJ0 HJ1 Hg d1 s1 hgo hsz HM1
            obtain ⟨c, J, vals, hcK, rfl, rfl, hno, hJ, hM1, hI, hg⟩ := hrel
            have HJ := Lib.hid hJ
            have HM1 := Lib.hid hM1
            have HI := Lib.hid hI
            have Hg := Lib.hid hg
            have Hno := Lib.hid hno
            clear hJ hM1 hI hg hno
            have hsz := Hg.out.below.size
            by_cases hcl : c < K
            · have him : i < m.length := hlt
              have hbs : i < ((bd m l).set i J).length := by rw [List.length_set, bd_length]; exact him
              have hcO : c < kO m := by rw [HKe.out]; exact hcl
              have hlm : l.length < m.length := by rw [Hi.out]; exact him
              obtain ⟨bx, ox, g3, g4⟩ := HI.out.open
              have hrl : (rowOf m i).length = K := by rw [HV.out.sq i him, HKe.out]
              have hxe := (g3 (by omega)).1
              have hxs := (g3 (by omega)).2
              simp only [Option.some.injEq, Addr.mk.injEq, and_true] at hxe
              obtain ⟨rfl, rfl⟩ := hxe
              have d4 := g4 c (by omega)
              rw [Nat.zero_add] at d4
              obtain ⟨x, hx⟩ : ∃ x, ge (rowOf m i) c = x := ⟨_, rfl⟩
              have hat : at2 m i c = x := hx
              have hxb := HV.out.b i him c hcO
              rw [hat] at hxb
              rw [hx] at d4
              obtain ⟨hxb1, hxb2⟩ := hxb
              have Hat := Lib.hid hat
              clear g3 g4 hrl hx hat
              by_cases hneg : x < 0
              · have Hno2 : Hid (∀ c', c' < c + 1 → NoA m z l c') := Lib.hid (fun c' hc' => by
                  by_cases e : c' = c
                  · rw [e]; exact NoA.neg hlm (by rw [Hi.out, Hat.out]; exact hneg)
                  · exact Hno.out c' (by omega))
                go_wp2
                go_roundw
                case rel => exact ⟨c + 1, J, vals, by omega, by go_num, rfl, Hno2.out, HJ.out, HM1.out, HI.out, Hg.out⟩
                case measure => simp [intOf]; omega
              · have hout := HM1.out
                rw [← Hi.out] at hout
                have HO := Lib.hid (hout.out (by omega) (intL_rng HV.out HS.out.ok))
                have Hln : Hid ((intL l).length = i) := Lib.hid (by rw [intL_length, Hi.out])
                clear hout
                by_cases hin : decide ((c : Int) ∈ intL l) = true
                · have Hin := Lib.hid hin
                  have Hno2 : Hid (∀ c', c' < c + 1 → NoA m z l c') := Lib.hid (fun c' hc' => by
                    by_cases e : c' = c
                    · rw [e]; exact NoA.used hlm (intL_mem.1 (of_decide_eq_true Hin.out))
                    · exact Hno.out c' (by omega))
                  clear hin
                  go_wp2_with (go_at_call 55; apply Calls.mono; (with_reducible exact contains_e Hin.out HO.out Hln.out); rintro e w' ⟨rfl, rfl⟩)
                  go_roundw
                  case rel => exact ⟨c + 1, J, vals, by omega, by go_num, rfl, Hno2.out, HJ.out, HM1.out, HI.out, Hg.out⟩
                  case measure => simp [intOf]; omega
                · have Hin := Lib.hid (show decide ((c : Int) ∈ intL l) = false by simpa using hin)
                  have hx0 : 0 ≤ x := by omega
                  have Hok : Hid (LOK m (l ++ [c])) := Lib.hid (HS.out.ok.snoc hlm hcO (by rw [Hi.out, Hat.out]; exact hx0))
                  have Hmb : Hid (((bd m l).set i J).set i (onlyR K c x) = bd m (l ++ [c])) := Lib.hid (by
                    rw [List.set_set]
                    have := bd_set_next hlm c
                    rw [Hi.out, HKe.out, Hat.out] at this
                    exact this)
                  obtain ⟨⟨vg, dg⟩, fg, sg, bg⟩ := HM1.out.hdr hbs
                  have hK1 : 1 ≤ K := by omega
                  clear hin
                  go_upto_region 21 with (first
                    | (go_at_call 55; apply Calls.mono; (with_reducible exact contains_e Hin.out HO.out Hln.out); rintro e w' ⟨rfl, rfl⟩)
                    | (go_at_call 56; apply Calls.mono; (with_reducible exact repeat_p _ _ _ _ _ (by (simp [go_sem, ↓IntWalk.iteOmega])) (by simp) hK1 hk64); rintro e w4 ⟨hg4, q, rfl, hO4⟩; have Hg4 : Hid (Grew wr w4) := Lib.hid (Grew.trans (by (repeat (first | exact Grew.refl _ | refine Grew.over ?_ _ | refine Grew.alloc ?_ _ | refine Grew.drew ?_ | refine Grew.drewN ?_ _))) hg4); have HO4 : Hid (Owns w4 wr.heap.size [rI q K (List.replicate K (-1))]) := Lib.hid (hO4.base (by simp)); clear hg4 hO4))
                  have HO5 : Hid (Owns w4 w.heap.size (rI q K (List.replicate K (-1)) :: hdrR go ((bd m l).set i J).length vals :: outR (.slice (some ⟨g2, 0, none⟩) i c2) l :: matRows vals ((bd m l).set i J))) := Lib.hid (own_join HM1.out.own Hg4.out HO4.out hsz)
                  have dq := own_atI HO5.out (j := 0) rfl hcl
                  have bq := own_lt HO5.out (j := 0) rfl
                  have fq := own_fr HO5.out (j := 0) rfl
                  replace fq := fq c
                  have d4' := Hg4.out.cellEq d4
                  have bgr := Nat.lt_of_lt_of_le hxs Hg4.out.below.size
                  have HO6 : Hid (Owns (w4.setCell ⟨q, c, none⟩ (.int .i64 x)) w.heap.size (matRow (.slice (some ⟨q, 0, none⟩) K K) (onlyR K c x) :: hdrR go ((bd m l).set i J).length vals :: outR (.slice (some ⟨g2, 0, none⟩) i c2) l :: matRows vals ((bd m l).set i J))) := Lib.hid (by
                    rw [← rI_only]
                    exact own_setI HO5.out (j := 0) rfl c x)
                  have Hg6 : Hid (Grew wr (w4.setCell ⟨q, c, none⟩ (.int .i64 x))) := Lib.hid (HO4.out.setGrew (w0 := wr) (Nat.le_refl _) Hg4.out (k := 0) rfl c _)
                  go_upto_region 22 with fail
                  obtain ⟨w5, hw5⟩ : ∃ w5, w4.setCell ⟨q, c, none⟩ (.int .i64 x) = w5 := ⟨_, rfl⟩
                  rw [hw5] at HO6 Hg6 ⊢
                  clear hw5 dq bq fq d4' bgr HO5 HO4 Hg4
                  have dg5 := Hg6.out.cellEq dg
                  have fg5 := Hg6.out.frozenEq sg fg
                  have sg5 := Nat.lt_of_lt_of_le sg Hg6.out.below.size
                  have HM2 : Hid (SolM (w5.setCell ⟨go, i, none⟩ (.slice (some ⟨q, 0, none⟩) K K)) w.heap.size go (.slice (some ⟨g2, 0, none⟩) i c2) l ((bd m l).set i (onlyR K c x)) (vals.set i (.slice (some ⟨q, 0, none⟩) K K))) := Lib.hid (by
                    have h := HM1.out.set hbs (v := .slice (some ⟨q, 0, none⟩) K K) (xs := onlyR K c x) ⟨q, K, by rw [onlyR_len]⟩ HO6.out
                    rw [List.set_set] at h
                    exact h)
                  have Hg7 : Hid (Grew w (w5.setCell ⟨go, i, none⟩ (.slice (some ⟨q, 0, none⟩) K K))) := Lib.hid ((HM1.out.own.grew Hg6.out).setGrew (w0 := w) (Nat.le_refl _) (Hg.out.trans Hg6.out) (k := 0) rfl i _)
                  have HI7 : Hid (Ints (w5.setCell ⟨go, i, none⟩ (.slice (some ⟨q, 0, none⟩) K K)) (some ⟨gr, 0, none⟩) (rowOf m i)) := Lib.hid ((HI.out.grew Hg6.out).setOther hne i _)
                  go_upto_region 23 with fail
                  obtain ⟨w6, hw6⟩ : ∃ w6, w5.setCell ⟨go, i, none⟩ (.slice (some ⟨q, 0, none⟩) K K) = w6 := ⟨_, rfl⟩
                  rw [hw6] at HM2 Hg7 HI7 ⊢
                  clear hw6 dg5 fg5 sg5 HO6 Hg6 dg fg sg bg HM1 HI Hg hsz HO d4 hxs
                  have HMb : Hid (SolM w6 w.heap.size go (.slice (some ⟨g2, 0, none⟩) i c2) l (bd m (l ++ [c])) (vals.set i (.slice (some ⟨q, 0, none⟩) K K))) := Lib.hid (by
                    have h := HM2.out
                    rw [← Hmb.out, List.set_set]
                    exact h)
                  have HVb := Lib.hid (vA_bd HV.out Hok.out)
                  have HMat := Lib.hid (HMb.out.matV HVb.out)
                  have Hbl : Hid ((bd m (l ++ [c])).length = m.length) := Lib.hid (bd_length _ _)
                  go_upto_if 78 with (go_at_call 54; apply Calls.mono; (with_reducible exact least_p _ _ _ _ _ HMat.out HVb.out Hbl.out); rintro e w7 ⟨⟨z2, rfl, hz⟩, hg7⟩; have Hz := Lib.hid hz; have Hg8 := Lib.hid hg7; clear hz hg7)
                  have hsz := (Hg7.out.trans Hg8.out).below.size
                  by_cases he : z2 = z
                  · subst he
                    have he2 : (z2 == z2) = true := by simp
                    have HS2 : Hid (StA m z2 (l ++ [c])) := Lib.hid (HS.out.next HV.out (by omega) hlm hcO (by rw [Hi.out, Hat.out]; exact hx0) Hno.out Hz.out)
                    go_wp2_with (at_builtin; refine wp_append_owns rfl _ _ 24 rfl 3 1 8 (.int .i64 0) Try.underlying24 Try.infoInt rfl (by decide) w.heap.size _ 1 _ _ _ ((HMb.out.own.grew Hg8.out).grew (by (repeat (first | exact Grew.refl _ | refine Grew.over ?_ _ | refine Grew.alloc ?_ _ | refine Grew.drew ?_ | refine Grew.drewN ?_ _)))) rfl rfl _ 1 1 rfl [.int .i64 (c : Int)] rfl (fun h => by cases h) (one_news _ (by (simp [go_sem, ↓IntWalk.iteOmega]))) (by simp [Value.oneCell']) (by simp only [maxLen]; have := Hi.out; omega) (by have := Hi.out; omega) (by first | rfl | omega | (simp <;> omega)) ?_; intro v8 w8 hO8 hg8 hb8 _; obtain ⟨g8, c8, rfl, _, _, hcap8, _⟩ := hO8.some (k := 1) rfl (by omega); have Hg9 := Lib.hid (Grew.grownBy (w0 := w) ((Hg7.out.trans Hg8.out).trans (by (repeat (first | exact Grew.refl _ | refine Grew.over ?_ _ | refine Grew.alloc ?_ _ | refine Grew.drew ?_ | refine Grew.drewN ?_ _)))) hg8 hb8); have HO8 := Lib.hid hO8; have Hcap8 := Lib.hid hcap8; clear hO8 hg8 hb8 hcap8)
                    refine ⟨⟨l ++ [c], g8, c8, vals.set i (.slice (some ⟨q, 0, none⟩) K K), ?_, ?_, ?_, ?_, HS2.out, ?_, Hg9.out⟩, by simp [intOf]; omega⟩
                    · rw [List.length_append, List.length_singleton]; omega
                    · rw [List.length_append, List.length_singleton, Hi.out]; go_num
                    · rw [List.length_append, List.length_singleton]
                    · rw [List.length_append, List.length_singleton]; exact Hcap8.out
                    · rw [List.length_append, List.length_singleton]; exact (HMb.out.grew Hg8.out).app HO8.out
                  · have he2 : (z2 == z) = false := by rw [beq_eq_false_iff_ne]; exact he
                    have Hno2 : Hid (∀ c', c' < c + 1 → NoA m z l c') := Lib.hid (fun c' hc' => by
                      by_cases e : c' = c
                      · rw [e]; exact NoA.other HV.out HS.out.ok Hex.out.2 hlm hcO (by rw [Hi.out, Hat.out]; exact hx0) Hz.out he
                      · exact Hno.out c' (by omega))
                    have HJ2 : Hid ((onlyR K c x).length = K ∧ ∀ v, v < K → -1 ≤ ge (onlyR K c x) v ∧ ge (onlyR K c x) v ≤ 1000000) := Lib.hid ⟨onlyR_len _ _ _, fun v hv => by
                      rw [ge_onlyR x hcl hv]
                      split <;> omega⟩
                    go_wp2
                    go_roundw
                    case rel => exact ⟨c + 1, _, _, by omega, by go_num, rfl, Hno2.out, HJ2.out, HM2.out.grew Hg8.out, HI7.out.grew Hg8.out, Hg7.out.trans Hg8.out⟩
                    case measure => simp [intOf]; omega
            · have hce : c = K := by omega
              exfalso
              exact HS.out.some (by rw [Hi.out]; exact hlt) (fun c' hc' => Hno.out c' (by rw [HKe.out] at hc'; omega))
        · have hle : l.length = m.length := by omega
          have HB := Lib.hid (HS.out.done hle Hex.out.2)
          have HI := Lib.hid (HM1.out.out (by omega) (intL_rng HV.out HS.out.ok))
          clear hle
          go_wp2
          go_ret3
          exact ⟨Hg.out, Or.inr (Or.inr ⟨Hv.out, l, _, _, HB.out.1, by rw [HB.out.2]; rfl, HI.out, hlc⟩)⟩
end Go.Proofs.Ytdenjldadlgniaa
