/- Delete of the program. -/
import Derived.Test.YtcahceceeeaeoaaDoorRotU
import Derived.Test.YtcahceceeeaeoaaDoorDel
import Derived.Deep.DeepCutAuto
set_option linter.unusedSimpArgs false
set_option linter.unusedVariables false
namespace Go.Proofs.YtcahceceeeaeoaaDoor
open Go.RowKit
attribute [local go_sem ↓] Go.wp_at_zero Go.wp_at_succ

/-- What Delete returns. -/
structure Del where
  err : Int
  N : Int
  E : List (Int × Int)
  A : List (List Int)
noncomputable def delF (N : Int) (E : List (Int × Int)) (A : List (List Int)) (e : Int) : Del :=
  if vRotB N E A = true then (if 0 ≤ e ∧ e < E.length then ⟨0, N, E.eraseIdx e.toNat, A.map (delRow e)⟩ else ⟨3, 0, [], []⟩) else ⟨13, 0, [], []⟩
def RotPost (D : Del) (w : World) (e : Ending) (w' : World) : Prop :=
  Grew w w' ∧ ∃ pE pA cE cA, e = .returned (.tuple #[.agg #[.int .i64 D.N, .slice pE D.E.length cE, .slice pA D.A.length cA], .int .i64 D.err]) ∧ Prs w' pE D.E ∧ Mat w' pA D.A

theorem Tryd.infoRot : (Tryd.prog.info? 25).map (fun i => (i.zero, i.size, i.bytes)) = some (some (.agg #[.int .i64 0, .slice none 0 0, .slice none 0 0]), 3, 56) := by kernel_rfl
/-- The end of a function that returns a rotation system, which lies in slot 4's block, and an error. -/
theorem ret_rot {fn : Func} {R : Ending → World → Prop} {a : Act} {w : World} (h : fn.results = #[.cell 4 25, .tmp 5]) {g : Nat} {t : TypeId} {fr : Nat × Nat} {v0 v1 v2 er : Value}
    (hp : a.tmps.getD 4 undef = .pointer (some ⟨g, 0, none⟩)) (hg : w.heap[g]? = some (.cells #[v0, v1, v2] t fr)) (hu : a.tmps.getD 5 undef = er) (hd : a.defers = [])
    (hR : R (.returned (.tuple #[.agg #[v0, v1, v2], er])) w) : bodyPost Tryd.prog fn R .ret a w := by
  refine bodyPost_ret ?_ hd hR
  obtain ⟨i0, hi, _, hz1, _⟩ := info_parts Tryd.infoRot
  rw [results_cell_tmp h, hp, hu]
  have hl := run_loadVar_row (P := Tryd.prog) w g t 25 #[v0, v1, v2] fr _ hg Tryd.underlying25 rfl (by simp [hi, hz1])
  simp [asAddr, hl]

theorem zero3 {w : World} {O : Nat} (h : w.heap[O]? = some (.cells #[.int .i64 0, .slice none 0 0, .slice none 0 0] 25 (0, 0))) :
    w.cell? ⟨O, 0, none⟩ = some (.int .i64 0) ∧ w.cell? ⟨O, 1, none⟩ = some (.slice none 0 0) ∧ w.cell? ⟨O, 2, none⟩ = some (.slice none 0 0) ∧ w.frozen? ⟨O, 0, none⟩ = false ∧ w.frozen? ⟨O, 1, none⟩ = false ∧ w.frozen? ⟨O, 2, none⟩ = false :=
  ⟨cell_of_row w O 0 _ _ (0, 0) h, cell_of_row w O 1 _ _ (0, 0) h, cell_of_row w O 2 _ _ (0, 0) h, frozen_of_row w O 0 _ _ h, frozen_of_row w O 1 _ _ h, frozen_of_row w O 2 _ _ h⟩
/-- The block of the result. -/
def outRow (O : Nat) (N : Int) (vE vA : Value) : Row := ⟨.slice (some ⟨O, 0, none⟩) 3 3, 25, 1, 3, [.int .i64 N, vE, vA]⟩
def edRow (g c : Nat) (E : List (Int × Int)) : Row := ⟨.slice (some ⟨g, 0, none⟩) E.length c, 41, 2, E.length, prVs E⟩

theorem out_made {w : World} {B : Nat} {rs : List Row} (h : Owns w B rs) (hB : B ≤ w.heap.size) (N : Int) (vE vA : Value) (O : Nat) (hO : O = w.heap.size) : Owns (w.alloc (.cells #[.int .i64 N, vE, vA] 25)) B (outRow O N vE vA :: rs) := by
  have := h.made hB #[.int .i64 N, vE, vA] 25 1 3 O rfl (by decide) hO
  exact this
theorem out_stored {w : World} {B O : Nat} {rs : List Row} (h : Owns w B rs) (hz : w.heap[O]? = some (.cells #[.int .i64 0, .slice none 0 0, .slice none 0 0] 25 (0, 0))) (hB : B ≤ O) (hne : ∀ (k : Nat) (r : Row), rs[k]? = some r → r.v.ownBlock ≠ some O) (N : Int) (vE vA : Value) :
    Owns (((w.setCell ⟨O, 0, none⟩ (.int .i64 N)).setCell ⟨O, 1, none⟩ vE).setCell ⟨O, 2, none⟩ vA) B (outRow O N vE vA :: rs) := by
  have h0 : Owns w B (outRow O 0 (.slice none 0 0) (.slice none 0 0) :: rs) := by
    refine h.cons ⟨rfl, Or.inr ⟨O, 3, _, rfl, hB, hz, Nat.le_refl _, by decide, rfl, rfl⟩⟩ (fun k r hk g h1 h2 => ?_)
    have : g = O := by simp [outRow, Value.ownBlock] at h1; exact h1.symm
    subst this
    exact hne k r hk h2
  have h1 := h0.set (k := 0) (e := 25) (sz := 1) (n := 3) (g := O) (cap := 3) rfl 0 (.int .i64 N)
  have h2 := h1.set (k := 0) (e := 25) (sz := 1) (n := 3) (g := O) (cap := 3) rfl 1 vE
  exact h2.set (k := 0) (e := 25) (sz := 1) (n := 3) (g := O) (cap := 3) rfl 2 vA
def deRows (O g c : Nat) (N : Int) (E : List (Int × Int)) (vA : Value) (vals : List Value) (fs : List (List Int)) (rs : List Row) : List Row :=
  outRow O N (.slice (some ⟨g, 0, none⟩) E.length c) vA :: edRow g c E :: ⟨vA, 38, 1, fs.length, vals⟩ :: rs

set_option maxRecDepth 8000 in
set_option maxHeartbeats 16000000 in
theorem delete_p (N : Int) (pE pA : Option Addr) (nE nA cE cA : Nat) (E : List (Int × Int)) (A : List (List Int)) (e : Int) (w : World) (hR : RotAt w pE pA E A) (hL : Lim w) (hnE : E.length = nE) (hnA : A.length = nA) :
    Calls Tryd.prog 21 #[.agg #[.int .i64 N, .slice pE nE cE, .slice pA nA cA], .int .i64 e] w (RotPost (delF N E A e) w) := by
  subst hnE hnA
  have he1 := hR.e1
  have ha1 := hR.a1
  have HR := Lib.hid hR
  have HL := Lib.hid hL
  cases hv : vRotB N E A
  case false =>
    have Hf : Hid (delF N E A e = ⟨13, 0, [], []⟩) := Lib.hid (by unfold delF; simp [hv])
    have Hv := Lib.hid hv
    clear hv hR hL
    go_enter Tryd.func21, Tryd.ntmps21
    go_wp2_with (go_at_call 10; apply Calls.mono; (with_reducible exact valid_pe Hv.out (HR.out.grew (by (repeat (first | exact Grew.refl _ | refine Grew.over ?_ _ | refine Grew.alloc ?_ _ | refine Grew.drew ?_ | refine Grew.drewN ?_ _)))) (HL.out.grew (by (repeat (first | exact Grew.refl _ | refine Grew.over ?_ _ | refine Grew.alloc ?_ _ | refine Grew.drew ?_ | refine Grew.drewN ?_ _)))) rfl rfl); rintro e w' ⟨rfl, x, rfl⟩)
    (try simp only [Exit.inBlock, Exit.then])
    refine ret_rot rfl rfl (by rw [heap_over, if_pos (by simp)]; exact heap_alloc2_new w _ _) rfl rfl ?_
    rw [Hf.out]
    exact ⟨by (repeat (first | exact Grew.refl _ | refine Grew.over ?_ _ | refine Grew.alloc ?_ _ | refine Grew.drew ?_ | refine Grew.drewN ?_ _)), none, none, 0, 0, rfl, ⟨by simp, 0, 0, fun h => by simp at h, fun i hi => by simp at hi⟩, Mat.nil _ _⟩
  case true =>
  have Hv := Lib.hid hv
  have hV := vRotB_iff.1 hv
  have HV := Lib.hid hV
  by_cases hneg : e < 0
  · have Hf : Hid (delF N E A e = ⟨3, 0, [], []⟩) := Lib.hid (by unfold delF; rw [if_pos hv, if_neg (by omega)])
    clear hv hR hL hV
    go_enter Tryd.func21, Tryd.ntmps21
    go_wp2_with (go_at_call 10; apply Calls.mono; (with_reducible exact valid_pe Hv.out (HR.out.grew (by (repeat (first | exact Grew.refl _ | refine Grew.over ?_ _ | refine Grew.alloc ?_ _ | refine Grew.drew ?_ | refine Grew.drewN ?_ _)))) (HL.out.grew (by (repeat (first | exact Grew.refl _ | refine Grew.over ?_ _ | refine Grew.alloc ?_ _ | refine Grew.drew ?_ | refine Grew.drewN ?_ _)))) rfl rfl); rintro e w' ⟨rfl, x, rfl⟩)
    (try simp only [Exit.inBlock, Exit.then])
    refine ret_rot rfl rfl (by rw [heap_over, if_pos (by simp)]; exact heap_alloc2_new w _ _) rfl rfl ?_
    rw [Hf.out]
    exact ⟨by (repeat (first | exact Grew.refl _ | refine Grew.over ?_ _ | refine Grew.alloc ?_ _ | refine Grew.drew ?_ | refine Grew.drewN ?_ _)), none, none, 0, 0, rfl, ⟨by simp, 0, 0, fun h => by simp at h, fun i hi => by simp at hi⟩, Mat.nil _ _⟩
  obtain ⟨m, rfl⟩ := Int.eq_ofNat_of_zero_le (by omega : 0 ≤ e)
  clear hneg
  by_cases hme : E.length ≤ m
  · have Hf : Hid (delF N E A m = ⟨3, 0, [], []⟩) := Lib.hid (by unfold delF; rw [if_pos hv, if_neg (by omega)])
    clear hv hR hL hV
    go_enter Tryd.func21, Tryd.ntmps21
    go_wp2_with (go_at_call 10; apply Calls.mono; (with_reducible exact valid_pe Hv.out (HR.out.grew (by (repeat (first | exact Grew.refl _ | refine Grew.over ?_ _ | refine Grew.alloc ?_ _ | refine Grew.drew ?_ | refine Grew.drewN ?_ _)))) (HL.out.grew (by (repeat (first | exact Grew.refl _ | refine Grew.over ?_ _ | refine Grew.alloc ?_ _ | refine Grew.drew ?_ | refine Grew.drewN ?_ _)))) rfl rfl); rintro e w' ⟨rfl, x, rfl⟩)
    (try simp only [Exit.inBlock, Exit.then])
    refine ret_rot rfl rfl (by rw [heap_over, if_pos (by simp)]; exact heap_alloc2_new w _ _) rfl rfl ?_
    rw [Hf.out]
    exact ⟨by (repeat (first | exact Grew.refl _ | refine Grew.over ?_ _ | refine Grew.alloc ?_ _ | refine Grew.drew ?_ | refine Grew.drewN ?_ _)), none, none, 0, 0, rfl, ⟨by simp, 0, 0, fun h => by simp at h, fun i hi => by simp at hi⟩, Mat.nil _ _⟩
  have hml : m < E.length := by omega
  have hN : N = A.length := hV.al.symm
  subst hN
  have Hf : Hid (delF A.length E A m = ⟨0, A.length, E.eraseIdx m, A.map (delRow m)⟩) := Lib.hid (by unfold delF; rw [if_pos hv, if_pos (by omega)]; rfl)
  have HE := Lib.hid hR.hE
  clear hv hR hL hV hme
  go_enter Tryd.func21, Tryd.ntmps21
  go_upto_region 5 with (go_at_call 10; apply Calls.mono; (with_reducible exact valid_pe Hv.out (HR.out.grew (by (repeat (first | exact Grew.refl _ | refine Grew.over ?_ _ | refine Grew.alloc ?_ _ | refine Grew.drew ?_ | refine Grew.drewN ?_ _)))) (HL.out.grew (by (repeat (first | exact Grew.refl _ | refine Grew.over ?_ _ | refine Grew.alloc ?_ _ | refine Grew.drew ?_ | refine Grew.drewN ?_ _)))) rfl rfl); rintro e w' ⟨rfl, x, rfl⟩)
  obtain ⟨wB, hwB⟩ : ∃ wB, (w.alloc (.cells #[.int .i64 A.length, .slice pE E.length cE, .slice pA A.length cA] 25)).alloc (.cells #[.int .i64 0, .slice none 0 0, .slice none 0 0] 25) = wB := ⟨_, rfl⟩
  obtain ⟨wz, hwz⟩ : ∃ wz, over ((w.alloc (.cells #[.int .i64 A.length, .slice pE E.length cE, .slice pA A.length cA] 25)).alloc (.cells #[.int .i64 0, .slice none 0 0, .slice none 0 0] 25)) x = wz := ⟨_, rfl⟩
  have HwB : Hid (Grew w wB) := Lib.hid (by rw [← hwB]; (repeat (first | exact Grew.refl _ | refine Grew.over ?_ _ | refine Grew.alloc ?_ _ | refine Grew.drew ?_ | refine Grew.drewN ?_ _)))
  have hsB : wB.heap.size = w.heap.size + 2 := by rw [← hwB]; simp
  have b0 : wB.cell? ⟨w.heap.size, 0, none⟩ = some (.int .i64 A.length) := by rw [← hwB]; simp [go_sem]
  have b1 : wB.cell? ⟨w.heap.size, 1, none⟩ = some (.slice pE E.length cE) := by rw [← hwB]; simp [go_sem]
  have b2 : wB.cell? ⟨w.heap.size, 2, none⟩ = some (.slice pA A.length cA) := by rw [← hwB]; simp [go_sem]
  have bh : wB.heap[w.heap.size + 1]? = some (.cells #[.int .i64 0, .slice none 0 0, .slice none 0 0] 25) := by rw [← hwB]; exact heap_alloc2_new w _ _
  have Hgz : Hid (Grew wB wz) := Lib.hid (by rw [← hwz, ← hwB]; (repeat (first | exact Grew.refl _ | refine Grew.over ?_ _ | refine Grew.alloc ?_ _ | refine Grew.drew ?_ | refine Grew.drewN ?_ _)))
  rw [hwz]
  have z0 := Hgz.out.cellEq b0
  have z1 := Hgz.out.cellEq b1
  have Hb0 := Lib.hid b0
  have Hb1 := Lib.hid b1
  have Hb2 := Lib.hid b2
  have Hbh := Lib.hid bh
  have hsz := Hgz.out.below.size
  clear hwB hwz b0 b1 b2 bh
  obtain ⟨k, hk⟩ : ∃ k, E.length = m + k + 1 := ⟨E.length - m - 1, by omega⟩
  have hkE : (E.eraseIdx m).length = m + k := by rw [List.length_eraseIdx, if_pos hml]; omega
  have HhE := Lib.hid hkE
  have Hk := Lib.hid hk
  have HEz : Hid (Prs wz pE E) := Lib.hid (HE.out.grew (HwB.out.trans Hgz.out))
  have hwm : IntKind.i64.wrap ((m : Int) + 1) = (m : Int) + 1 := IntWalk.i64_in _ ⟨by omega, by omega⟩
  clear hkE hk
  go_cut [6, 17] (fun v6 v17 wx => ∃ O g c : Nat, v17 = .bool false ∧ v6 = .pointer (some ⟨O, 0, none⟩) ∧ Grew wB wx ∧ Owns wx (w.heap.size + 2) [outRow O A.length (.slice (some ⟨g, 0, none⟩) (E.eraseIdx m).length c) (.slice none 0 0), edRow g c (E.eraseIdx m)])
  case first =>
    go_region_held (fun w' => w'.cell? ⟨w.heap.size, 0, none⟩ = some (.int .i64 A.length) ∧ w'.cell? ⟨w.heap.size, 1, none⟩ = some (.slice pE E.length cE)) (first | (simp [go_sem, ↓IntWalk.iteOmega, *]; done) | go_keep) (first
      | (go_at_call 37; apply Calls.mono; (with_reducible exact clone_p pE E.length cE E _ (HEz.out.grew (by (repeat (first | exact Grew.refl _ | refine Grew.over ?_ _ | refine Grew.alloc ?_ _ | refine Grew.drew ?_ | refine Grew.drewN ?_ _)))) he1 rfl (by omega)); rintro e w2 ⟨hg2, q2, c2, rfl, hO2⟩; have hq2 := (hO2.1 0 _ rfl).lt q2 rfl; simp at hq2; have hgz2 : Grew wz w2 := Grew.trans (by (repeat (first | exact Grew.refl _ | refine Grew.over ?_ _ | refine Grew.alloc ?_ _ | refine Grew.drew ?_ | refine Grew.drewN ?_ _))) hg2; have r0 := hgz2.cellEq z0; have r1 := hgz2.cellEq z1; have hs2 := hgz2.below.size; (try have hz2 : w2.heap[wz.heap.size]? = some (.cells #[.int .i64 0, .slice none 0 0, .slice none 0 0] 25 (0, 0)) := (hg2.below.block wz.heap.size (by simp)).trans (heap_alloc_new wz.drew _)); have HO2 := Lib.hid hO2; have Hgz2 := Lib.hid hgz2; clear hO2 hgz2)
      | (go_at_call 36; apply Calls.mono; (with_reducible exact del_arc q2 E.length c2 m k _ E _ (HO2.out.grew (by (repeat (first | exact Grew.refl _ | refine Grew.over ?_ _ | refine Grew.alloc ?_ _ | refine Grew.drew ?_ | refine Grew.drewN ?_ _)))) Hk.out rfl); rintro e w3 ⟨rfl, hg3, hO3⟩; have hs3 := hg3.size; have hgz3 : Grew wz w3 := Grew.grownBy (Hgz2.out.trans (by (repeat (first | exact Grew.refl _ | refine Grew.over ?_ _ | refine Grew.alloc ?_ _ | refine Grew.drew ?_ | refine Grew.drewN ?_ _)))) hg3 (fun g h => by have := Option.some.inj h; omega); have r3 := hgz3.cellEq z0; have r4 := hgz3.cellEq z1; (first | (have hz3 : w3.heap[wz.heap.size]? = some (.cells #[.int .i64 0, .slice none 0 0, .slice none 0 0] 25 (0, 0)) := (hg3.block wz.heap.size (lt_of_block hz2) (fun e => by have := Option.some.inj e; omega)).trans hz2; obtain ⟨y0, y1, y2, f0, f1, f2⟩ := zero3 hz3; have Hz3 := Lib.hid hz3; clear hz3) | (have hz3 : w3.heap[w2.heap.size]? = some (.cells #[.int .i64 0, .slice none 0 0, .slice none 0 0] 25 (0, 0)) := (hg3.block w2.heap.size (by simp) (fun e => by have := Option.some.inj e; omega)).trans (heap_alloc_new w2 _); obtain ⟨y0, y1, y2, f0, f1, f2⟩ := zero3 hz3; have Hz3 := Lib.hid hz3; clear hz3) | skip); have HO3 := Lib.hid hO3; have Hgz3 := Lib.hid hgz3; clear hO3 hgz3))
    · go_wp2_with fail
      go_meet
      have h := HO3.out
      rw [← HhE.out] at h ⊢
      exact ⟨_, q2, c2, by simp, rfl, Grew.alloc (Hgz.out.trans Hgz3.out) _, out_made (B := w.heap.size + 2) (h.base (show w.heap.size + 2 ≤ wz.heap.size by omega)) (by have := Hgz3.out.below.size; omega) _ _ _ _ rfl⟩
    · go_wp2_with fail
      go_meet
      have h := HO3.out
      rw [← HhE.out] at h ⊢
      exact ⟨_, q2, c2, by simp, rfl, Grew.setCell (Grew.setCell (Grew.setCell (Hgz.out.trans Hgz3.out) (show wB.heap.size ≤ w2.heap.size by omega) _) (show wB.heap.size ≤ w2.heap.size by omega) _) (show wB.heap.size ≤ w2.heap.size by omega) _, out_stored (B := w.heap.size + 2) (h.base (show w.heap.size + 2 ≤ wz.heap.size by omega)) Hz3.out (by omega) (fun k r hk => by
        match k, hk with
        | 0, hk => cases hk; simp [Value.ownBlock]; omega) _ _ _⟩
    · go_wp2_with fail
      go_meet
      have h := HO3.out
      rw [← HhE.out] at h ⊢
      exact ⟨_, q2, c2, by simp, rfl, Grew.setCell (Grew.setCell (Grew.setCell (Hgz.out.trans Hgz3.out) (show wB.heap.size ≤ wz.heap.size by omega) _) (show wB.heap.size ≤ wz.heap.size by omega) _) (show wB.heap.size ≤ wz.heap.size by omega) _, out_stored (B := w.heap.size + 2) (h.base (show w.heap.size + 2 ≤ (wz.alloc (Obj.cells #[Value.int IntKind.i64 0, Value.slice none 0 0, Value.slice none 0 0] 25)).heap.size by simp; omega)) Hz3.out (by omega) (fun k r hk => by
        match k, hk with
        | 0, hk => cases hk; simp [Value.ownBlock]; omega) _ _ _⟩
  case rest =>
    obtain ⟨O, g, c, rfl, rfl, hgx, hOx⟩ := hcut
    have Hgx := Lib.hid hgx
    have HOx := Lib.hid hOx
    have q2 := hgx.cellEq Hb2.out
    clear hgx hOx
    go_wp2_with fail
    go_loopw [8, 9, 41] (fun v8 v9 i wq => ∃ v : Nat, v ≤ A.length ∧ i = .int .i64 v ∧ Grew wB wq ∧ ∃ (vA : Value) (vals : List Value), vals.length = v ∧
      Owns wq (w.heap.size + 2) (deRows O g c A.length (E.eraseIdx m) vA vals ((A.take v).map (delRow m)) (matRows vals ((A.take v).map (delRow m))))) (fun _ _ i _ => A.length - (intOf i).toNat)
    case atStart => 
      refine ⟨0, Nat.zero_le _, rfl, Hgx.out, .slice none 0 0, [], rfl, ?_⟩
      have h := HOx.out
      exact (h.none 38 1).perm ((List.Perm.swap _ _ _).trans (List.Perm.cons _ (List.Perm.swap _ _ _)))
    case round =>
      obtain ⟨v, hv, rfl, hgq, vA, vals, hvl, hOq⟩ := hrel
      obtain ⟨fs, hfs⟩ : ∃ fs, (A.take v).map (delRow m) = fs := ⟨_, rfl⟩
      have hfl : fs.length = v := by rw [← hfs]; simp; omega
      rw [hfs] at hOq
      have Hgq := Lib.hid hgq
      have HOq := Lib.hid hOq
      have Hvl : Hid (vals.length = fs.length) := Lib.hid (hvl.trans hfl.symm)
      have Hfs := Lib.hid hfs
      have hszq := hgq.below.size
      obtain ⟨pO, cO, rfl, _, _, _, _, _⟩ := hOq.form (k := 2) rfl
      have Hfl := Lib.hid hfl
      have hfl2 : fs.length ≤ 100 := by omega
      clear hgq hOq hvl hfs hfl
      by_cases hlt : v < A.length
      · obtain ⟨bA, oA, rp, rc, rfl, lA, cA'⟩ := HR.out.hA.rows (by omega)
        obtain ⟨a1, _⟩ := cA' wr (HwB.out.trans Hgq.out) v hlt
        obtain ⟨_, a2⟩ := cA' w (Grew.refl _) v hlt
        obtain ⟨rv, hrv⟩ : ∃ rv, rp v = rv := ⟨_, rfl⟩
        rw [hrv] at a1 a2
        clear hrv
        have Ha2 := Lib.hid a2
        have hrl := HR.out.r1 v hlt
        clear cA' a2
        go_wp2_with fail
        clear a1
        go_loopw [9, 11, 47] (fun v9 v11 i wk => ∃ k : Nat, k ≤ (rowOf A v).length ∧ i = .int .i64 k ∧ Grew wB wk ∧ wr.heap.size ≤ wk.heap.size ∧
          Owns wk (w.heap.size + 2) (deRows O g c A.length (E.eraseIdx m) (.slice pO fs.length cO) vals fs (⟨v9, 3, 1, (delRow m ((rowOf A v).take k)).length, intVs (delRow m ((rowOf A v).take k))⟩ :: matRows vals fs))) (fun _ _ i _ => (rowOf A v).length - (intOf i).toNat)
        case atStart =>
          refine ⟨0, Nat.zero_le _, rfl, Hgq.out, Nat.le_refl _, ?_⟩
          exact (HOq.out.none 3 1).perm (List.perm_middle (l₁ := [_, _, _])).symm
        case round =>
          obtain ⟨k, hk, rfl, hgk, hsk, hOk⟩ := hrel
          have Hgk := Lib.hid hgk
          have HOk := Lib.hid hOk
          have hszk := hgk.below.size
          have hdl : (delRow m ((rowOf A v).take k)).length ≤ 100 := by
            have : ∀ l : List Int, (delRow m l).length ≤ l.length := fun l => by
              induction l with
              | nil => exact Nat.le_refl _
              | cons x l ih =>
                rw [delRow_cons, List.length_append, List.length_cons]
                have : (delOne m x).length ≤ 1 := by unfold delOne; split <;> (try split) <;> simp
                omega
            have := this ((rowOf A v).take k)
            rw [List.length_take] at this
            omega
          clear hgk hOk
          by_cases hlk : k < (rowOf A v).length
          · obtain ⟨bR, oR, rfl, lR, cR⟩ := Ha2.out.cells (by omega)
            have e1 := cR wr (HwB.out.trans Hgk.out) k hlk
            obtain ⟨d0, d1, _⟩ := dart_of HV.out hlt hlk
            obtain ⟨d, hd⟩ : ∃ d : Nat, ge (rowOf A v) k = d := ⟨(ge (rowOf A v) k).toNat, by omega⟩
            rw [hd] at e1 d1
            have Hst : Hid (delRow m ((rowOf A v).take (k + 1)) = delRow m ((rowOf A v).take k) ++ delOne m d) := Lib.hid (by
              rw [List.take_succ_eq_append_getElem hlk, delRow_app, ← ge_eq _ hlk, hd]
              simp [delRow])
            have hd1 : d < 2 * E.length := by omega
            clear cR d0 d1 hd
            by_cases hgt : m < d / 2
            · have Hone : Hid (delOne m d = [(d : Int) - 2]) := Lib.hid (by unfold delOne; rw [if_pos (by omega)])
              go_wp2_with (at_builtin; refine wp_append_owns rfl _ _ 38 rfl 3 1 8 (.int .i64 0) Tryd.underlying38 Tryd.infoInt rfl (by decide) (w.heap.size + 2) _ 3 _ _ _ (HOk.out.grew (by (repeat (first | exact Grew.refl _ | refine Grew.over ?_ _ | refine Grew.alloc ?_ _ | refine Grew.drew ?_ | refine Grew.drewN ?_ _)))) rfl rfl _ 1 1 rfl [.int .i64 ((d : Int) - 2)] rfl (fun h => by cases h) (one_news _ (by (simp [go_sem, ↓IntWalk.iteOmega]))) (by simp [Value.oneCell']) (by simp only [maxLen]; omega) (by omega) (by first | rfl | omega | (simp <;> omega)) ?_; intro v1 w1 hO1 hg1 hb1 _; have Hg1 := Lib.hid (Grew.grownBy (w0 := wB) (Hgk.out.trans (by (repeat (first | exact Grew.refl _ | refine Grew.over ?_ _ | refine Grew.alloc ?_ _ | refine Grew.drew ?_ | refine Grew.drewN ?_ _)))) hg1 (fun g h => by have := hb1 g h; omega)); have HO1 := Lib.hid hO1; have hs1 := hg1.size; simp at hs1; clear hO1 hg1 hb1)
              go_roundw
              case rel =>
                refine ⟨k + 1, by omega, by go_num, Hg1.out, by omega, ?_⟩
                have h := HO1.out
                rw [Hst.out, Hone.out, List.length_append, intVs_app']
                simp only [deRows, List.set_cons_succ, List.set_cons_zero] at h ⊢
                exact h
              case measure => simp [intOf]; omega
            · by_cases hlt2 : d / 2 < m
              · have Hone : Hid (delOne m d = [(d : Int)]) := Lib.hid (by unfold delOne; rw [if_neg (by omega), if_pos (by omega)])
                go_wp2_with (at_builtin; refine wp_append_owns rfl _ _ 38 rfl 3 1 8 (.int .i64 0) Tryd.underlying38 Tryd.infoInt rfl (by decide) (w.heap.size + 2) _ 3 _ _ _ (HOk.out.grew (by (repeat (first | exact Grew.refl _ | refine Grew.over ?_ _ | refine Grew.alloc ?_ _ | refine Grew.drew ?_ | refine Grew.drewN ?_ _)))) rfl rfl _ 1 1 rfl [.int .i64 (d : Int)] rfl (fun h => by cases h) (one_news _ (by (simp [go_sem, ↓IntWalk.iteOmega]))) (by simp [Value.oneCell']) (by simp only [maxLen]; omega) (by omega) (by first | rfl | omega | (simp <;> omega)) ?_; intro v1 w1 hO1 hg1 hb1 _; have Hg1 := Lib.hid (Grew.grownBy (w0 := wB) (Hgk.out.trans (by (repeat (first | exact Grew.refl _ | refine Grew.over ?_ _ | refine Grew.alloc ?_ _ | refine Grew.drew ?_ | refine Grew.drewN ?_ _)))) hg1 (fun g h => by have := hb1 g h; omega)); have HO1 := Lib.hid hO1; have hs1 := hg1.size; simp at hs1; clear hO1 hg1 hb1)
                go_roundw
                case rel =>
                  refine ⟨k + 1, by omega, by go_num, Hg1.out, by omega, ?_⟩
                  have h := HO1.out
                  rw [Hst.out, Hone.out, List.length_append, intVs_app']
                  simp only [deRows, List.set_cons_succ, List.set_cons_zero] at h ⊢
                  exact h
                case measure => simp [intOf]; omega
              · have Hone : Hid (delOne m d = []) := Lib.hid (by unfold delOne; rw [if_neg (by omega), if_neg (by omega)])
                go_wp2_with fail
                go_roundw
                case rel =>
                  refine ⟨k + 1, by omega, by go_num, Hgk.out.trans (by (repeat (first | exact Grew.refl _ | refine Grew.over ?_ _ | refine Grew.alloc ?_ _ | refine Grew.drew ?_ | refine Grew.drewN ?_ _))), by omega, ?_⟩
                  rw [Hst.out, Hone.out, List.append_nil]
                  exact HOk.out.grew (by (repeat (first | exact Grew.refl _ | refine Grew.over ?_ _ | refine Grew.alloc ?_ _ | refine Grew.drew ?_ | refine Grew.drewN ?_ _)))
                case measure => simp [intOf]; omega
          · have hke : k = (rowOf A v).length := by omega
            obtain ⟨ls, hls⟩ : ∃ ls, delRow m ((rowOf A v).take k) = ls := ⟨_, rfl⟩
            have Hls : Hid (delRow m (rowOf A v) = ls) := Lib.hid (by rw [← hls, hke, List.take_length])
            rw [hls] at HOk hdl
            clear hls
            obtain ⟨p9, c9, rfl, _, _, _, _, _⟩ := HOk.out.form (k := 3) rfl
            obtain ⟨gO, cO', eO, _, kO, _, _, nO, mO⟩ := HOk.out.some (k := 0) rfl (by omega)
            cases eO
            have y2 := mO 2 _ rfl
            have Hst : Hid ((A.take (v + 1)).map (delRow m) = fs ++ [ls]) := Lib.hid (by
              rw [List.take_succ_eq_append_getElem hlt, List.map_append, Hfs.out, ← Hls.out, rowOf_eq A hlt]
              rfl)
            clear nO mO
            go_wp2_with (at_builtin; refine wp_append_owns rfl _ _ 23 rfl 38 1 24 (.slice none 0 0) Tryd.underlying23 Tryd.infoInts rfl (by decide) (w.heap.size + 2) _ 2 _ _ _ (HOk.out.grew (by (repeat (first | exact Grew.refl _ | refine Grew.over ?_ _ | refine Grew.alloc ?_ _ | refine Grew.drew ?_ | refine Grew.drewN ?_ _)))) rfl rfl _ 1 1 rfl [.slice p9 ls.length c9] rfl (fun h => by cases h) (one_news _ (by (simp [go_sem, ↓IntWalk.iteOmega]))) (by simp [Value.oneCell']) (by simp only [maxLen]; omega) (by omega) (by first | rfl | omega | (simp <;> omega)) ?_; intro v1 w1 hO1 hg1 hb1 _; have Hg1 := Lib.hid (Grew.grownBy (w0 := wB) (Hgk.out.trans (by (repeat (first | exact Grew.refl _ | refine Grew.over ?_ _ | refine Grew.alloc ?_ _ | refine Grew.drew ?_ | refine Grew.drewN ?_ _)))) hg1 (fun g h => by have := hb1 g h; omega)); obtain ⟨p1, c1, rfl, _, _, _, _, _⟩ := hO1.form (k := 2) rfl; obtain ⟨gP, cP, eP, _, kP, _, _, nP, mP⟩ := hO1.some (k := 0) rfl (by omega); cases eP; have z2 := mP 2 _ rfl; have f2 := nP 2; have HO1 := Lib.hid hO1; have hs1 := hg1.size; simp at hs1; clear hO1 hg1 hb1 nP mP)
            go_roundw
            case rel =>
              refine ⟨v + 1, by omega, by go_num, Hg1.out.setCell (show wB.heap.size ≤ O by omega) _, .slice p1 (fs.length + 1) c1, vals ++ [.slice p9 ls.length c9], by rw [List.length_append, Hvl.out, Hfl.out]; rfl, ?_⟩
              rw [Hst.out]
              have h := HO1.out.set (k := 0) (e := 25) (sz := 1) (n := 3) (g := O) (cap := 3) rfl 2 (.slice p1 (fs.length + 1) c1)
              simp only [deRows, List.set_cons_succ, List.set_cons_zero] at h
              unfold deRows
              rw [List.length_append, matRows_snoc Hvl.out]
              refine h.perm ?_
              exact List.Perm.cons _ (List.Perm.cons _ (List.Perm.cons _ (List.perm_append_singleton _ _).symm))
            case measure => simp [intOf]; omega
      · have Hall : Hid (fs = A.map (delRow m)) := Lib.hid (by rw [← Hfs.out, List.take_of_length_le (by omega)])
        obtain ⟨gO, cO', eO, _, kO, _, _, nO, mO⟩ := HOq.out.some (k := 0) rfl (by omega)
        cases eO
        have y0 := mO 0 _ rfl
        have y1 := mO 1 _ rfl
        have y2 := mO 2 _ rfl
        have hbh : wr.heap[w.heap.size + 1]? = some (.cells #[.int .i64 0, .slice none 0 0, .slice none 0 0] 25) := (Hgq.out.below.block (w.heap.size + 1) (by omega)).trans Hbh.out
        obtain ⟨z0, z1, z2, f0, f1, f2⟩ := zero3 hbh
        have Hbr := Lib.hid hbh
        clear hbh nO mO
        go_wp2_with fail
        (try simp only [Exit.inBlock, Exit.then])
        have Hb : Hid (∀ l ∈ fs, ∀ x ∈ l, -9223372036854775808 ≤ x ∧ x ≤ 9223372036854775807) := Lib.hid (fun l hl x hx => by
          rw [Hall.out] at hl
          obtain ⟨r, hr, rfl⟩ := List.mem_map.1 hl
          obtain ⟨d, hd, hn, rfl⟩ := mem_delRow.1 hx
          obtain ⟨i, hi, rfl⟩ := List.getElem_of_mem hr
          rw [← rowOf_eq A hi] at hd
          obtain ⟨h0, h1, _⟩ := mem_row HV.out hi hd
          have := sh_in hml h0 h1 hn
          omega)
        refine ret_rot (er := .int .i64 0) rfl rfl (heap_setCell_same _ _ _ _ _ _ (heap_setCell_same _ _ _ _ _ _ (heap_setCell_same _ _ _ _ _ _ Hbr.out))) rfl rfl ?_
        have hGr : Gr (fun k => k = w.heap.size + 1) wr (((wr.setCell ⟨w.heap.size + 1, 0, none⟩ (.int .i64 A.length)).setCell ⟨w.heap.size + 1, 1, none⟩ (.slice (some ⟨g, 0, none⟩) (E.eraseIdx m).length c)).setCell ⟨w.heap.size + 1, 2, none⟩ (.slice pO fs.length cO)) :=
          (((Gr.refl (fun k => k = w.heap.size + 1) wr).setCell (b := w.heap.size + 1) (by rfl) _).setCell (b := w.heap.size + 1) (by rfl) _).setCell (b := w.heap.size + 1) (by rfl) _
        have hOw := HOq.out.gr hGr (fun k h1 _ e => by omega)
        obtain ⟨q1, k1, ev1, _, hP⟩ := prs_of_owns hOw (k := 1) rfl
        cases ev1
        obtain ⟨q2, k2, ev2, hM⟩ := mat_of_owns (rs := [outRow O A.length (.slice (some ⟨g, 0, none⟩) (E.eraseIdx m).length c) (.slice pO fs.length cO), edRow g c (E.eraseIdx m)]) Hvl.out Hb.out (hOw.perm (List.perm_append_comm (l₁ := [_, _])))
        cases ev2
        rw [Hf.out, ← Hall.out]
        exact ⟨Grew.setCell (Grew.setCell (Grew.setCell (HwB.out.trans Hgq.out) (show w.heap.size ≤ w.heap.size + 1 by omega) _) (show w.heap.size ≤ w.heap.size + 1 by omega) _) (show w.heap.size ≤ w.heap.size + 1 by omega) _, _, _, _, _, rfl, hP, hM⟩

end Go.Proofs.YtcahceceeeaeoaaDoor
