/- The reference's row. -/
import Derived.Test.YtgodoeefgmfpfaaTidyB
import Derived.Deep.DeepCutAuto
import Derived.Deep.RegionHeldLaw
import Derived.Test.YtgodoeefgmfpfaaHeld
set_option linter.unusedSimpArgs false
set_option linter.unusedVariables false
namespace Go.Proofs.Ytgodoeefgmfpfaa
open Go.RowKit
attribute [local go_sem ↓] Go.wp_at_zero Go.wp_at_succ

theorem Owns.news {w : World} {B : Nat} {rs : List Row} (h : Owns w B rs) {k : Nat} {p : Option Addr} {cap : Nat} {e : TypeId} {n : Nat} {vs : List Value} (hk : rs[k]? = Option.some ⟨.slice p n cap, e, 1, n, vs⟩) :
    ∀ w' : World, Grew w w' → ∀ b, p = Option.some b → ∀ j u, vs[j]? = Option.some u → w'.cell? (b.add j) = Option.some u := by
  obtain ⟨p', cap', e1, _, _, _, _, h6⟩ := h.form hk
  cases e1
  exact h6
theorem Owns.left {w : World} {B : Nat} {xs ys : List Row} (h : Owns w B (xs ++ ys)) : Owns w B xs := by
  rw [owns_iff] at h ⊢
  exact ⟨fun r hr => h.1 r (List.mem_append_left _ hr), (List.pairwise_append.1 h.2).1⟩
theorem Owns.join {w w' : World} {B : Nat} {xs ys : List Row} (h : Owns w B xs) (h2 : Owns w' w.heap.size ys) (hg : Grew w w') (hB : B ≤ w.heap.size) : Owns w' B (xs ++ ys) := by
  have h' := h.grew hg
  rw [owns_iff] at h' ⊢
  have h3 := (h2.base hB)
  rw [owns_iff] at h3
  refine ⟨fun r hr => (List.mem_append.1 hr).elim (h'.1 r) (h3.1 r), List.pairwise_append.2 ⟨h'.2, h3.2, fun a ha b hb g e1 e2 => ?_⟩⟩
  obtain ⟨i, hi, rfl⟩ := List.getElem_of_mem ha
  obtain ⟨j, hj, rfl⟩ := List.getElem_of_mem hb
  have f1 := ((h.1 i _ (List.getElem?_eq_getElem hi)).lt g e1).2
  have f2 := ((h2.1 j _ (List.getElem?_eq_getElem hj)).lt g e2).1
  omega

/-- What the functions return that make a part. -/
def SubPost (s : Dr) (w : World) (e : Ending) (w' : World) : Prop := Grew w w' ∧ ∃ vV vX, e = .returned (.agg #[vV, vX]) ∧ Owns w' w.heap.size (subRows vV vX s)

/-- The rows of row: the boxes of the forest, of the result and of the part so far, and the part so far. -/
def roRows (h : Nat) (vP vW vD vS vV vX : Value) (o : Dr) (rs : List Row) : List Row :=
  ⟨.slice (some ⟨h, 0, none⟩) 1 1, 45, 4, 1, [vP, vW, vD, vS]⟩ :: ⟨.slice (some ⟨h + 1, 0, none⟩) 1 1, 47, 2, 1, [.slice none 0 0, .slice none 0 0]⟩ ::
  ⟨.slice (some ⟨h + 2, 0, none⟩) 1 1, 47, 2, 1, [vV, vX]⟩ :: ⟨vV, 3, 1, o.length, intVs (vtx o)⟩ :: ⟨vX, 3, 1, o.length, intVs (posD o)⟩ :: rs
theorem ro_start (w : World) (vP vW vD vS : Value) :
    Owns (((w.alloc (.cells #[vP, vW, vD, vS] 45)).alloc (.cells #[.slice none 0 0, .slice none 0 0] 47)).alloc (.cells #[.slice none 0 0, .slice none 0 0] 47)) w.heap.size
      (roRows w.heap.size vP vW vD vS (.slice none 0 0) (.slice none 0 0) [] []) := by
  have h0 := ((Owns.nil w w.heap.size).none 3 1).none 3 1
  have h1 := h0.made (Nat.le_refl _) #[vP, vW, vD, vS] 45 4 1 w.heap.size rfl (by decide) rfl
  have h2 := h1.made (by first | rfl | omega | (simp <;> omega)) #[.slice none 0 0, .slice none 0 0] 47 2 1 (w.heap.size + 1) rfl (by decide) (by simp)
  have h3 := h2.made (by first | rfl | omega | (simp <;> omega)) #[.slice none 0 0, .slice none 0 0] 47 2 1 (w.heap.size + 2) rfl (by decide) (by simp)
  refine h3.perm ?_
  exact (List.Perm.cons _ (List.Perm.swap _ _ _)).trans ((List.Perm.swap _ _ _).trans (List.Perm.cons _ (List.Perm.swap _ _ _)))

/-- The box of the next part, and the part. -/
def roNext (T : Nat) (vV vX : Value) (s : Dr) : List Row := ⟨.slice (some ⟨T, 0, none⟩) 1 1, 47, 2, 1, [vV, vX]⟩ :: subRows vV vX s
/-- The box was made first, or behind the call. -/
theorem ro_box1 {w w' : World} {B : Nat} {rs : List Row} {vV vX : Value} {s : Dr} (h : Owns w B rs) (hB : B ≤ w.heap.size) (T : Nat) (hT : T = w.heap.size)
    (h2 : Owns w' (w.alloc (.cells #[.slice none 0 0, .slice none 0 0] 47)).heap.size (subRows vV vX s)) (hg : Grew (w.alloc (.cells #[.slice none 0 0, .slice none 0 0] 47)) w') :
    Owns ((w'.setCell ⟨T, 0, none⟩ vV).setCell ⟨T, 1, none⟩ vX) B (rs ++ roNext T vV vX s) := by
  subst hT
  have h1 := h.made hB #[.slice none 0 0, .slice none 0 0] 47 2 1 w.heap.size rfl (by decide) rfl
  have h3 := h1.join h2 hg (by simp; omega)
  have h4 := (h3.set (k := 0) rfl 0 vV).set (k := 0) rfl 1 vX
  refine h4.perm ?_
  simp only [List.cons_append, List.set_cons_zero]
  exact List.perm_middle.symm
theorem ro_box2 {w w' : World} {B : Nat} {rs : List Row} {vV vX : Value} {s : Dr} (h : Owns w B rs) (hB : B ≤ w.heap.size) (h2 : Owns w' w.heap.size (subRows vV vX s)) (hg : Grew w w') (T : Nat) (hT : T = w'.heap.size) :
    Owns (w'.alloc (.cells #[vV, vX] 47)) B (rs ++ roNext T vV vX s) := by
  have h3 := h.join h2 hg hB
  have h4 := h3.made (by have := hg.below.size; omega) #[vV, vX] 47 2 1 T rfl (by decide) hT
  refine h4.perm ?_
  exact List.perm_middle.symm

def RowR (p q d : Option Addr) (cp cq cd : Nat) (P W : List Int) (sep : Int) (k : Nat) : Prop := ∀ (par : Int) (lp : Option Addr) (lc : Nat) (w : World), Ints w p P → Ints w q W → Ints w d (depI P) →
    (∀ c ∈ kids P par, P.length ≤ c + k) → Ints w lp (intL (kids P par)) →
    Calls Try.prog 25 #[.agg #[.slice p P.length cp, .slice q P.length cq, .slice d P.length cd, .int .i64 sep], .slice lp (kids P par).length lc] w (SubPost (rowD P W sep (subD P W sep k) (kids P par)) w)
def SubR (p q d : Option Addr) (cp cq cd : Nat) (P W : List Int) (sep : Int) (k : Nat) : Prop := ∀ (v : Nat) (w : World), v < P.length → P.length ≤ v + k → Ints w p P → Ints w q W → Ints w d (depI P) →
    Calls Try.prog 34 #[.agg #[.slice p P.length cp, .slice q P.length cq, .slice d P.length cd, .int .i64 sep], .int .i64 v] w (SubPost (subD P W sep k v) w)

theorem RowOK.bd {P W : List Int} {sep : Int} (hP : vFor P) {l : List Nat} {s : Dr} (hl : ∀ c ∈ l, c < P.length) (hW : wOK W sep) (hok : RowOK P W sep l s) (hz : s ≠ [] → SpanZ W s 0) : ∀ q ∈ s, q.1 < P.length ∧ -134217728 ≤ q.2 ∧ q.2 ≤ 134217728 := by
  intro q hq
  have h1 := (hz (by intro e; rw [e] at hq; cases hq)).bd hW (hok.len hP hl) q hq
  obtain ⟨c, hc, hb⟩ := (hok.vert q.1).1 (mem_verts.2 ⟨q.2, hq⟩)
  exact ⟨hb.lt (hl c hc), by omega, by omega⟩

theorem row_span_step {P W : List Int} {sep : Int} (hP : vFor P) (hW : wOK W sep) {par : Int} {k j c : Nat} (hk : ∀ c ∈ kids P par, P.length ≤ c + k) (hc : (kids P par)[j]? = some c)
    (hz : rowD P W sep (subD P W sep k) ((kids P par).take j) ≠ [] → SpanZ W (rowD P W sep (subD P W sep k) ((kids P par).take j)) 0) (hz' : SpanZ W (subD P W sep k c) 0) :
    rowD P W sep (subD P W sep k) ((kids P par).take (j + 1)) = rowD P W sep (subD P W sep k) ((kids P par).take j) ++ mvD (subD P W sep k c) (shD P W sep (rowD P W sep (subD P W sep k) ((kids P par).take j)) (subD P W sep k c)) ∧
    SpanZ W (rowD P W sep (subD P W sep k) ((kids P par).take (j + 1))) 0 := by
  obtain ⟨hj, rfl⟩ := List.getElem?_eq_some_iff.1 hc
  have hcm := List.getElem_mem hj
  have hsub : ∀ c ∈ kids P par, SubOK P W sep c (subD P W sep k c) := fun c hc => subD_ok hP k c (mem_kids.1 hc).1 (hk c hc)
  have hrow := row_take (W := W) (sep := sep) hP hk j
  rw [List.take_succ_eq_append_getElem hj, rowD_snoc]
  refine ⟨rfl, ?_⟩
  by_cases he : rowD P W sep (subD P W sep k) ((kids P par).take j) = []
  · rw [he, needs_nil, mvD_zero]
    exact hz'
  · refine (hz he).snoc hW hz' ?_
    obtain ⟨q, hq⟩ : ∃ q, q ∈ rowD P W sep (subD P W sep k) ((kids P par).take j) := by
      cases hr : rowD P W sep (subD P W sep k) ((kids P par).take j) with
      | nil => exact absurd hr he
      | cons q l => exact ⟨q, List.mem_cons_self⟩
    obtain ⟨e, he1, he2⟩ := (hrow.vert q.1).1 (mem_verts.2 ⟨q.2, hq⟩)
    obtain ⟨x, hx⟩ := mem_verts.1 ((hrow.vert e).2 ⟨e, he1, Bel.self⟩)
    exact ⟨_, hx, _, (hsub _ hcm).root, sib_dep hP (List.mem_of_mem_take he1) hcm⟩
theorem rowD_span {P W : List Int} {sep : Int} (hP : vFor P) (hW : wOK W sep) {par : Int} {k : Nat} (hk : ∀ c ∈ kids P par, P.length ≤ c + k) (hz' : ∀ c ∈ kids P par, SpanZ W (subD P W sep k c) 0) :
    ∀ j, j ≤ (kids P par).length → rowD P W sep (subD P W sep k) ((kids P par).take j) ≠ [] → SpanZ W (rowD P W sep (subD P W sep k) ((kids P par).take j)) 0
  | 0, _ => fun h => absurd rfl h
  | j + 1, hj => fun _ => (row_span_step hP hW hk (List.getElem?_eq_getElem (by omega)) (rowD_span hP hW hk hz' j (by omega)) (hz' _ (List.getElem_mem (by omega)))).2
theorem subD_span {P W : List Int} {sep : Int} (hP : vFor P) (hW : wOK W sep) : ∀ (k v : Nat), v < P.length → P.length ≤ v + k → SpanZ W (subD P W sep k v) 0
  | 0, v, hv, hk => by omega
  | k + 1, v, hv, hk => by
    have hok := subD_ok (W := W) (sep := sep) hP (k + 1) v hv hk
    have hkk : ∀ c ∈ kids P v, P.length ≤ c + k := fun c hc => by have := kid_gt hP hc; omega
    cases hks : kids P v with
    | nil => rw [subD_leaf hks]; exact SpanZ.one hW v
    | cons a l =>
      have hl0 : 0 < (kids P v).length := by rw [hks]; simp
      obtain ⟨c, h0⟩ : ∃ c, (kids P v)[0]? = some c := ⟨_, List.getElem?_eq_getElem hl0⟩
      obtain ⟨d, h1⟩ : ∃ d, (kids P v)[(kids P v).length - 1]? = some d := ⟨_, List.getElem?_eq_getElem (by omega)⟩
      have hrow := row_ok (W := W) (sep := sep) hP hkk
      obtain ⟨x, hx⟩ := mem_verts.1 ((hrow.vert c).2 ⟨c, List.mem_of_getElem? h0, Bel.self⟩)
      obtain ⟨y, hy⟩ := mem_verts.1 ((hrow.vert d).2 ⟨d, List.mem_of_getElem? h1, Bel.self⟩)
      have hs := rowD_span hP hW hkk (fun c hc => subD_span hP hW k c (mem_kids.1 hc).1 (hkk c hc)) (kids P v).length (Nat.le_refl _)
      rw [List.take_length] at hs
      have hs' := hs (by intro e; rw [e] at hx; cases hx)
      refine hok.spanZ hW (t := (x + y) / 2 + 0) ?_
      rw [subD_node h0 h1, atD_of hrow.nodup hx, atD_of hrow.nodup hy]
      exact hs'.parent hW hx hy v
theorem shD_bd {P W : List Int} {sep : Int} (hW : wOK W sep) {a b : Dr} (ha : ∀ q ∈ a, -134217728 ≤ q.2 ∧ q.2 ≤ 134217728) (hb : ∀ q ∈ b, -134217728 ≤ q.2 ∧ q.2 ≤ 134217728) : -300000000 ≤ shD P W sep a b ∧ shD P W sep a b ≤ 300000000 := by
  unfold shD
  rcases mxO_spec (needs P W sep a b) with ⟨_, h⟩ | ⟨m, h1, h2, _⟩
  · rw [h]; simp
  · rw [h1]
    obtain ⟨p, hp, q, hq, _, rfl⟩ := mem_needs.1 h2
    have := ha p hp
    have := hb q hq
    have := hW.1
    have := hW.2.1
    have := hW.2.2 p.1
    have := hW.2.2 q.1
    simp only [Option.getD_some]
    unfold need rtE lfE
    omega
theorem vtx_wf {s : Dr} {n : Nat} (h : ∀ q ∈ s, q.1 < n) (hn : n ≤ 1000000000) : ∀ x ∈ vtx s, -9223372036854775808 ≤ x ∧ x ≤ 9223372036854775807 :=
  intL_wf (n := n) (fun u hu => by obtain ⟨x, hx⟩ := mem_verts.1 hu; exact h _ hx) hn
theorem posD_wf {s : Dr} (h : ∀ q ∈ s, -1000000000000 ≤ q.2 ∧ q.2 ≤ 1000000000000) : ∀ x ∈ posD s, -9223372036854775808 ≤ x ∧ x ≤ 9223372036854775807 := by
  intro x hx
  obtain ⟨q, hq, rfl⟩ := List.mem_map.1 hx
  have := h q hq
  omega
theorem vtx_app (a b : Dr) : vtx (a ++ b) = vtx a ++ vtx b := by simp [vtx, verts, intL]
theorem posD_app (a b : Dr) : posD (a ++ b) = posD a ++ posD b := by simp [posD]
theorem intVs_app (a b : List Int) : intVs (a ++ b) = intVs a ++ intVs b := by simp [intVs]
theorem Owns.intsOf {w : World} {B : Nat} {rs : List Row} (h : Owns w B rs) {k : Nat} {p : Option Addr} {cap : Nat} {e : TypeId} {xs : List Int} {n : Nat} (hk : rs[k]? = Option.some ⟨.slice p n cap, e, 1, n, intVs xs⟩) (hn : xs.length = n)
    (hw : ∀ x ∈ xs, -9223372036854775808 ≤ x ∧ x ≤ 9223372036854775807) : Ints w p xs := by
  obtain ⟨p', cap', e1, h2, _⟩ := h.ints hk hn hw
  cases e1
  exact h2

set_option maxRecDepth 8000 in
set_option maxHeartbeats 16000000 in
theorem rowr_of_sub (p q d : Option Addr) (cp cq cd : Nat) (P W : List Int) (sep : Int) (hP : vFor P) (hWl : W.length = P.length) (hW : wOK W sep) (k : Nat) (ih : SubR p q d cp cq cd P W sep k) : RowR p q d cp cq cd P W sep k := by
  intro par lp lc w hI hJ hD hk hL
  unfold SubR at ih
  have h64 := hP.1
  have hkl := kids_len P par
  have Hsub := Lib.hid (fun (c : Nat) (hc : c ∈ kids P par) (W1 : World) (hg : Grew w W1) => ih c W1 (mem_kids.1 hc).1 (hk c hc) (hI.grew hg) (hJ.grew hg) (hD.grew hg))
  have HP := Lib.hid hP
  have HWl := Lib.hid hWl
  have HW := Lib.hid hW
  have HI := Lib.hid hI
  have HJ := Lib.hid hJ
  have HD := Lib.hid hD
  have HL := Lib.hid hL
  have Hk := Lib.hid hk
  have Hst := Lib.hid (ro_start w (.slice p P.length cp) (.slice q P.length cq) (.slice d P.length cd) (.int .i64 sep))
  clear ih hP hWl hW hI hJ hD hL hk
  go_enter Try.func25, Try.ntmps25
  go_wp2
  go_loopw [6] (fun i wr => ∃ j : Nat, j ≤ (kids P par).length ∧ i = .int .i64 j ∧ Grew w wr ∧ ∃ vV vX o, o = rowD P W sep (subD P W sep k) ((kids P par).take j) ∧ (o ≠ [] → SpanZ W o 0) ∧
    Owns wr w.heap.size (roRows w.heap.size (.slice p P.length cp) (.slice q P.length cq) (.slice d P.length cd) (.int .i64 sep) vV vX o [])) (fun i _ => (kids P par).length - (intOf i).toNat)
  case atStart => exact ⟨0, Nat.zero_le _, rfl, by (repeat (first | exact Grew.refl _ | refine Grew.over ?_ _ | refine Grew.alloc ?_ _ | refine Grew.drew ?_ | refine Grew.drewN ?_ _)), .slice none 0 0, .slice none 0 0, [], rfl, fun h => absurd rfl h, Hst.out⟩
  case round =>
    obtain ⟨j, hj, rfl, hg, vV, vX, o, ho, hz, hO⟩ := hrel
    have Hg := Lib.hid hg
    have hszr := hg.below.size
    obtain ⟨g0, c0, e0, _, k0, _, _, _, m0⟩ := hO.some (k := 0) rfl (by omega)
    cases e0
    obtain ⟨g2, c2, e2, _, k2, _, _, n2, m2⟩ := hO.some (k := 2) rfl (by omega)
    cases e2
    obtain ⟨g1, c1, e1, _, k1, _, _, n1, m1⟩ := hO.some (k := 1) rfl (by omega)
    cases e1
    obtain ⟨pV, cV, rfl, _, hcV1, hcV2, _, _⟩ := hO.form (k := 3) rfl
    obtain ⟨pX, cX, rfl, _, hcX1, hcX2, _, _⟩ := hO.form (k := 4) rfl
    have HO := Lib.hid hO
    have Ho := Lib.hid ho
    have Hz := Lib.hid hz
    have t0 := m0 0 _ rfl
    have t1 := m0 1 _ rfl
    have t2 := m0 2 _ rfl
    have t3 := m0 3 _ rfl
    have t4 := m2 0 _ rfl
    have t5 := m2 1 _ rfl
    have t6 := n2 0
    have t7 := n2 1
    have r0 := m1 0 _ rfl
    have r1 := m1 1 _ rfl
    have r2 := n1 0
    have r3 := n1 1
    clear hg hO ho hz m0 m2 n2 m1 n1
    by_cases hlt : j < (kids P par).length
    · obtain ⟨c, hc⟩ : ∃ c, (kids P par)[j]? = some c := ⟨_, List.getElem?_eq_getElem hlt⟩
      have hcm := List.mem_of_getElem? hc
      have hcn := (mem_kids.1 hcm).1
      obtain ⟨bL, oL, rfl, lL, cL⟩ := HL.out.cells (by rw [intL_length]; omega)
      have el := cL wr Hg.out j (by rw [intL_length]; exact hlt)
      rw [ge_intL' hc] at el
      have Hcall := Lib.hid (Hsub.out c hcm)
      have Hc := Lib.hid hc
      clear hc cL r0 r1 r2 r3
      go_upto_region 5 with fail
      go_cut [7] (fun v7 wx => ∃ T vV' vX', v7 = .pointer (some ⟨T, 0, none⟩) ∧ Grew wr wx ∧ Owns wx w.heap.size (roRows w.heap.size (.slice p P.length cp) (.slice q P.length cq) (.slice d P.length cd) (.int .i64 sep) (.slice pV o.length cV) (.slice pX o.length cX) o [] ++ roNext T vV' vX' (subD P W sep k c)))
      case first =>
        clear t4 t5 t6 t7
        go_region_held (fun w' => w'.cell? ⟨w.heap.size, 0, none⟩ = some (.slice p P.length cp) ∧ w'.cell? ⟨w.heap.size, 1, none⟩ = some (.slice q P.length cq) ∧ w'.cell? ⟨w.heap.size, 2, none⟩ = some (.slice d P.length cd) ∧ w'.cell? ⟨w.heap.size, 3, none⟩ = some (.int .i64 sep) ∧ w'.cell? ⟨bL, oL + j, none⟩ = some (.int .i64 c)) (first | (simp [go_sem, ↓IntWalk.iteOmega, *]; done) | go_keep) ((go_at_call 34; apply Calls.mono; (with_reducible exact Hcall.out _ (Hg.out.trans (by (repeat (first | exact Grew.refl _ | refine Grew.over ?_ _ | refine Grew.alloc ?_ _ | refine Grew.drew ?_ | refine Grew.drewN ?_ _))))); rintro e w2 ⟨⟨x, rfl⟩, vV', vX', rfl, hO2⟩; obtain ⟨pV', cV', rfl, _, _, _, _, _⟩ := hO2.form (k := 0) rfl; obtain ⟨pX', cX', rfl, _, _, _, _, _⟩ := hO2.form (k := 1) rfl; have HO2 := Lib.hid hO2; clear hO2))
        all_goals
          go_wp2_with fail
          go_meet
          first
            | (refine ⟨_, .slice pV' (subD P W sep k c).length cV', .slice pX' (subD P W sep k c).length cX', rfl, by (repeat (first | exact Grew.refl _ | refine Grew.over ?_ _ | refine Grew.alloc ?_ _ | refine Grew.drew ?_ | refine Grew.drewN ?_ _)), ?_⟩
               exact ro_box2 (HO.out.grew (by (repeat (first | exact Grew.refl _ | refine Grew.over ?_ _ | refine Grew.alloc ?_ _ | refine Grew.drew ?_ | refine Grew.drewN ?_ _)))) (by first | rfl | omega | (simp <;> omega)) HO2.out (by (repeat (first | exact Grew.refl _ | refine Grew.over ?_ _ | refine Grew.alloc ?_ _ | refine Grew.drew ?_ | refine Grew.drewN ?_ _))) _ (by simp))
            | (refine ⟨_, .slice pV' (subD P W sep k c).length cV', .slice pX' (subD P W sep k c).length cX', rfl, by (repeat (first | exact Grew.refl _ | refine Grew.over ?_ _ | refine Grew.alloc ?_ _ | refine Grew.drew ?_ | refine Grew.drewN ?_ _)), ?_⟩
               refine Eq.mp (congrArg (fun W => Owns W _ _) ?_) (ro_box1 (HO.out.grew (by (repeat (first | exact Grew.refl _ | refine Grew.over ?_ _ | refine Grew.alloc ?_ _ | refine Grew.drew ?_ | refine Grew.drewN ?_ _)))) (by first | rfl | omega | (simp <;> omega)) wr.heap.size (by simp) HO2.out (by (repeat (first | exact Grew.refl _ | refine Grew.over ?_ _ | refine Grew.alloc ?_ _ | refine Grew.drew ?_ | refine Grew.drewN ?_ _))))
               simp [go_sem, ↓IntWalk.iteOmega])
      case rest =>
        obtain ⟨T, vV', vX', rfl, hgx, hOx⟩ := hcut
        obtain ⟨s, hsd⟩ : ∃ s, subD P W sep k c = s := ⟨_, rfl⟩
        rw [hsd] at hOx
        have Hgx : Hid (Grew w wc) := Lib.hid (Hg.out.trans hgx)
        have hszx := hgx.below.size
        obtain ⟨sV, cV', rfl, _, hcV'1, hcV'2, _, _⟩ := hOx.form (k := 6) rfl
        obtain ⟨sX, cX', rfl, _, _, _, _, _⟩ := hOx.form (k := 7) rfl
        obtain ⟨gT, cT, eT, hT1, hT2, _, _, nT, mT⟩ := hOx.some (k := 5) rfl (by omega)
        cases eT
        obtain ⟨g0, c0, e0, _, k0', _, _, _, m0⟩ := hOx.some (k := 0) rfl (by omega)
        cases e0
        obtain ⟨g2, c2, e2, _, k2', _, _, n2, m2⟩ := hOx.some (k := 2) rfl (by omega)
        cases e2
        have hTh : T ≠ w.heap.size ∧ T ≠ w.heap.size + 1 ∧ T ≠ w.heap.size + 2 := ⟨fun e => hOx.2 5 0 _ _ rfl rfl (by omega) T rfl (by rw [e]; rfl), fun e => hOx.2 5 1 _ _ rfl rfl (by omega) T rfl (by rw [e]; rfl), fun e => hOx.2 5 2 _ _ rfl rfl (by omega) T rfl (by rw [e]; rfl)⟩
        obtain ⟨hTh0, hTh1, hTh2⟩ := hTh
        have z0 := m0 0 _ rfl
        have z1 := m0 1 _ rfl
        have z2 := m0 2 _ rfl
        have z3 := m0 3 _ rfl
        have z4 := m2 0 _ rfl
        have z5 := m2 1 _ rfl
        have z6 := n2 0
        have z7 := n2 1
        have y0 := mT 0 _ rfl
        have y1 := mT 1 _ rfl
        have y2 := nT 0
        have y3 := nT 1
        have HOx := Lib.hid hOx
        have Hsd := Lib.hid hsd
        have hok : SubOK P W sep c s := hsd ▸ subD_ok HP.out k c hcn (Hk.out c hcm)
        have hz' : SpanZ W s 0 := hsd ▸ subD_span HP.out HW.out k c hcn (Hk.out c hcm)
        have Hz' := Lib.hid hz'
        have hsl : s.length ≤ 64 := hok.len HP.out hcn
        have hsb : ∀ q ∈ s, q.1 < P.length ∧ -134217728 ≤ q.2 ∧ q.2 ≤ 134217728 := fun q hq => by
          have h1 := hz'.bd HW.out hsl q hq
          exact ⟨((hok.vert q.1).1 (mem_verts.2 ⟨q.2, hq⟩)).lt hcn, by omega, by omega⟩
        have hor := row_take (W := W) (sep := sep) HP.out Hk.out j
        rw [← Ho.out] at hor
        have hob := hor.bd HP.out (fun c hc => (mem_kids.1 (List.mem_of_mem_take hc)).1) HW.out Hz.out
        have hol : o.length ≤ 64 := hor.len HP.out (fun c hc => (mem_kids.1 (List.mem_of_mem_take hc)).1)
        obtain ⟨sh, hsh⟩ : ∃ sh, shD P W sep o s = sh := ⟨_, rfl⟩
        have hshb := shD_bd (P := P) (sep := sep) HW.out (a := o) (b := s) (fun q hq => (hob q hq).2) (fun q hq => (hsb q hq).2)
        rw [hsh] at hshb
        have Iv := hOx.intsOf (k := 3) rfl (vtx_length o) (vtx_wf (fun q hq => (hob q hq).1) (by omega))
        have Ix := hOx.intsOf (k := 4) rfl (posD_length o) (posD_wf (fun q hq => by have := hob q hq; omega))
        have Jv := hOx.intsOf (k := 6) rfl (vtx_length s) (vtx_wf (fun q hq => (hsb q hq).1) (by omega))
        have Jx := hOx.intsOf (k := 7) rfl (posD_length s) (posD_wf (fun q hq => by have := hsb q hq; omega))
        have Hshift := Lib.hid (fun (W1 : World) (hg : Grew wc W1) => hsh ▸ shift_r p q d pV pX sV sX cp cq cd cV cX cV' cX' P W sep o s W1 (HJ.out.grew (Hgx.out.trans hg)) (HD.out.grew (Hgx.out.trans hg)) (Iv.grew hg) (Ix.grew hg) (Jv.grew hg) (Jx.grew hg) h64 HWl.out HW.out hob hsb hol hsl)
        have Hmoved := Lib.hid (fun (W1 : World) (hg : Grew wc W1) => moved_r sV sX cV' cX' s sh W1 (Jx.grew hg) hsl (fun q hq => by have := hsb q hq; omega) (by omega))
        have Hsh := Lib.hid hsh
        have Hnx := Lib.hid (row_span_step HP.out HW.out Hk.out Hc.out (Ho.out ▸ Hz.out) (by rw [hsd]; exact hz'))
        clear hgx hOx m0 m2 n2 mT nT hsd hok hz' hsb hor hob hsh Iv Ix Jv Jx t0 t1 t2 t3 t4 t5 t6 t7
        go_upto_region 6 with fail
        go_cut [7] (fun v7 wx => v7 = .pointer (some ⟨T, 0, none⟩) ∧ Grew w wx ∧ ∃ vX2, Owns wx w.heap.size (roRows w.heap.size (.slice p P.length cp) (.slice q P.length cq) (.slice d P.length cd) (.int .i64 sep) (.slice pV o.length cV) (.slice pX o.length cX) o [] ++
          [⟨.slice (some ⟨T, 0, none⟩) 1 1, 47, 2, 1, [.slice sV s.length cV', vX2]⟩, ⟨.slice sV s.length cV', 3, 1, s.length, intVs (vtx s)⟩, ⟨.slice sX s.length cX', 3, 1, s.length, intVs (posD s)⟩, ⟨vX2, 3, 1, s.length, intVs (posD (mvD s sh))⟩]))
        case first =>
          refine wp_region_T (s := 6) (S := fun w' => w'.cell? ⟨w.heap.size, 0, none⟩ = some (.slice p P.length cp) ∧ w'.cell? ⟨w.heap.size, 1, none⟩ = some (.slice q P.length cq) ∧ w'.cell? ⟨w.heap.size, 2, none⟩ = some (.slice d P.length cd) ∧ w'.cell? ⟨w.heap.size, 3, none⟩ = some (.int .i64 sep) ∧
            w'.cell? ⟨w.heap.size + 2, 0, none⟩ = some (.slice pV o.length cV) ∧ w'.cell? ⟨w.heap.size + 2, 1, none⟩ = some (.slice pX o.length cX) ∧ w'.cell? ⟨T, 0, none⟩ = some (.slice sV s.length cV') ∧ w'.cell? ⟨T, 1, none⟩ = some (.slice sX s.length cX')) (by kernel_rfl) ⟨z0, z1, z2, z3, z4, z5, y0, y1⟩ (fun hH => ?_)
          refine wpAnyT_takeL (i := 0) (v := ?_) rfl (by kernel_rfl) (by kernel_rfl) (by kernel_rfl) (by kernel_rfl) (fun _ _ _ h => h) (Or.inl ⟨by rfl, ?_⟩) (by assumption) ?_
          rotate_left
          · (intro w hSw; (try dsimp only at hSw); go_simp; (try with_reducible rfl))
          (try simp only [Act.put, List.setIfInBounds_toArray, List.set_cons_zero, List.set_cons_succ])
          refine wpAnyT_takeL (i := 1) (v := ?_) rfl (by kernel_rfl) (by kernel_rfl) (by kernel_rfl) (by kernel_rfl) (fun _ _ _ h => h) (Or.inl ⟨by rfl, ?_⟩) (by assumption) ?_
          rotate_left
          · (intro w hSw; (try dsimp only at hSw); go_simp; (try with_reducible rfl))
          (try simp only [Act.put, List.setIfInBounds_toArray, List.set_cons_zero, List.set_cons_succ])
          refine wpAnyT_takeL (i := 2) (v := ?_) rfl (by kernel_rfl) (by kernel_rfl) (by kernel_rfl) (by kernel_rfl) (fun _ _ _ h => h) (Or.inl ⟨by rfl, ?_⟩) (by assumption) ?_
          rotate_left
          · (intro w hSw; (try dsimp only at hSw); go_simp; (try with_reducible rfl))
          (try simp only [Act.put, List.setIfInBounds_toArray, List.set_cons_zero, List.set_cons_succ])
          refine wpAnyT_takeL (i := 3) (v := ?_) rfl (by kernel_rfl) (by kernel_rfl) (by kernel_rfl) (by kernel_rfl) (fun _ _ _ h => h) (Or.inl ⟨by rfl, ?_⟩) (by assumption) ?_
          rotate_left
          · (intro w hSw; (try dsimp only at hSw); go_simp; (try with_reducible rfl))
          (try simp only [Act.put, List.setIfInBounds_toArray, List.set_cons_zero, List.set_cons_succ])
          refine wpAnyT_all (rs := [4]) (by kernel_rfl) (by simp) (AllT.consL (i := 4) rfl (fun K hK => ?_) AllT.nil)
          go_simp; go_wp2_with (go_at_call 36; apply Calls.mono; (with_reducible exact Hshift.out _ (by (repeat (first | exact Grew.refl _ | refine Grew.over ?_ _ | refine Grew.alloc ?_ _ | refine Grew.drew ?_ | refine Grew.drewN ?_ _)))); rintro e w2 ⟨rfl, x2, rfl⟩)
          refine hK.out _ _ ?_ (fun hH => ?_)
          · (first | (simp [go_sem, ↓IntWalk.iteOmega, *]; done) | go_keep)
          clear hK K
          (try simp only [Act.put, List.setIfInBounds_toArray, List.set_cons_zero, List.set_cons_succ])
          refine wpAnyT_all (rs := [5]) (by kernel_rfl) (by simp) (AllT.consL (i := 5) rfl (fun K hK => ?_) AllT.nil)
          go_simp; go_wp2_with (go_at_call 35; apply Calls.mono; (with_reducible exact Hmoved.out _ (by (repeat (first | exact Grew.refl _ | refine Grew.over ?_ _ | refine Grew.alloc ?_ _ | refine Grew.drew ?_ | refine Grew.drewN ?_ _)))); rintro e w3 ⟨hg3, vX2, rfl, hO3⟩; obtain ⟨pX2, cX2, rfl, _, _, _, _, _⟩ := hO3.form (k := 0) rfl; have hgw : Grew wc w3 := Grew.trans (by (repeat (first | exact Grew.refl _ | refine Grew.over ?_ _ | refine Grew.alloc ?_ _ | refine Grew.drew ?_ | refine Grew.drewN ?_ _))) hg3; have q0 := hgw.cellEq z0; have q1 := hgw.cellEq z1; have q2 := hgw.cellEq z2; have q3 := hgw.cellEq z3; have q4 := hgw.cellEq z4; have q5 := hgw.cellEq z5; have q6 := hgw.cellEq y0; have q7 := hgw.cellEq y1; have q8 := hgw.frozenEq hT2 y2; have q9 := hgw.frozenEq hT2 y3; have HO3 := Lib.hid hO3; have Hg3 := Lib.hid hg3; have Hgw3 := Lib.hid hgw; clear hO3 hg3 hgw)
          refine hK.out _ _ ?_ (fun hH => ?_)
          · (first | (simp [go_sem, ↓IntWalk.iteOmega, *]; done) | go_keep)
          clear hK K
          (try simp only [Act.put, List.setIfInBounds_toArray, List.set_cons_zero, List.set_cons_succ])
          clear z0 z1 z2 z3 z4 z5 z6 z7 y0 y1 y2 y3
          refine wpAnyT_all (rs := [6]) (by kernel_rfl) (by simp) (AllT.lastL rfl (fun K hK => ?_))
          go_simp
          refine hK.out _ _ ?_
          clear hK K
          (try simp only [Act.put, List.setIfInBounds_toArray, List.set_cons_zero, List.set_cons_succ])
          refine wpAnyT_done (by kernel_rfl) ?_ _
          go_wp2_with fail
          go_meet
          have h1 := (HOx.out.grew (by (repeat (first | exact Grew.refl _ | refine Grew.over ?_ _ | refine Grew.alloc ?_ _ | refine Grew.drew ?_ | refine Grew.drewN ?_ _)) : Grew wc (over wc.drew x2))).join HO3.out Hg3.out (by have := (show Grew wc (over wc.drew x2) by (repeat (first | exact Grew.refl _ | refine Grew.over ?_ _ | refine Grew.alloc ?_ _ | refine Grew.drew ?_ | refine Grew.drewN ?_ _))).below.size; omega)
          have h2 := (h1.set (k := 5) rfl 0 (.slice sV s.length cV')).set (k := 5) rfl 1 (.slice pX2 s.length cX2)
          refine ⟨rfl, ?_, .slice pX2 s.length cX2, h2⟩
          exact Owns.setGrew (h1.set (k := 5) rfl 0 (.slice sV s.length cV')) (Nat.le_refl _) (Owns.setGrew h1 (Nat.le_refl _) (Hgx.out.trans Hgw3.out) (k := 5) rfl 0 (.slice sV s.length cV')) (k := 5) rfl 1 (.slice pX2 s.length cX2)
        case rest =>
          obtain ⟨rfl, hgx2, vX2, hO2⟩ := hcut
          have Hgx2 := Lib.hid hgx2
          have hszy := hgx2.below.size
          obtain ⟨pX2, cX2, rfl, _, _, _, hnX, _⟩ := hO2.form (k := 8) rfl
          obtain ⟨pV3, cV3, e3, _, _, _, hnV, _⟩ := hO2.form (k := 6) rfl
          cases e3
          have HnV := Lib.hid hnV
          have HnX := Lib.hid hnX
          obtain ⟨g2, c2, e2, _, k2', _, _, n2, m2⟩ := hO2.some (k := 2) rfl (by omega)
          cases e2
          obtain ⟨gT, cT, eT, _, kT', _, _, nT, mT⟩ := hO2.some (k := 5) rfl (by omega)
          cases eT
          have z0 := m2 0 _ rfl
          have z1 := m2 1 _ rfl
          have z2 := mT 0 _ rfl
          have z3 := mT 1 _ rfl
          have HO2 := Lib.hid hO2
          have Hnx1 : Hid (o ++ mvD s sh = rowD P W sep (subD P W sep k) ((kids P par).take (j + 1))) := Lib.hid (by rw [Hnx.out.1, Hsd.out, ← Ho.out, Hsh.out])
          have Hnx2 : Hid (SpanZ W (o ++ mvD s sh) 0) := Lib.hid (by rw [Hnx1.out]; exact Hnx.out.2)
          clear hgx2 hO2 hnV hnX m2 n2 mT nT y0 y1 y2 y3 z4 z5 z6 z7
          go_upto_region 7 with fail
          refine wp_region_T (s := 11) (S := fun w' => w'.cell? ⟨w.heap.size + 2, 0, none⟩ = some (.slice pV o.length cV) ∧ w'.cell? ⟨w.heap.size + 2, 1, none⟩ = some (.slice pX o.length cX) ∧ w'.cell? ⟨T, 0, none⟩ = some (.slice sV s.length cV') ∧ w'.cell? ⟨T, 1, none⟩ = some (.slice pX2 s.length cX2)) (by kernel_rfl) ⟨z0, z1, z2, z3⟩ (fun hH => ?_)
          refine wpAnyT_takeL (i := 0) (v := ?_) rfl (by kernel_rfl) (by kernel_rfl) (by kernel_rfl) (by kernel_rfl) (fun _ _ _ h => h) (Or.inl ⟨by rfl, ?_⟩) (by assumption) ?_
          rotate_left
          · (intro w hSw; (try dsimp only at hSw); go_simp; (try with_reducible rfl))
          (try simp only [Act.put, List.setIfInBounds_toArray, List.set_cons_zero, List.set_cons_succ])
          refine wpAnyT_takeL (i := 1) (v := ?_) rfl (by kernel_rfl) (by kernel_rfl) (by kernel_rfl) (by kernel_rfl) (fun _ _ _ h => h) (Or.inl ⟨by rfl, ?_⟩) (by assumption) ?_
          rotate_left
          · (intro w hSw; (try dsimp only at hSw); go_simp; (try with_reducible rfl))
          (try simp only [Act.put, List.setIfInBounds_toArray, List.set_cons_zero, List.set_cons_succ])
          refine wpAnyT_takeL (i := 2) (v := ?_) rfl (by kernel_rfl) (by kernel_rfl) (by kernel_rfl) (by kernel_rfl) (fun _ _ _ h => h) (Or.inl ⟨by rfl, ?_⟩) (by assumption) ?_
          rotate_left
          · (intro w hSw; (try dsimp only at hSw); go_simp; (try with_reducible rfl))
          (try simp only [Act.put, List.setIfInBounds_toArray, List.set_cons_zero, List.set_cons_succ])
          refine wpAnyT_takeL (i := 3) (v := ?_) rfl (by kernel_rfl) (by kernel_rfl) (by kernel_rfl) (by kernel_rfl) (fun _ _ _ h => h) (Or.inl ⟨by rfl, ?_⟩) (by assumption) ?_
          rotate_left
          · (intro w hSw; (try dsimp only at hSw); go_simp; (try with_reducible rfl))
          (try simp only [Act.put, List.setIfInBounds_toArray, List.set_cons_zero, List.set_cons_succ])
          refine wpAnyT_takeL (i := 5) (v := ?_) rfl (by kernel_rfl) (by kernel_rfl) (by kernel_rfl) (by kernel_rfl) (fun _ _ _ h => h) (Or.inl ⟨by rfl, ?_⟩) (by assumption) ?_
          rotate_left
          · (intro w hSw; (try dsimp only at hSw); go_simp; (try with_reducible rfl))
          (try simp only [Act.put, List.setIfInBounds_toArray, List.set_cons_zero, List.set_cons_succ])
          refine wpAnyT_takeL (i := 6) (v := ?_) rfl (by kernel_rfl) (by kernel_rfl) (by kernel_rfl) (by kernel_rfl) (fun _ _ _ h => h) (Or.inl ⟨by rfl, ?_⟩) (by assumption) ?_
          rotate_left
          · (intro w hSw; (try dsimp only at hSw); go_simp; (try with_reducible rfl))
          (try simp only [Act.put, List.setIfInBounds_toArray, List.set_cons_zero, List.set_cons_succ])
          refine wpAnyT_takeL (i := 7) (v := ?_) rfl (by kernel_rfl) (by kernel_rfl) (by kernel_rfl) (by kernel_rfl) (fun _ _ _ h => h) (Or.inl ⟨by rfl, ?_⟩) (by assumption) ?_
          rotate_left
          · (intro w hSw; (try dsimp only at hSw); go_simp; (try with_reducible rfl))
          (try simp only [Act.put, List.setIfInBounds_toArray, List.set_cons_zero, List.set_cons_succ])
          refine wpAnyT_takeL (i := 8) (v := ?_) rfl (by kernel_rfl) (by kernel_rfl) (by kernel_rfl) (by kernel_rfl) (fun _ _ _ h => h) (Or.inl ⟨by rfl, ?_⟩) (by assumption) ?_
          rotate_left
          · (intro w hSw; (try dsimp only at hSw); go_simp; (try with_reducible rfl))
          (try simp only [Act.put, List.setIfInBounds_toArray, List.set_cons_zero, List.set_cons_succ])
          clear z0 z1 z2 z3
          refine wpAnyT_all (rs := [4]) (by kernel_rfl) (by simp) (AllT.consL (i := 4) rfl (fun K hK => ?_) AllT.nil)
          · refine step_append_owns rfl _ _ 22 (by rfl) 3 1 8 (.int .i64 0) Try.underlying22 Try.infoInt rfl (by decide) w.heap.size _ 3 _ _ _ (HO2.out.grew (by (repeat (first | exact Grew.refl _ | refine Grew.over ?_ _ | refine Grew.alloc ?_ _ | refine Grew.drew ?_ | refine Grew.drewN ?_ _)))) rfl (by rfl) sV s.length cV' (by rfl) (intVs (vtx s)) (by rw [intVs_length, vtx_length, Nat.mul_one]) HnV.out ((HO2.out.grew (by (repeat (first | exact Grew.refl _ | refine Grew.over ?_ _ | refine Grew.alloc ?_ _ | refine Grew.drew ?_ | refine Grew.drewN ?_ _)))).news (k := 6) rfl _ (Grew.refl _)) (intVs_one _) (by simp only [maxLen]; omega) (by omega) (by first | rfl | omega | (simp <;> omega)) ?_
            intro v1 w1 hO1 hg1 hb1 _
            obtain ⟨pV1, cV1, rfl, _, _, _, _, _⟩ := hO1.form (k := 3) rfl
            obtain ⟨g2, c2, e2, _, k2', _, _, n2, m2⟩ := hO1.some (k := 2) rfl (by omega)
            cases e2
            obtain ⟨gT, cT, eT, _, kT', _, _, nT, mT⟩ := hO1.some (k := 5) rfl (by omega)
            cases eT
            have q0 := m2 0 _ rfl
            have q1 := m2 1 _ rfl
            have q2 := mT 0 _ rfl
            have q3 := mT 1 _ rfl
            have q4 := n2 0
            have q5 := n2 1
            refine hK.out _ _ ⟨q0, q1, q2, q3⟩ (fun hH => ?_)
            clear hK K m2 n2 mT nT
            (try simp only [Act.put, List.setIfInBounds_toArray, List.set_cons_zero, List.set_cons_succ])
            have hG1 : Grew w w1 := Grew.grownBy (w0 := w) (Hgx2.out.trans (by (repeat (first | exact Grew.refl _ | refine Grew.over ?_ _ | refine Grew.alloc ?_ _ | refine Grew.drew ?_ | refine Grew.drewN ?_ _)))) hg1 hb1
            have hsz1 := hg1.size
            simp at hsz1
            refine wpAnyT_all (rs := [9]) (by kernel_rfl) (by simp) (AllT.consL (i := 9) rfl (fun K hK => ?_) AllT.nil)
            refine step_append_owns rfl _ _ 22 (by rfl) 3 1 8 (.int .i64 0) Try.underlying22 Try.infoInt rfl (by decide) w.heap.size _ 4 _ _ _ hO1 rfl (by rfl) pX2 s.length cX2 (by rfl) (intVs (posD (mvD s sh))) (by rw [intVs_length, posD_length, mvD_length, Nat.mul_one]) HnX.out (hO1.news (k := 8) rfl _ (Grew.refl _)) (intVs_one _) (by simp only [maxLen]; omega) (by omega) (by first | rfl | omega | (simp <;> omega)) ?_
            intro v2 w2 hO3 hg2 hb1 _
            obtain ⟨pX1, cX1, rfl, _, _, _, _, _⟩ := hO3.form (k := 4) rfl
            obtain ⟨g2, c2, e2, _, k2', _, _, n2, m2⟩ := hO3.some (k := 2) rfl (by omega)
            cases e2
            obtain ⟨gT, cT, eT, _, kT', _, _, nT, mT⟩ := hO3.some (k := 5) rfl (by omega)
            cases eT
            have q0 := m2 0 _ rfl
            have q1 := m2 1 _ rfl
            have q2 := mT 0 _ rfl
            have q3 := mT 1 _ rfl
            have q4 := n2 0
            have q5 := n2 1
            refine hK.out _ _ ⟨q0, q1, q2, q3⟩ (fun hH => ?_)
            clear hK K m2 n2 mT nT
            (try simp only [Act.put, List.setIfInBounds_toArray, List.set_cons_zero, List.set_cons_succ])
            have hG2 : Grew w w2 := Grew.grownBy (w0 := w) hG1 hg2 hb1
            have HO3 := Lib.hid hO3
            have HG2 := Lib.hid hG2
            clear hO1 hO3 hG1 hG2 hg1 hg2
            refine wpAnyT_takeL (i := 10) (v := ?_) rfl (by kernel_rfl) (by kernel_rfl) (by kernel_rfl) (by kernel_rfl) (fun _ _ _ h => h) (Or.inl ⟨by rfl, ?_⟩) (by assumption) ?_
            rotate_left
            · (intro w hSw; (try dsimp only at hSw); go_simp; (try with_reducible rfl))
            (try simp only [Act.put, List.setIfInBounds_toArray, List.set_cons_zero, List.set_cons_succ])
            refine wpAnyT_all (rs := [11]) (by kernel_rfl) (by simp) (AllT.lastL rfl (fun K hK => ?_))
            go_simp
            refine hK.out _ _ ?_
            clear hK K
            (try simp only [Act.put, List.setIfInBounds_toArray, List.set_cons_zero, List.set_cons_succ])
            refine wpAnyT_done (by kernel_rfl) ?_ _
            go_wp2
            go_roundw
            case rel =>
              have h1 := (HO3.out.set (k := 2) rfl 0 (.slice pV1 (o.length + s.length) cV1)).set (k := 2) rfl 1 (.slice pX1 (o.length + s.length) cX1)
              refine ⟨j + 1, by omega, by go_num, ?_, .slice pV1 (o.length + s.length) cV1, .slice pX1 (o.length + s.length) cX1, o ++ mvD s sh, Hnx1.out, fun _ => Hnx2.out, ?_⟩
              · exact Owns.setGrew (HO3.out.set (k := 2) rfl 0 (.slice pV1 (o.length + s.length) cV1)) (Nat.le_refl _) (Owns.setGrew HO3.out (Nat.le_refl _) HG2.out (k := 2) rfl 0 (.slice pV1 (o.length + s.length) cV1)) (k := 2) rfl 1 (.slice pX1 (o.length + s.length) cX1)
              · unfold roRows
                rw [List.length_append, mvD_length, vtx_app, posD_app, vtx_mvD, intVs_app, intVs_app]
                exact Owns.left (xs := [_, _, _, _, _]) h1
            case measure => simp [intOf]; omega
    · have hje : j = (kids P par).length := by omega
      have Hfin : Hid (o = rowD P W sep (subD P W sep k) (kids P par)) := Lib.hid (by rw [Ho.out, hje, List.take_length])
      clear hje
      go_wp2
      refine bodyPost_ret (v := .agg #[.slice pV o.length cV, .slice pX o.length cX]) (by simp [results, Try.results25, go_sem, t4, t5, r0, r1]) rfl ?_
      have h1 := (HO.out.set (k := 1) rfl 0 (.slice pV o.length cV)).set (k := 1) rfl 1 (.slice pX o.length cX)
      have h2 := Owns.setGrew HO.out (Nat.le_refl _) Hg.out (k := 1) rfl 0 (.slice pV o.length cV)
      have h3 := Owns.setGrew (HO.out.set (k := 1) rfl 0 (.slice pV o.length cV)) (Nat.le_refl _) h2 (k := 1) rfl 1 (.slice pX o.length cX)
      rw [← Hfin.out]
      exact ⟨h3, _, _, rfl, h1.tail.tail.tail⟩

end Go.Proofs.Ytgodoeefgmfpfaa
