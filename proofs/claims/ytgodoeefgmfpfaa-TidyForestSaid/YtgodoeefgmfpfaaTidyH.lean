/- place: what the first loop leaves. -/
import Derived.Test.YtgodoeefgmfpfaaTidyG
set_option linter.unusedSimpArgs false
set_option linter.unusedVariables false
namespace Go.Proofs.Ytgodoeefgmfpfaa
open Go.RowKit

theorem Owns.intsX {w : World} {B : Nat} {rs : List Row} (h : Owns w B rs) {k j : Nat} {v : Value} {e : TypeId} {xs : List Int} {n : Nat} (hk : rs[k]? = Option.some ⟨v, e, 1, n, intVs xs⟩) (hn : xs.length = n)
    (hw : ∀ x ∈ xs, -9223372036854775808 ≤ x ∧ x ≤ 9223372036854775807) {gx n' c' sz' : Nat} {e' : TypeId} {vs' : List Value} (hj : rs[j]? = Option.some ⟨.slice (Option.some ⟨gx, 0, Option.none⟩) n' c', e', sz', n', vs'⟩) (hkj : k ≠ j) :
    ∃ p cap, v = .slice p n cap ∧ IntsX w.heap.size gx w p xs ∧ n ≤ cap := by
  obtain ⟨p, cap, rfl, hi, hle, _⟩ := h.ints hk hn hw
  refine ⟨p, cap, rfl, ⟨hi, fun hp => ?_⟩, hle⟩
  obtain ⟨g, c, e1, _, hg, _⟩ := h.some hk (by omega)
  cases e1
  exact ⟨g, 0, rfl, fun e => h.2 k j _ _ hk hj hkj g rfl (by rw [e]; rfl), hg⟩

theorem intL_kids_fits {P : List Int} (h64 : P.length ≤ 64) (v : Int) : ∀ x ∈ intL (kids P v), -9223372036854775808 ≤ x ∧ x ≤ 9223372036854775807 := by
  intro x hx
  unfold intL at hx
  obtain ⟨u, hu, rfl⟩ := List.mem_map.1 hx
  have : u < P.length := List.mem_range.1 (List.mem_filter.1 hu).1
  constructor <;> simp <;> omega

theorem place_stat {w wq : World} {S gc gx cq : Nat} {q : Option Addr} {P W : List Int} {sep : Int} {vals : List Value} {v11 : Value} (h64 : P.length ≤ 64) (hWl : W.length = P.length) (hvl : vals.length = P.length) (hg : Grew w wq)
    (hO : Owns wq w.heap.size (plRows S gc gx P.length (.slice q P.length cq) sep vals (tab P.length (fun _ => 0)) (kRow v11 P (-1) P.length :: inner vals P P.length))) (hJ : Ints w q W) :
    Stat wq.heap.size S gc gx q cq P W sep wq ∧ XAt wq gx (tab P.length (fun _ => 0)) ∧ ∃ rp rc, v11 = .slice rp (kids P (-1)).length rc ∧ IntsX wq.heap.size gx wq rp (intL (kids P (-1))) := by
  have hsz := hg.below.size
  obtain ⟨g0, c0, e0, hS1, hS2, _, _, _, hcS⟩ := (hO.get (k := 0) rfl).2.resolve_left (fun h => by cases h.1)
  cases e0
  obtain ⟨g1, c1, e1, hC1, hC2, _, _, _, hcC⟩ := (hO.get (k := 1) rfl).2.resolve_left (fun h => by cases h.1)
  cases e1
  obtain ⟨g2, c2, e2, hX1, hX2, _, _, _, _⟩ := (hO.get (k := 2) rfl).2.resolve_left (fun h => by cases h.1)
  cases e2
  refine ⟨⟨hcS 0 _ rfl, hcS 1 _ rfl, hcS 2 _ rfl, hcS 3 _ rfl, hS2, hC2, hX2, Nat.le_refl _, ?_, ?_, hWl, ?_, fun v hv => ?_⟩, ?_, ?_⟩
  · exact fun e => hO.2 0 2 _ _ rfl rfl (by omega) S rfl (by rw [e]; rfl)
  · exact fun e => hO.2 1 2 _ _ rfl rfl (by omega) gc rfl (by rw [e]; rfl)
  · refine ⟨hJ.grew hg, fun hp => ?_⟩
    obtain ⟨_, _, b, o, h3, _⟩ := hJ
    obtain ⟨e, hb⟩ := h3 hp
    exact ⟨b, o, e, by omega, by omega⟩
  · obtain ⟨V, hV⟩ : ∃ V, vals[v]? = some V := ⟨vals[v]'(by omega), List.getElem?_eq_getElem _⟩
    have hrow : (plRows S gc gx P.length (.slice q P.length cq) sep vals (tab P.length (fun _ => 0)) (kRow v11 P (-1) P.length :: inner vals P P.length))[v + 4]? = some ⟨V, 3, 1, (kids P v).length, intVs (intL (kids P v))⟩ := by
      show (inner vals P P.length)[v]? = _
      rw [inner_get _ _ _ hv, List.getD_eq_getElem?_getD, hV]
      exact rfl
    obtain ⟨p, cap, rfl, h1, h2⟩ := hO.intsX (j := 2) hrow (by simp [intL]) (intL_kids_fits h64 _) rfl (by omega)
    exact ⟨p, cap, hcC v _ hV, h1, h2⟩
  · rcases (hO.1 2 _ rfl).2 with ⟨h, _⟩ | ⟨g, cap, cur, hv, hb, hh, hle, hm, hs, ht⟩
    · cases h
    · cases hv
      refine ⟨cur, hh, ?_⟩
      have hs' : cur.size = P.length * 1 := hs
      have ht' : cur.toList.take (P.length * 1) = intVs (tab P.length (fun _ => 0)) := ht
      rw [List.take_of_length_le (by simp only [Array.length_toList]; omega)] at ht'
      exact ht'
  · obtain ⟨p, cap, rfl, h1, h2⟩ := hO.intsX (k := 3) (j := 2) rfl (by simp [intL, kidsK_all]) (intL_kids_fits h64 (-1)) rfl (by omega)
    exact ⟨p, cap, rfl, h1⟩

/-- The forest's drawing has every vertex. -/
theorem all_root {P : List Int} (hP : vFor P) (u : Nat) : u < P.length → ∃ c ∈ kids P (-1), Bel P c u := by
  induction u using Nat.strongRecOn with
  | ind u ih =>
    intro hu
    have hb := hP.2 u hu
    by_cases h : ge P u < 0
    · exact ⟨u, mem_kids.2 ⟨hu, by omega⟩, Bel.self⟩
    · obtain ⟨p, hp⟩ := Int.eq_ofNat_of_zero_le (by omega : 0 ≤ ge P u)
      obtain ⟨c, hc, hb'⟩ := ih p (by omega) (by omega)
      exact ⟨c, hc, Bel.up u p hu hp hb'⟩
theorem forD_ok {P W : List Int} {sep : Int} (hP : vFor P) : RowOK P W sep (kids P (-1)) (forD P W sep) := row_ok hP (fun c _ => by omega)
theorem forD_all {P W : List Int} {sep : Int} (hP : vFor P) (u : Nat) : u ∈ verts (forD P W sep) ↔ u < P.length := by
  rw [(forD_ok hP).vert]
  exact ⟨fun ⟨c, hc, hb⟩ => hb.lt (mem_kids.1 hc).1, all_root hP u⟩
theorem forD_nil {P W : List Int} {sep : Int} (hP : vFor P) : forD P W sep = [] ↔ P.length = 0 := by
  constructor
  · intro h
    by_cases h0 : P.length = 0
    · exact h0
    · have := (forD_all (W := W) (sep := sep) hP 0).2 (by omega)
      rw [h] at this
      cases this
  · intro h
    have := (forD_all (W := W) (sep := sep) hP)
    cases he : forD P W sep with
    | nil => rfl
    | cons q l =>
      have h1 := (this q.1).1 (by rw [he]; simp [verts])
      omega
theorem forD_ext {P W : List Int} {sep : Int} (hP : vFor P) {base : Nat} {t : Int} {E : Ext} (hE : IsExt P W (forD P W sep) base t E) : (E.length = 0 ↔ P.length = 0) := by
  constructor
  · intro h
    by_cases h0 : P.length = 0
    · exact h0
    · obtain ⟨x, hx⟩ := mem_verts.1 ((forD_all (W := W) (sep := sep) hP 0).2 (by omega))
      have := hE.1 _ hx
      omega
  · intro h
    rw [(forD_nil hP).2 h] at hE
    rw [isExt_nil hE]
    rfl

/-- The least left and the greatest right of the first j extents (of all). -/
def LR (E : Ext) (j : Nat) (l r : Int) : Prop := (∀ d, d < j → l ≤ (ex E d).1 ∧ (ex E d).2 ≤ r) ∧ (∃ d, d < E.length ∧ (ex E d).1 = l) ∧ ∃ d, d < E.length ∧ (ex E d).2 = r
theorem LR.start {E : Ext} (h : 0 < E.length) : LR E 0 (ex E 0).1 (ex E 0).2 := ⟨fun d hd => by omega, ⟨0, h, rfl⟩, ⟨0, h, rfl⟩⟩
theorem LR.step {E : Ext} {j : Nat} {l r l' r' : Int} (h : LR E j l r) (hj : j < E.length) (h1 : l' = min l (ex E j).1) (h2 : r' = max r (ex E j).2) : LR E (j + 1) l' r' := by
  obtain ⟨a, ⟨d1, b1, b2⟩, ⟨d2, c1, c2⟩⟩ := h
  refine ⟨fun d hd => ?_, ?_, ?_⟩
  · by_cases hdj : d = j
    · subst hdj; omega
    · have := a d (by omega)
      omega
  · by_cases hc : l ≤ (ex E j).1
    · exact ⟨d1, b1, by omega⟩
    · exact ⟨j, hj, by omega⟩
  · by_cases hc : (ex E j).2 ≤ r
    · exact ⟨d2, c1, by omega⟩
    · exact ⟨j, hj, by omega⟩
theorem LR.bd {E : Ext} {j : Nat} {l r : Int} (h : LR E j l r) {m : Int} (hb : ∀ d, d < E.length → (-m ≤ (ex E d).1 ∧ (ex E d).1 ≤ m) ∧ -m ≤ (ex E d).2 ∧ (ex E d).2 ≤ m) : (-m ≤ l ∧ l ≤ m) ∧ -m ≤ r ∧ r ≤ m := by
  obtain ⟨_, ⟨d1, b1, b2⟩, ⟨d2, c1, c2⟩⟩ := h
  have := hb d1 b1
  have := hb d2 c1
  omega

/-- The first j roots' subtrees moved. -/
def MvR (P X : List Int) (b : Int) (j : Nat) (X' : List Int) : Prop :=
  X'.length = X.length ∧ (∀ u, (∃ c ∈ (kids P (-1)).take j, Bel P c u) → ge X' u = ge X u + b) ∧ ∀ u, ¬ (∃ c ∈ (kids P (-1)).take j, Bel P c u) → ge X' u = ge X u
theorem MvR.start (P X : List Int) (b : Int) : MvR P X b 0 X := ⟨rfl, (fun u ⟨c, hc, _⟩ => by simp at hc), fun _ _ => rfl⟩
theorem MvR.new {P : List Int} (hP : vFor P) {j c : Nat} (hc : (kids P (-1))[j]? = some c) {u : Nat} (hu : Bel P c u) : ¬ ∃ d ∈ (kids P (-1)).take j, Bel P d u := by
  obtain ⟨hj, rfl⟩ := List.getElem?_eq_some_iff.1 hc
  rintro ⟨d, hd, hb⟩
  have e := Bel.unique hP hb hu (sib_dep hP (List.mem_of_mem_take hd) (List.getElem_mem hj))
  obtain ⟨i, hi, he⟩ := List.getElem_of_mem hd
  rw [List.getElem_take] at he
  rw [List.length_take] at hi
  have := (List.pairwise_iff_getElem.1 (kids_sorted P (-1))) i j (by omega) hj (by omega)
  omega
theorem MvR.step {P X X1 X2 : List Int} (hP : vFor P) {j c : Nat} {b : Int} (hc : (kids P (-1))[j]? = some c) (h : MvR P X b j X1) (h2 : MvAt P X1 c b X2) : MvR P X b (j + 1) X2 := by
  have hnew := fun u => MvR.new hP hc (u := u)
  obtain ⟨hj, rfl⟩ := List.getElem?_eq_some_iff.1 hc
  have htake : (kids P (-1)).take (j + 1) = (kids P (-1)).take j ++ [(kids P (-1))[j]] := by rw [List.take_succ_eq_append_getElem hj]
  refine ⟨by rw [h2.1, h.1], fun u hu => ?_, fun u hu => ?_⟩
  · by_cases hb : Bel P (kids P (-1))[j] u
    · rw [h2.2.1 u hb, h.2.2 u (hnew u hb)]
    · rw [h2.2.2 u hb]
      refine h.2.1 u ?_
      obtain ⟨c, hc', hbc⟩ := hu
      rw [htake, List.mem_append] at hc'
      rcases hc' with hc' | hc'
      · exact ⟨c, hc', hbc⟩
      · simp at hc'; subst hc'; exact absurd hbc hb
  · have hb : ¬ Bel P (kids P (-1))[j] u := fun hb => hu ⟨(kids P (-1))[j], by rw [htake]; exact List.mem_append_right _ (List.mem_singleton.2 rfl), hb⟩
    rw [h2.2.2 u hb]
    exact h.2.2 u (fun ⟨c, hc', hbc⟩ => hu ⟨c, by rw [htake]; exact List.mem_append_left _ hc', hbc⟩)
theorem MvR.old {P X X1 : List Int} (hP : vFor P) {j c : Nat} {b : Int} (hc : (kids P (-1))[j]? = some c) (h : MvR P X b j X1) {u : Nat} (hu : Bel P c u) : ge X1 u = ge X u := h.2.2 u (MvR.new hP hc hu)

theorem place_done {P W X0 X1 X2 : List Int} {sep t l r : Int} {E : Ext} (hP : vFor P) (hW : wOK W sep) (hX0 : X0.length = P.length) (hE : IsExt P W (forD P W sep) 0 t E) (hLR : LR E E.length l r) (h1 : WrAt X0 (forD P W sep) t X1)
    (h2 : MvR P X1 (-l) (kids P (-1)).length X2) : PlaceOK P W sep X2 (r - l) := by
  obtain ⟨hlr, ⟨d1, b1, b2⟩, ⟨d2, c1, c2⟩⟩ := hLR
  refine ⟨by rw [h2.1, h1.1, hX0], l - t, fun q hq => ?_, ?_, ?_⟩
  · obtain ⟨e1, e2⟩ := hE.1 q hq
    have e3 := (hE.2 (dep P q.1) (by omega)).1 q hq (by omega)
    have e4 := hlr (dep P q.1) (by omega)
    have e5 := h1.2.1 q hq
    have hu := (forD_all (W := W) (sep := sep) hP q.1).1 (mem_verts.2 ⟨q.2, hq⟩)
    have e6 := h2.2.1 q.1 (by rw [List.take_length]; exact all_root hP q.1 hu)
    omega
  · obtain ⟨q, hq, _, e⟩ := (hE.2 d1 b1).2.1
    exact ⟨q, hq, by omega⟩
  · obtain ⟨q, hq, _, e⟩ := (hE.2 d2 c1).2.2
    exact ⟨q, hq, by omega⟩

end Go.Proofs.Ytgodoeefgmfpfaa
