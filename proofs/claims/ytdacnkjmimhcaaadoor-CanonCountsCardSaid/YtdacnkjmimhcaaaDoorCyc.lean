/- Cycles of a map, and how many there are. -/
import Derived.Test.YtdacnkjmimhcaaaDoorSl
set_option linter.unusedSimpArgs false
set_option linter.unusedVariables false
namespace Go.Proofs.YtdacnkjmimhcaaaDoor

/-- From x through t to z, each the image of the one before. -/
def Ch (f : Int → Int) : Int → List Int → Int → Prop
  | x, [], z => f x = z
  | x, y :: t, z => f x = y ∧ Ch f y t z
def Cyc (f : Int → Int) : List Int → Prop
  | [] => False
  | x :: t => Ch f x t x

theorem Ch.app {f : Int → Int} : ∀ {t : List Int} {x y : Int} {u : List Int} {z : Int}, Ch f x (t ++ y :: u) z ↔ Ch f x t y ∧ Ch f y u z
  | [], _, _, _, _ => Iff.rfl
  | v :: t, x, y, u, z => by
    show (f x = v ∧ Ch f v (t ++ y :: u) z) ↔ ((f x = v ∧ Ch f v t y) ∧ Ch f y u z)
    rw [Ch.app (t := t), and_assoc]
theorem Cyc.rot {f : Int → Int} : ∀ {u v : List Int}, Cyc f (u ++ v) → Cyc f (v ++ u)
  | [], v, h => by simpa using h
  | x :: t, [], h => by simpa using h
  | x :: t, y :: w, h => by
    have h' : Ch f x (t ++ y :: w) x := h
    obtain ⟨h1, h2⟩ := Ch.app.1 h'
    exact Ch.app.2 ⟨h2, h1⟩
theorem Cyc.ne {f : Int → Int} {l : List Int} (h : Cyc f l) : l ≠ [] := by
  rintro rfl
  exact h
theorem Ch.idx {f : Int → Int} : ∀ {t : List Int} {x z : Int}, Ch f x t z → ∀ k, k < t.length + 1 → f (ge (x :: t) k) = if k < t.length then ge t k else z
  | [], x, z, h, k, hk => by
    have : k = 0 := by simp at hk; omega
    subst this
    rw [if_neg (by simp), ge_cons_zero]
    exact h
  | y :: t, x, z, h, k, hk => by
    obtain ⟨h1, h2⟩ := h
    cases k with
    | zero => rw [ge_cons_zero, if_pos (by simp), ge_cons_zero]; exact h1
    | succ k =>
      rw [ge_cons_succ, Ch.idx h2 k (by simpa using hk)]
      by_cases e : k < t.length
      · rw [if_pos e, if_pos (by simpa using e), ge_cons_succ]
      · rw [if_neg e, if_neg (by simpa using e)]
theorem Ch.of_idx {f : Int → Int} : ∀ {t : List Int} {x z : Int}, (∀ k, k < t.length + 1 → f (ge (x :: t) k) = if k < t.length then ge t k else z) → Ch f x t z
  | [], x, z, h => by have := h 0 (by simp); rw [ge_cons_zero, if_neg (by simp)] at this; exact this
  | y :: t, x, z, h => by
    refine ⟨?_, Ch.of_idx fun k hk => ?_⟩
    · have := h 0 (by simp)
      rw [ge_cons_zero, if_pos (by simp), ge_cons_zero] at this
      exact this
    · have := h (k + 1) (by simpa using hk)
      rw [ge_cons_succ] at this
      rw [this]
      by_cases e : k < t.length
      · rw [if_pos e, if_pos (by simpa using e), ge_cons_succ]
      · rw [if_neg e, if_neg (by simpa using e)]
theorem Cyc.idx {f : Int → Int} {l : List Int} (h : Cyc f l) {k : Nat} (hk : k < l.length) : f (ge l k) = ge l ((k + 1) % l.length) := by
  cases l with
  | nil => exact h.elim
  | cons x t =>
    have := Ch.idx h k (by simpa using hk)
    rw [this, List.length_cons]
    by_cases e : k < t.length
    · rw [if_pos e, Nat.mod_eq_of_lt (by omega), ge_cons_succ]
    · have : k = t.length := by simp at hk; omega
      subst this
      rw [if_neg e, Nat.mod_self, ge_cons_zero]
theorem Cyc.of_idx {f : Int → Int} {l : List Int} (hn : l ≠ []) (h : ∀ k, k < l.length → f (ge l k) = ge l ((k + 1) % l.length)) : Cyc f l := by
  cases l with
  | nil => exact hn rfl
  | cons x t =>
    refine Ch.of_idx fun k hk => ?_
    have := h k (by simpa using hk)
    rw [this, List.length_cons]
    by_cases e : k < t.length
    · rw [if_pos e, Nat.mod_eq_of_lt (by omega), ge_cons_succ]
    · have : k = t.length := by omega
      subst this
      rw [if_neg e, Nat.mod_self, ge_cons_zero]
theorem Ch.img {f : Int → Int} : ∀ {t : List Int} {x z : Int}, Ch f x t z → ∀ y ∈ x :: t, f y ∈ t ∨ f y = z
  | [], x, z, h, y, hy => by rw [List.mem_singleton.1 hy]; exact Or.inr h
  | v :: t, x, z, h, y, hy => by
    obtain ⟨h1, h2⟩ := h
    rcases List.mem_cons.1 hy with rfl | hy
    · exact Or.inl (by rw [h1]; exact List.mem_cons_self)
    · exact (Ch.img h2 y hy).imp (List.mem_cons_of_mem _) id
theorem Cyc.img {f : Int → Int} {l : List Int} (h : Cyc f l) {y : Int} (hy : y ∈ l) : f y ∈ l := by
  cases l with
  | nil => cases hy
  | cons x t =>
    rcases Ch.img h y hy with h | h
    · exact List.mem_cons_of_mem _ h
    · rw [h]; exact List.mem_cons_self
/-- What holds one element and is closed holds the cycle. -/
theorem Ch.sub {f : Int → Int} {S : Int → Prop} (hS : ∀ y, S y → S (f y)) : ∀ {t : List Int} {x z : Int}, Ch f x t z → S x → ∀ y ∈ x :: t, S y
  | [], x, z, _, hx, y, hy => by rw [List.mem_singleton.1 hy]; exact hx
  | v :: t, x, z, h, hx, y, hy => by
    obtain ⟨h1, h2⟩ := h
    rcases List.mem_cons.1 hy with rfl | hy
    · exact hx
    · exact Ch.sub hS h2 (h1 ▸ hS x hx) y hy
theorem Cyc.start {f : Int → Int} {l : List Int} (h : Cyc f l) {x : Int} (hx : x ∈ l) : ∃ u v, l = u ++ x :: v ∧ Cyc f (x :: (v ++ u)) := by
  obtain ⟨u, v, rfl⟩ := List.append_of_mem hx
  exact ⟨u, v, rfl, Cyc.rot (u := u) (v := x :: v) h⟩
theorem Cyc.sub {f : Int → Int} {S : Int → Prop} {l : List Int} (h : Cyc f l) (hS : ∀ y, S y → S (f y)) {x : Int} (hx : x ∈ l) (hSx : S x) : ∀ y ∈ l, S y := by
  obtain ⟨u, v, rfl, h'⟩ := h.start hx
  intro y hy
  refine Ch.sub hS h' hSx y ?_
  simp only [List.mem_append, List.mem_cons] at hy ⊢
  rcases hy with h | h | h
  · exact Or.inr (Or.inr h)
  · exact Or.inl h
  · exact Or.inr (Or.inl h)
/-- Two cycles that have an element in common have the same elements. -/
theorem Cyc.same {f : Int → Int} {l m : List Int} (h : Cyc f l) (k : Cyc f m) {x : Int} (hx : x ∈ l) (hm : x ∈ m) (y : Int) : y ∈ l ↔ y ∈ m :=
  ⟨fun hy => h.sub (S := (· ∈ m)) (fun _ => k.img) hx hm y hy, fun hy => k.sub (S := (· ∈ l)) (fun _ => h.img) hm hx y hy⟩

theorem Ch.rel {f h r : Int → Int} : ∀ {t : List Int} {x z : Int}, Ch f x t z → Ch h (r x) (t.map r) (r z) → ∀ y ∈ x :: t, h (r y) = r (f y)
  | [], x, z, h1, h2, y, hy => by rw [List.mem_singleton.1 hy, show f x = z from h1]; exact h2
  | v :: t, x, z, ⟨h1, h2⟩, ⟨h3, h4⟩, y, hy => by
    rcases List.mem_cons.1 hy with rfl | hy
    · rw [h1, h3]
    · exact Ch.rel h2 h4 y hy
theorem Cyc.rel {f h r : Int → Int} {l : List Int} (h1 : Cyc f l) (h2 : Cyc h (l.map r)) : ∀ y ∈ l, h (r y) = r (f y) := by
  cases l with
  | nil => exact h1.elim
  | cons x t => exact Ch.rel h1 h2
theorem Ch.map {f h r : Int → Int} : ∀ {t : List Int} {x z : Int}, (∀ y ∈ x :: t, h (r y) = r (f y)) → Ch f x t z → Ch h (r x) (t.map r) (r z)
  | [], x, z, hr, h1 => by show h (r x) = r z; rw [hr x (by simp), show f x = z from h1]
  | v :: t, x, z, hr, ⟨h1, h2⟩ => ⟨by rw [hr x (by simp), h1], Ch.map (fun y hy => hr y (List.mem_cons_of_mem _ hy)) h2⟩
theorem Cyc.map {f h r : Int → Int} {l : List Int} (hr : ∀ y ∈ l, h (r y) = r (f y)) (h1 : Cyc f l) : Cyc h (l.map r) := by
  cases l with
  | nil => exact h1.elim
  | cons x t => exact Ch.map hr h1
theorem Ch.rev {f h r : Int → Int} : ∀ {t : List Int} {x z : Int}, (∀ y ∈ x :: t, h (r (f y)) = r y) → Ch f x t z → Ch h (r z) (t.map r).reverse (r x)
  | [], x, z, hr, h1 => by
    have : f x = z := h1
    show h (r z) = r x
    rw [← this]
    exact hr x (by simp)
  | v :: t, x, z, hr, ⟨h1, h2⟩ => by
    rw [List.map_cons, List.reverse_cons]
    refine Ch.app.2 ⟨Ch.rev (fun y hy => hr y (List.mem_cons_of_mem _ hy)) h2, ?_⟩
    show h (r v) = r x
    rw [← h1]
    exact hr x (by simp)
theorem Cyc.rev {f h r : Int → Int} {l : List Int} (hr : ∀ y ∈ l, h (r (f y)) = r y) (h1 : Cyc f l) : Cyc h (l.map r).reverse := by
  cases l with
  | nil => exact h1.elim
  | cons x t =>
    rw [List.map_cons, List.reverse_cons]
    exact Cyc.rot (u := [r x]) (Ch.rev hr h1)
/-- What is stepped over. -/
theorem Ch.sk {f g sk : Int → Int} : ∀ {t : List Int} {x z : Int}, (∀ y ∈ x :: t, g y = sk (f y)) → (∀ y ∈ t, sk y = y) → Ch f x t z → Ch g x t (sk z)
  | [], x, z, hg, _, h => by show g x = sk z; rw [hg x (by simp), show f x = z from h]
  | v :: t, x, z, hg, hs, ⟨h1, h2⟩ => ⟨by rw [hg x (by simp), h1, hs v (by simp)], Ch.sk (fun y hy => hg y (List.mem_cons_of_mem _ hy)) (fun y hy => hs y (List.mem_cons_of_mem _ hy)) h2⟩

/-- The elements of D, as cycles. -/
structure Dec (D : Int → Prop) (f : Int → Int) (L : List (List Int)) : Prop where
  cyc : ∀ l ∈ L, Cyc f l
  nd : L.flatten.Nodup
  mem : ∀ x, x ∈ L.flatten ↔ D x
theorem Dec.perm {D : Int → Prop} {f : Int → Int} {L M : List (List Int)} (h : Dec D f L) (hp : L.Perm M) : Dec D f M :=
  ⟨fun l hl => h.cyc l (hp.mem_iff.2 hl), (hp.flatten.nodup_iff).1 h.nd, fun x => (hp.flatten.mem_iff).symm.trans (h.mem x)⟩
theorem Dec.swap {D : Int → Prop} {f : Int → Int} {l m : List Int} {L : List (List Int)} (h : Dec D f (l :: L)) (hp : l.Perm m) (hc : Cyc f m) : Dec D f (m :: L) := by
  have hp' : (l :: L).flatten.Perm (m :: L).flatten := by
    simp only [List.flatten_cons]
    exact hp.append_right _
  refine ⟨fun x hx => ?_, (hp'.nodup_iff).1 h.nd, fun x => (hp'.mem_iff).symm.trans (h.mem x)⟩
  rcases List.mem_cons.1 hx with rfl | hx
  · exact hc
  · exact h.cyc x (List.mem_cons_of_mem _ hx)
theorem Dec.tail {D : Int → Prop} {f : Int → Int} {l : List Int} {L : List (List Int)} (h : Dec D f (l :: L)) : Dec (fun x => D x ∧ x ∉ l) f L := by
  have hn := h.nd
  rw [List.flatten_cons, List.nodup_append] at hn
  refine ⟨fun x hx => h.cyc x (List.mem_cons_of_mem _ hx), hn.2.1, fun x => ⟨fun hx => ⟨(h.mem x).1 (by rw [List.flatten_cons]; exact List.mem_append_right _ hx), fun hl => hn.2.2 x hl x hx rfl⟩, fun hx => ?_⟩⟩
  have := (h.mem x).2 hx.1
  rw [List.flatten_cons] at this
  exact (List.mem_append.1 this).resolve_left hx.2
theorem Dec.congr {D D' : Int → Prop} {f : Int → Int} {L : List (List Int)} (h : Dec D f L) (hD : ∀ x, D x ↔ D' x) : Dec D' f L := ⟨h.cyc, h.nd, fun x => (h.mem x).trans (hD x)⟩
theorem Dec.cons {D : Int → Prop} {f : Int → Int} {l : List Int} {L : List (List Int)} (h : Dec D f L) (hc : Cyc f l) (hn : l.Nodup) (hd : ∀ x ∈ l, ¬ D x) : Dec (fun x => D x ∨ x ∈ l) f (l :: L) := by
  refine ⟨fun x hx => ?_, ?_, fun x => ?_⟩
  · rcases List.mem_cons.1 hx with rfl | hx
    · exact hc
    · exact h.cyc x hx
  · rw [List.flatten_cons, List.nodup_append]
    exact ⟨hn, h.nd, fun a ha b hb e => hd a ha ((h.mem a).1 (e ▸ hb))⟩
  · rw [List.flatten_cons, List.mem_append, h.mem x]
    exact Or.comm
theorem Dec.len : ∀ {L M : List (List Int)} {D : Int → Prop} {f : Int → Int}, Dec D f L → Dec D f M → L.length = M.length
  | [], M, D, f, h, k => by
    cases M with
    | nil => rfl
    | cons m M =>
      have hc := k.cyc m (by simp)
      cases m with
      | nil => exact hc.elim
      | cons x t =>
        have := (h.mem x).2 ((k.mem x).1 (by simp))
        simp at this
  | l :: L, M, D, f, h, k => by
    have hc := h.cyc l (by simp)
    cases l with
    | nil => exact hc.elim
    | cons x t =>
      have hx := (k.mem x).2 ((h.mem x).1 (by simp))
      obtain ⟨m, hm, hxm⟩ := List.mem_flatten.1 hx
      obtain ⟨A, B, rfl⟩ := List.append_of_mem hm
      have k' := (k.perm List.perm_middle).tail
      have hs := hc.same (k.cyc m hm) (x := x) (by simp) hxm
      have := Dec.len h.tail (k'.congr (D' := fun y => D y ∧ y ∉ x :: t) (fun y => by rw [hs y]))
      simp [this]
      omega
/-- The cycle of x in front. -/
theorem Dec.at {D : Int → Prop} {f : Int → Int} {L : List (List Int)} (h : Dec D f L) {x : Int} (hx : D x) : ∃ t M, Dec D f ((x :: t) :: M) ∧ M.length + 1 = L.length := by
  obtain ⟨l, hl, hxl⟩ := List.mem_flatten.1 ((h.mem x).2 hx)
  obtain ⟨A, B, rfl⟩ := List.append_of_mem hl
  obtain ⟨u, v, rfl, hc⟩ := (h.cyc l hl).start hxl
  refine ⟨v ++ u, A ++ B, (h.perm List.perm_middle).swap ?_ hc, by simp; omega⟩
  exact (List.perm_middle).trans (List.Perm.cons _ List.perm_append_comm)
theorem Dec.map {D D' : Int → Prop} {f h r : Int → Int} {L : List (List Int)} (k : Dec D f L) (hr : ∀ y, D y → h (r y) = r (f y)) (hi : ∀ x y, D x → D y → r x = r y → x = y) (hD : ∀ x, D' x ↔ ∃ y, D y ∧ r y = x) : Dec D' h (L.map (List.map r)) := by
  have e : (L.map (List.map r)).flatten = L.flatten.map r := by rw [List.map_flatten]
  refine ⟨fun l hl => ?_, ?_, fun x => ?_⟩
  · obtain ⟨m, hm, rfl⟩ := List.mem_map.1 hl
    exact Cyc.map (fun y hy => hr y ((k.mem y).1 (List.mem_flatten.2 ⟨m, hm, hy⟩))) (k.cyc m hm)
  · rw [e]
    unfold List.Nodup
    rw [List.pairwise_map]
    refine List.Pairwise.imp_of_mem ?_ k.nd
    intro a b ha hb hne he
    exact hne (hi a b ((k.mem a).1 ha) ((k.mem b).1 hb) he)
  · rw [e, List.mem_map, hD x]
    exact ⟨fun ⟨y, hy, e⟩ => ⟨y, (k.mem y).1 hy, e⟩, fun ⟨y, hy, e⟩ => ⟨y, (k.mem y).2 hy, e⟩⟩
/-- The reverse of all cycles. -/
theorem Dec.rev {D D' : Int → Prop} {f h r : Int → Int} {L : List (List Int)} (k : Dec D f L) (hr : ∀ y, D y → h (r (f y)) = r y) (hi : ∀ x y, D x → D y → r x = r y → x = y) (hD : ∀ x, D' x ↔ ∃ y, D y ∧ r y = x) : Dec D' h (L.map fun l => (l.map r).reverse) := by
  have hp : (L.map fun l => (l.map r).reverse).flatten.Perm (L.flatten.map r) := by
    clear k hr hi
    induction L with
    | nil => exact List.Perm.refl _
    | cons l L ih =>
      simp only [List.map_cons, List.flatten_cons, List.map_append]
      exact (List.reverse_perm _).append ih
  refine ⟨fun l hl => ?_, ?_, fun x => ?_⟩
  · obtain ⟨m, hm, rfl⟩ := List.mem_map.1 hl
    exact Cyc.rev (fun y hy => hr y ((k.mem y).1 (List.mem_flatten.2 ⟨m, hm, hy⟩))) (k.cyc m hm)
  · rw [hp.nodup_iff]
    unfold List.Nodup
    rw [List.pairwise_map]
    refine List.Pairwise.imp_of_mem ?_ k.nd
    intro a b ha hb hne he
    exact hne (hi a b ((k.mem a).1 ha) ((k.mem b).1 hb) he)
  · rw [hp.mem_iff, List.mem_map, hD x]
    exact ⟨fun ⟨y, hy, e⟩ => ⟨y, (k.mem y).1 hy, e⟩, fun ⟨y, hy, e⟩ => ⟨y, (k.mem y).2 hy, e⟩⟩

/-! ### Two elements are taken out -/
section
variable {D : Int → Prop} {f g sk : Int → Int} {a b : Int} {M : List (List Int)}
theorem cyc_out (hsk : ∀ y, y ≠ a → y ≠ b → sk y = y) (hg : ∀ y, D y → y ≠ a → y ≠ b → g y = sk (f y)) {x z : Int} {t : List Int} (hD : ∀ y ∈ x :: t, D y ∧ y ≠ a ∧ y ≠ b) (h : Ch f x t z) : Ch g x t (sk z) :=
  Ch.sk (fun y hy => hg y (hD y hy).1 (hD y hy).2.1 (hD y hy).2.2) (fun y hy => hsk y (hD y (List.mem_cons_of_mem _ hy)).2.1 (hD y (List.mem_cons_of_mem _ hy)).2.2) h
/-- They lie in different cycles: the cycles become one. -/
theorem Dec.del_two {t u : List Int} (h : Dec D f ((a :: t) :: (b :: u) :: M)) (hsk : ∀ y, y ≠ a → y ≠ b → sk y = y) (ha : sk a = f b) (hb : sk b = f a) (hfa : f a ≠ a) (hfb : f b ≠ b)
    (hg : ∀ y, D y → y ≠ a → y ≠ b → g y = sk (f y)) : ∃ L', Dec (fun y => D y ∧ y ≠ a ∧ y ≠ b) g L' ∧ L'.length = M.length + 1 := by
  have hn := h.nd
  simp only [List.flatten_cons, List.cons_append, List.nodup_cons, List.nodup_append, List.mem_append, List.mem_cons, not_or] at hn
  obtain ⟨⟨na1, na2, na3, na4⟩, n1, ⟨⟨nb1, nb2⟩, n2, n3, n4⟩, n5⟩ := hn
  have hca : Ch f a t a := h.cyc (a :: t) (by simp)
  have hcb : Ch f b u b := h.cyc (b :: u) (by simp)
  have hmem := h.mem
  simp only [List.flatten_cons, List.cons_append, List.mem_cons, List.mem_append] at hmem
  cases t with
  | nil => exact absurd hca hfa
  | cons x xs =>
    cases u with
    | nil => exact absurd hcb hfb
    | cons y ys =>
      obtain ⟨e1, hca⟩ := hca
      obtain ⟨e2, hcb⟩ := hcb
      have hDx : ∀ z ∈ x :: xs, D z ∧ z ≠ a ∧ z ≠ b := fun z hz => ⟨(hmem z).1 (Or.inr (Or.inl hz)), fun e => na1 (e ▸ hz), fun e => n5 z hz b (Or.inl rfl) e⟩
      have hDy : ∀ z ∈ y :: ys, D z ∧ z ≠ a ∧ z ≠ b := fun z hz => ⟨(hmem z).1 (Or.inr (Or.inr (Or.inr (Or.inl hz)))), fun e => na3 (e ▸ hz), fun e => nb1 (e ▸ hz)⟩
      refine ⟨((x :: xs) ++ (y :: ys)) :: M, ⟨fun l hl => ?_, ?_, fun z => ?_⟩, rfl⟩
      · rcases List.mem_cons.1 hl with rfl | hl
        · refine Ch.app.2 ⟨?_, ?_⟩
          · have := cyc_out hsk hg hDx hca
            rw [ha, e2] at this
            exact this
          · have := cyc_out hsk hg hDy hcb
            rw [hb, e1] at this
            exact this
        · have hc := h.cyc l (by simp [hl])
          cases l with
          | nil => exact hc.elim
          | cons z zs =>
            have hz : ∀ v ∈ z :: zs, D v ∧ v ≠ a ∧ v ≠ b := fun v hv => by
              have hvM : v ∈ M.flatten := List.mem_flatten.2 ⟨_, hl, hv⟩
              exact ⟨(hmem v).1 (Or.inr (Or.inr (Or.inr (Or.inr hvM)))), fun e => na4 (e ▸ hvM), fun e => nb2 (e ▸ hvM)⟩
            have := cyc_out hsk hg hz hc
            rw [hsk z (hz z (by simp)).2.1 (hz z (by simp)).2.2] at this
            exact this
      · rw [List.flatten_cons, List.nodup_append, List.nodup_append]
        refine ⟨⟨n1, n2, fun p hp q hq => n5 p hp q (Or.inr (Or.inl hq))⟩, n3, fun p hp q hq => ?_⟩
        rcases List.mem_append.1 hp with hp | hp
        · exact n5 p hp q (Or.inr (Or.inr hq))
        · exact n4 p hp q hq
      · rw [List.flatten_cons, List.mem_append, List.mem_append]
        constructor
        · rintro ((hz | hz) | hz)
          · exact hDx z hz
          · exact hDy z hz
          · exact ⟨(hmem z).1 (Or.inr (Or.inr (Or.inr (Or.inr hz)))), fun e => na4 (e ▸ hz), fun e => nb2 (e ▸ hz)⟩
        · rintro ⟨h1, h2, h3⟩
          rcases (hmem z).2 h1 with h | h | h | h | h
          · exact absurd h h2
          · exact Or.inl (Or.inl h)
          · exact absurd h h3
          · exact Or.inl (Or.inr h)
          · exact Or.inr h
/-- They lie in one cycle, in two parts then; each part may be empty. -/
theorem Dec.del_one {t : List Int} (h : Dec D f ((a :: t) :: M)) (hab : b ∈ t) (hsk : ∀ y, y ≠ a → y ≠ b → sk y = y) (ha : sk a = f b) (hb : sk b = f a) 
    (hg : ∀ y, D y → y ≠ a → y ≠ b → g y = sk (f y)) : ∃ L', Dec (fun y => D y ∧ y ≠ a ∧ y ≠ b) g L' ∧ L'.length + ((if f a = b then 1 else 0) + (if f b = a then 1 else 0)) = M.length + 2 := by
  obtain ⟨xs, ys, rfl⟩ := List.append_of_mem hab
  have hn := h.nd
  simp only [List.flatten_cons, List.cons_append, List.append_assoc, List.nodup_cons, List.nodup_append, List.mem_append, List.mem_cons, not_or] at hn
  obtain ⟨⟨na1, na2, na3, na4⟩, n1, ⟨⟨nb1, nb2⟩, n2, n3, n4⟩, n5⟩ := hn
  have hca : Ch f a (xs ++ b :: ys) a := h.cyc (a :: (xs ++ b :: ys)) (by simp)
  obtain ⟨c1, c2⟩ := Ch.app.1 hca
  have hmem := h.mem
  simp only [List.flatten_cons, List.cons_append, List.append_assoc, List.mem_cons, List.mem_append] at hmem
  have hM : Dec (fun y => y ∈ M.flatten) g M := by
    refine ⟨fun l hl => ?_, n3, fun x => Iff.rfl⟩
    have hc := h.cyc l (List.mem_cons_of_mem _ hl)
    cases l with
    | nil => exact hc.elim
    | cons z zs =>
      have hz : ∀ v ∈ z :: zs, D v ∧ v ≠ a ∧ v ≠ b := fun v hv => by
        have hvM : v ∈ M.flatten := List.mem_flatten.2 ⟨_, hl, hv⟩
        exact ⟨(hmem v).1 (Or.inr (Or.inr (Or.inr (Or.inr hvM)))), fun e => na4 (e ▸ hvM), fun e => nb2 (e ▸ hvM)⟩
      have := cyc_out hsk hg hz hc
      rw [hsk z (hz z (by simp)).2.1 (hz z (by simp)).2.2] at this
      exact this
  have hDx : ∀ z ∈ xs, D z ∧ z ≠ a ∧ z ≠ b := fun z hz => ⟨(hmem z).1 (Or.inr (Or.inl hz)), fun e => na1 (e ▸ hz), fun e => n5 z hz b (Or.inl rfl) e⟩
  have hDy : ∀ z ∈ ys, D z ∧ z ≠ a ∧ z ≠ b := fun z hz => ⟨(hmem z).1 (Or.inr (Or.inr (Or.inr (Or.inl hz)))), fun e => na3 (e ▸ hz), fun e => nb1 (e ▸ hz)⟩
  have hall : ∀ z, (D z ∧ z ≠ a ∧ z ≠ b) ↔ ((z ∈ M.flatten ∨ z ∈ ys) ∨ z ∈ xs) := fun z => by
    constructor
    · rintro ⟨h1, h2, h3⟩
      rcases (hmem z).2 h1 with h | h | h | h | h
      · exact absurd h h2
      · exact Or.inr h
      · exact absurd h h3
      · exact Or.inl (Or.inr h)
      · exact Or.inl (Or.inl h)
    · rintro ((hz | hz) | hz)
      · exact ⟨(hmem z).1 (Or.inr (Or.inr (Or.inr (Or.inr hz)))), fun e => na4 (e ▸ hz), fun e => nb2 (e ▸ hz)⟩
      · exact hDy z hz
      · exact hDx z hz
  have hY : ∃ L1, Dec (fun y => y ∈ M.flatten ∨ y ∈ ys) g L1 ∧ L1.length + (if f b = a then 1 else 0) = M.length + 1 := by
    cases ys with
    | nil =>
      refine ⟨M, hM.congr fun x => by simp, ?_⟩
      have : f b = a := c2
      rw [if_pos this]
    | cons y ys =>
      obtain ⟨e2, c2⟩ := c2
      refine ⟨(y :: ys) :: M, hM.cons (l := y :: ys) ?_ n2 (fun x hx hxM => n4 x hx x hxM rfl), ?_⟩
      · have := cyc_out hsk hg hDy c2
        rw [ha, e2] at this
        exact this
      · rw [if_neg (fun e => (hDy y (by simp)).2.1 (e2.symm.trans e))]
        rfl
  obtain ⟨L1, hL1, hl1⟩ := hY
  cases xs with
  | nil =>
    refine ⟨L1, hL1.congr fun x => by rw [hall x]; simp, ?_⟩
    have : f a = b := c1
    rw [if_pos this]
    omega
  | cons x xs =>
    obtain ⟨e1, c1⟩ := c1
    refine ⟨(x :: xs) :: L1, (hL1.cons (l := x :: xs) ?_ n1 (fun z hz hzL => ?_)).congr fun z => (hall z).symm, ?_⟩
    · have := cyc_out hsk hg hDx c1
      rw [hb, e1] at this
      exact this
    · rcases hzL with h | h
      · exact n5 z hz z (Or.inr (Or.inr h)) rfl
      · exact n5 z hz z (Or.inr (Or.inl h)) rfl
    · rw [if_neg (fun e => (hDx x (by simp)).2.2 (e1.symm.trans e)), List.length_cons]
      omega
end
end Go.Proofs.YtdacnkjmimhcaaaDoor
