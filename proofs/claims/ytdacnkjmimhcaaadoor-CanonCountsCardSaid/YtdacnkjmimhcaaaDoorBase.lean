/- Base: worlds that have grown ('over'), and a law's row out of the law's contract. -/
import Derived.Test.YtdacnkjmimhcaaaDoorRows
import Derived.WalkKit
import Derived.WalkSpells
import Derived.WalkLawsBesides
import Derived.Deep.QuietTactic
import Derived.BigQuiet
import Derived.ProofKit
import Derived.Lib.Hide
namespace Go.Proofs.YtdacnkjmimhcaaaDoor
open Go.RowKit Go.ChangeShapes Go.WideShapes

/-- The world x, if it has grown out of w; else w. -/
noncomputable def over (w x : World) : World := by
  classical exact if Below w.heap.size w x then x else w

theorem over_below (w x : World) : Below w.heap.size w (over w x) := by
  unfold over
  split
  · assumption
  · exact Below.refl _ _

theorem over_of {w x : World} (h : Below w.heap.size w x) : over w x = x := by
  unfold over
  rw [if_pos h]

theorem over_self (w : World) : over w w = w := over_of (Below.refl _ _)

/-- w' has grown out of w. -/
def Grew (w w' : World) : Prop := ∃ x, w' = over w x

theorem Grew.of_below {w w' : World} (h : Below w.heap.size w w') : Grew w w' := ⟨w', (over_of h).symm⟩
theorem Grew.below {w w' : World} (h : Grew w w') : Below w.heap.size w w' := by
  obtain ⟨x, rfl⟩ := h
  exact over_below w x

theorem Grew.refl (w : World) : Grew w w := .of_below (Below.refl _ _)
theorem Grew.over' (w x : World) : Grew w (over w x) := ⟨x, rfl⟩
theorem Grew.trans {a b c : World} (h : Grew a b) (k : Grew b c) : Grew a c :=
  .of_below (h.below.trans (k.below.mono h.below.size))
theorem Grew.alloc {w W : World} (h : Grew w W) (o : Obj) : Grew w (W.alloc o) :=
  .of_below (h.below.alloc h.below.size o)
theorem Grew.drew {w W : World} (h : Grew w W) : Grew w W.drew := .of_below h.below.drew
theorem Grew.drewN {w W : World} (h : Grew w W) (n : Nat) : Grew w (W.drewN n) :=
  .of_below ⟨h.below.os, h.below.tape, h.below.output, h.below.size, h.below.block⟩
theorem Grew.over {w W : World} (h : Grew w W) (x : World) : Grew w (over W x) := h.trans (.over' W x)
theorem Grew.setCell {w W : World} (h : Grew w W) {p : Addr} (hp : w.heap.size ≤ p.block) (u : Value) : Grew w (W.setCell p u) :=
  .of_below (h.below.setCell hp u)

/-- By how many blocks it has grown. -/
noncomputable def ext (w x : World) : Nat := (over w x).heap.size - w.heap.size
theorem le_over (w x : World) : w.heap.size ≤ (over w x).heap.size := (over_below w x).size
@[go_sem, simp] theorem size_over (w x : World) : (over w x).heap.size = w.heap.size + ext w x := by
  have := le_over w x
  unfold ext
  omega

noncomputable def newCell (w x : World) (n i : Nat) : Option Value := (over w x).cell? ⟨n, i, none⟩
noncomputable def newFrozen (w x : World) (n i : Nat) : Bool := (over w x).frozen? ⟨n, i, none⟩
noncomputable def newHeap (w x : World) (n : Nat) : Option Obj := (over w x).heap[n]?
noncomputable def setOver (w x : World) (a : Addr) (v : Value) : World := (over w x).setCell a v

@[go_sem] theorem cell?_over (w x : World) (n i : Nat) : (over w x).cell? ⟨n, i, none⟩ = if n < w.heap.size then w.cell? ⟨n, i, none⟩ else newCell w x n i := by
  split
  · exact (over_below w x).cell (p := ⟨n, i, none⟩) ‹_›
  · rfl
@[go_sem] theorem frozen?_over (w x : World) (n i : Nat) : (over w x).frozen? ⟨n, i, none⟩ = if n < w.heap.size then w.frozen? ⟨n, i, none⟩ else newFrozen w x n i := by
  split
  · exact (over_below w x).frozen (p := ⟨n, i, none⟩) ‹_›
  · rfl
@[go_sem] theorem heap_over (w x : World) (n : Nat) : (over w x).heap[n]? = if n < w.heap.size then w.heap[n]? else newHeap w x n := by
  split
  · exact (over_below w x).block n ‹_›
  · rfl
@[go_sem] theorem setCell_over (w x : World) (n i : Nat) (v : Value) : (over w x).setCell ⟨n, i, none⟩ v = if n < w.heap.size then over (w.setCell ⟨n, i, none⟩ v) (setOver w x ⟨n, i, none⟩ v) else setOver w x ⟨n, i, none⟩ v := by
  split
  · refine (over_of ?_).symm
    have h := over_below w x
    have hs : (w.setCell ⟨n, i, none⟩ v).heap.size = w.heap.size := World.size_setCell _ _ _
    rw [hs]
    refine ⟨h.os, h.tape, h.output, by simp only [World.size_setCell]; exact h.size, fun k hk => ?_⟩
    have hb := h.block k hk
    simp only [World.setCell, Array.getElem?_modify, hb]
  · rfl

theorem heap_alloc_if (w : World) (o : Obj) (n : Nat) : (w.alloc o).heap[n]? = if n < w.heap.size then w.heap[n]? else if n = w.heap.size then some o else none := by
  show (w.heap.push o)[n]? = _
  rw [Array.getElem?_push]
  split
  · rename_i h; subst h; simp
  · split
    · rfl
    · rw [Array.getElem?_eq_none (by omega)]
@[go_sem] theorem cell?_alloc_if (w : World) (c : Array Value) (t : TypeId) (n i : Nat) : (w.alloc (.cells c t)).cell? ⟨n, i, none⟩ = if n < w.heap.size then w.cell? ⟨n, i, none⟩ else if n = w.heap.size then c[i]? else none := by
  unfold World.cell?
  rw [show (Addr.mk n i none).block = n from rfl, heap_alloc_if]
  by_cases h1 : n < w.heap.size
  · simp only [if_pos h1]
  · simp only [if_neg h1]
    by_cases h2 : n = w.heap.size
    · simp [h2]
    · simp [h2]
@[go_sem] theorem frozen?_alloc_if (w : World) (c : Array Value) (t : TypeId) (n i : Nat) : (w.alloc (.cells c t)).frozen? ⟨n, i, none⟩ = if n < w.heap.size then w.frozen? ⟨n, i, none⟩ else false := by
  unfold World.frozen?
  rw [show (Addr.mk n i none).block = n from rfl, heap_alloc_if]
  by_cases h1 : n < w.heap.size
  · simp only [if_pos h1]
  · simp only [if_neg h1]
    by_cases h2 : n = w.heap.size
    · simp [h2]
    · simp [h2]
@[go_sem] theorem setCell_alloc_if (w : World) (c : Array Value) (t : TypeId) (n i : Nat) (v : Value) : (w.alloc (.cells c t)).setCell ⟨n, i, none⟩ v = if n < w.heap.size then (w.setCell ⟨n, i, none⟩ v).alloc (.cells c t) else if n = w.heap.size then w.alloc (.cells (c.setIfInBounds i v) t) else w.alloc (.cells c t) := by
  split
  · exact World.setCell_alloc_past _ _ _ _ ‹_›
  · split
    · exact World.setCell_alloc_at _ _ _ _ _ ‹_›
    · rename_i h1 h2
      unfold World.setCell World.alloc
      congr 1
      apply Array.ext_getElem?
      intro k
      simp only [Array.getElem?_modify, Array.getElem?_push]
      split
      · rename_i h3
        subst h3
        rw [if_neg h2, Array.getElem?_eq_none (by omega)]
        rfl
      · rfl

/-- At a call in a region that draws: a contract that only lets the world grow. -/
theorem over_call {P : Program} {f : FuncId} {args : Array Value} {w x : World} {v : Value}
    (h : Calls P f args (over w x) fun e w' => e = .returned v ∧ Grew (over w x) w') :
    Calls P f args (over w x) fun e w'' => e = .returned v ∧ ∃ y, w'' = over w y :=
  h.mono fun _ _ ⟨he, hg⟩ => ⟨he, (Grew.over' w x).trans hg⟩

theorem over_callE {P : Program} {f : FuncId} {args : Array Value} {w x : World} {v : Value}
    (h : Calls P f args (over w x) fun e w' => e = .returned v ∧ over w x = w') :
    Calls P f args (over w x) fun e w'' => e = .returned v ∧ ∃ y, w'' = over w y :=
  h.mono fun _ _ ⟨he, hg⟩ => ⟨he, x, hg.symm⟩

theorem over_mem {w w' : World} : (∃ x, w' = over w x) ↔ Grew w w' := Iff.rfl

/-- A region that draws its order, each of whose operations only reads or calls what lets the world grow: one walk in the order of the text. -/
theorem wp_region_over {P : Program} {id : Nat} {Q : Exit → Act → World → Prop} {a : Act} {w : World} {l : List Oper} (hm : P.follows .mixedOrders = true) (hB : Region.lexB .any l.toArray = true)
    (h : wpQuiet P l.toArray (fun w' => ∃ x, w' = over w x) (fun a' => ∀ w', (∃ x, w' = over w x) → Q .normal a' w') l a) : (Code.region id l.toArray true).wp P Q a w :=
  wp_region_quiet (C := fun w' => ∃ x, w' = over w x) hm hB ((Grew.refl w).drew) (by simpa using h)


section
variable {H : Type} {enc : TypeId × Value → H} {P : Program}
/-- The row's last step where of the world behind the call 'Below' alone is known (after the guide's extra-small page). -/
theorem post_of_below {f : Func} {s : ChangeSpec} {apart fresh handsOn again : Bool} {W W' : World} {args : Array Value} {v : Value} {ds gs : List (DataW H)} {before pa pv : List MemPlace}
    (hW : DataW.Whole enc P f.params.toList s.vars apart W args.toList ds gs before)
    (hres : ∀ (b : Nat) (sp : Nat → Bool) (hd : Bool), DataW.TrodAll enc P W' b sp hd f.resultTypes.toList (v.resultList f.resultTypes.size) (s.fn H (ds ++ gs)).results [])
    (hargs : ∀ sp : Nat → Bool, (∀ p ∈ before, sp p.block = true) → DataW.TrodAll enc P W' 0 sp true f.params.toList args.toList (s.fn H (ds ++ gs)).args pa)
    (hvars : ∀ sp : Nat → Bool, (∀ p ∈ before, sp p.block = true) → DataW.TrodVars enc P W' sp s.vars (s.fn H (ds ++ gs)).vars pv)
    (hps : before = pa ++ pv) (hb : Below W.heap.size W W')
    (hok : ∀ (j : Nat) (t : TypeId) (r : Value), f.resultTypes[j]? = some t → (v.resultList f.resultTypes.size)[j]? = some r → Value.okWide P W' .any 0 t r) :
    s.post enc P f apart fresh handsOn again W args v W' := by
  have hlt : ∀ p ∈ before, p.block < W.heap.size := fun p hp => hW.lt p hp
  have hold : ∀ p ∈ before, (fun b => decide (b < W.heap.size)) p.block = true := fun p hp => by simpa using hlt p hp
  refine ⟨ds, gs, before, [], pa, pv, hW, hres _ _ _, hargs _ hold, hvars _ hold, World.keptBut_mono (fun p hp => ⟨hp, ?_⟩) (hb.frame (· ∈ before)), fun _ => ?_⟩
  · rw [hps, List.mem_append] at hp
    exact Or.inr hp
  · obtain ⟨_, _, _, _, _, hz, hn⟩ := hW
    refine ⟨hok, _, _, ([] ++ pa) ++ pv, ⟨[] ++ pa, pv, trodAll_append (hargs _ (fun _ _ => rfl)) (hres _ _ _), hvars _ (fun _ _ => rfl), rfl, ?_, ?_⟩, ?_⟩
    · intro b off hp
      have hin : MemPlace.cell b off ∈ before := by rw [hps]; simpa using hp
      rw [hb.frozen (hlt _ hin)]
      exact hz b off hin
    · intro ha
      have := hn ha
      rw [hps] at this
      simpa using this
    · intro p hp _
      rw [hps]
      simpa using hp

theorem trodAll_stays (hl : laidOutB P = true) {W W' : World} {sp' : Nat → Bool} : ∀ {ts : List TypeId} {vs : List Value} {ds : List (DataW H)} {ps : List MemPlace},
    (ts.all fun t => P.readableRec t && decide (t < P.types.size)) = true →
    DataW.TrodAll enc P W 0 (fun _ => true) true ts vs ds ps → (∀ p ∈ ps, W.sameAt W' p) → (∀ p ∈ ps, sp' p.block = true) →
    DataW.TrodAll enc P W' 0 sp' true ts vs ds ps
  | [], [], [], _, _, h, _, _ => h
  | t :: ts, v :: vs, d :: ds, _, hr, ⟨p, q, h1, h2, e⟩, hs, hsp => by
    subst e
    simp only [List.all_cons, Bool.and_eq_true, decide_eq_true_eq] at hr
    exact ⟨p, q, WideElems.Trod_stays hl hr.1.1 hr.1.2 h1 (fun x hx => hs x (List.mem_append_left _ hx)) (fun x hx => hsp x (List.mem_append_left _ hx)),
      trodAll_stays hl hr.2 h2 (fun x hx => hs x (List.mem_append_right _ hx)) (fun x hx => hsp x (List.mem_append_right _ hx)), rfl⟩
  | [], [], _ :: _, _, _, h, _, _ => h.elim
  | [], _ :: _, _, _, _, h, _, _ => h.elim
  | _ :: _, [], _, _, _, h, _, _ => h.elim
  | _ :: _, _ :: _, [], _, _, h, _, _ => h.elim

/-- The row's post for a law: true, and the arguments read as before. -/
theorem law_post {f : Func} {s : ChangeSpec} {apart fresh handsOn again : Bool} {W W' : World} {args : Array Value} {ds gs : List (DataW H)} {before : List MemPlace} {tb : TypeId}
    (hl : laidOutB P = true) (hres : f.resultTypes = #[tb]) (hb : P.underlying tb = some .bool) (hread : (f.params.toList.all fun t => P.readableRec t && decide (t < P.types.size)) = true)
    (hvars : s.vars = []) (hs : (s.fn H (ds ++ gs)).results = [.lit (.bool true)]) (ha : (s.fn H (ds ++ gs)).args = ds) (hv : (s.fn H (ds ++ gs)).vars = [])
    (hW : DataW.Whole enc P f.params.toList s.vars apart W args.toList ds gs before) (hg : Grew W W') :
    s.post enc P f apart fresh handsOn again W args (.bool true) W' := by
  have hbl := hg.below
  have hlt : ∀ p ∈ before, p.block < W.heap.size := fun p hp => hW.lt p hp
  obtain ⟨p, q, h1, h2, e, hz, hn⟩ := id hW
  have hq : q = [] := by
    rw [hvars] at h2
    cases gs with
    | nil => exact h2
    | cons => exact h2.elim
  subst hq
  rw [List.append_nil] at e
  subst e
  refine post_of_below (pa := before) (pv := []) hW ?_ ?_ ?_ (by simp) hbl ?_
  · intro b sp hd
    rw [hres, hs]
    exact trodAll_mk1 (shut_bool hb _)
  · intro sp hsp
    rw [ha]
    exact trodAll_stays hl hread h1 (fun x hx => hbl.same (hlt x hx)) hsp
  · intro sp _
    rw [hvars, hv]
    rfl
  · intro j t r hj hr
    rw [hres] at hj hr
    match j, hj, hr with
    | 0, hj, hr =>
      simp [Value.resultList] at hj hr
      subst hj; subst hr
      exact okWide_bool_mk hb _
end

/-- A law's row, lifted: out of the law's contract over every reading of its arguments. -/
theorem law_lifted {H : Type} {enc : TypeId × Value → H} {C : Checked} {os : Os} {f : FuncId} {fn : Func} {s : ChangeSpec} {a : Assume} {apart fresh handsOn again : Bool} {tb : TypeId}
    (hown : ownKnob C.prog.godebug = none) (started : os.Started) (hi : C.prog.inits.idxOf? f = none) (hf : C.prog.funcs[f]? = some fn)
    (hwit : ∃ (w : World) (tape : Nat → Question → Nat) (i : Input), w.os = os ∧ World.Shaped C.prog (w.forCall tape i) ∧ i.vars = [] ∧ Input.okWide C.prog (w.forCall tape i) Reach.any w.heap.size f i ∧
      ChangeSpec.pre6 enc C.prog fn s [] apart (w.forCall tape i).memory i.args ∧ a.holds C.prog (lone (Frame.enter C.prog f i.args CallKind.normal) [] (w.forCall tape i)))
    (hl : laidOutB C.prog = true) (hres : fn.resultTypes = #[tb]) (hb : C.prog.underlying tb = some .bool) (hread : (fn.params.toList.all fun t => C.prog.readableRec t && decide (t < C.prog.types.size)) = true)
    (hvars : s.vars = [])
    (hs : ∀ ds : List (DataW H), ds.length = fn.params.size → (s.fn H ds).results = [.lit (.bool true)] ∧ (s.fn H ds).args = ds ∧ (s.fn H ds).vars = [])
    (hwalk : ∀ (W : World) (base : Nat) (args : Array Value) (ds : List (DataW H)) (ps : List MemPlace),
      (∀ (j : Nat) (t : TypeId) (v : Value), fn.params[j]? = some t → args[j]? = some v → Value.okWide C.prog W Reach.any base t v) →
      DataW.TrodAll enc C.prog W 0 (fun _ => true) true fn.params.toList args.toList ds ps →
      Calls C.prog f args W fun e w' => e = .returned (.bool true) ∧ Grew W w') :
    ReturnsInHanded a C os f Reach.any (ChangeSpec.pre6 enc C.prog fn s [] apart) (ChangeSpec.post enc C.prog fn s apart fresh handsOn again) := by
  refine returnsInHanded_of_change hown started hi hf hwit ?_
  intro W base args ds gs before hval hW _ _
  obtain ⟨p, q, h1, h2, _, _, _⟩ := id hW
  have hgs : gs = [] := by
    rw [hvars] at h2
    cases gs with
    | nil => rfl
    | cons => exact h2.elim
  subst hgs
  have hlen : ds.length = fn.params.size := by
    have : ∀ {ts : List TypeId} {vs : List Value} {ds : List (DataW H)} {ps : List MemPlace}, DataW.TrodAll enc C.prog W 0 (fun _ => true) true ts vs ds ps → ds.length = ts.length := by
      intro ts
      induction ts with
      | nil => intro vs ds ps h; cases vs <;> cases ds <;> first | rfl | exact h.elim
      | cons t ts ih =>
        intro vs ds ps h
        cases vs with
        | nil => exact h.elim
        | cons v vs =>
          cases ds with
          | nil => exact h.elim
          | cons d ds =>
            obtain ⟨_, _, _, h', _⟩ := h
            simp [ih h']
    simpa using this h1
  have hs' := hs ds hlen
  refine (hwalk W base args ds p hval h1).mono fun e W' ⟨he, hg⟩ => ⟨_, he, ?_⟩
  exact law_post hl hres hb hread hvars (by rw [List.append_nil]; exact hs'.1) (by rw [List.append_nil]; exact hs'.2.1) (by rw [List.append_nil]; exact hs'.2.2) hW hg

/-- One, two, three arguments read. -/
theorem trodAll_split1 {H : Type} {enc : TypeId × Value → H} {P : Program} {W : World} {t0 : TypeId} {args : Array Value} {ds : List (DataW H)} {ps : List MemPlace}
    (h : DataW.TrodAll enc P W 0 (fun _ => true) true [t0] args.toList ds ps) :
    ∃ v0, args = #[v0] ∧ (∃ n x, DataW.trod enc P W 0 (fun _ => true) true n t0 v0.cells.toList = some x) := by
  obtain ⟨v, vs, d, ds', p, q, hargs, _, _, ⟨n, hd⟩, hrest⟩ := trodAll_cons h
  obtain ⟨rfl, _, _⟩ := trodAll_nil hrest
  exact ⟨v, by cases args; simp_all, n, _, hd⟩
theorem trodAll_split2 {H : Type} {enc : TypeId × Value → H} {P : Program} {W : World} {t0 t1 : TypeId} {args : Array Value} {ds : List (DataW H)} {ps : List MemPlace}
    (h : DataW.TrodAll enc P W 0 (fun _ => true) true [t0, t1] args.toList ds ps) :
    ∃ v0 v1, args = #[v0, v1] ∧ (∃ n x, DataW.trod enc P W 0 (fun _ => true) true n t0 v0.cells.toList = some x) ∧ (∃ n x, DataW.trod enc P W 0 (fun _ => true) true n t1 v1.cells.toList = some x) := by
  obtain ⟨v, vs, d, ds', p, q, hargs, _, _, ⟨n, hd⟩, hrest⟩ := trodAll_cons h
  obtain ⟨u, us, d', ds'', p', q', rfl, _, _, ⟨n', hd'⟩, hrest'⟩ := trodAll_cons hrest
  obtain ⟨rfl, _, _⟩ := trodAll_nil hrest'
  exact ⟨v, u, by cases args; simp_all, ⟨n, _, hd⟩, ⟨n', _, hd'⟩⟩
theorem trodAll_split3 {H : Type} {enc : TypeId × Value → H} {P : Program} {W : World} {t0 t1 t2 : TypeId} {args : Array Value} {ds : List (DataW H)} {ps : List MemPlace}
    (h : DataW.TrodAll enc P W 0 (fun _ => true) true [t0, t1, t2] args.toList ds ps) :
    ∃ v0 v1 v2, args = #[v0, v1, v2] ∧ (∃ n x, DataW.trod enc P W 0 (fun _ => true) true n t0 v0.cells.toList = some x) ∧ (∃ n x, DataW.trod enc P W 0 (fun _ => true) true n t1 v1.cells.toList = some x) ∧
      (∃ n x, DataW.trod enc P W 0 (fun _ => true) true n t2 v2.cells.toList = some x) := by
  obtain ⟨v, vs, d, ds', p, q, hargs, _, _, ⟨n, hd⟩, hrest⟩ := trodAll_cons h
  obtain ⟨u, us, d', ds'', p', q', rfl, _, _, ⟨n', hd'⟩, hrest'⟩ := trodAll_cons hrest
  obtain ⟨x, xs, d2, ds2, p2, q2, rfl, _, _, ⟨n2, hd2⟩, hrest2⟩ := trodAll_cons hrest'
  obtain ⟨rfl, _, _⟩ := trodAll_nil hrest2
  exact ⟨v, u, x, by cases args; simp_all, ⟨n, _, hd⟩, ⟨n', _, hd'⟩, ⟨n2, _, hd2⟩⟩

/-- A value of a struct's type is an aggregate. -/
theorem okWide_agg {P : Program} {w : World} {r : Reach} {b : Nat} {t : TypeId} {v : Value} {fs : Array Field} (ht : P.underlying t = some (.struct fs)) (h : Value.okWide P w r b t v) : ∃ cs, v = .agg cs := by
  unfold Value.okWide at h
  rw [ht] at h
  obtain ⟨cs, h, _⟩ := h
  exact ⟨cs, h⟩
theorem okWide_slice {P : Program} {w : World} {r : Reach} {b : Nat} {t e : TypeId} {v : Value} (ht : P.underlying t = some (.slice e)) (h : Value.okWide P w r b t v) : v.cells = #[v] := by
  unfold Value.okWide at h
  rw [ht] at h
  simp only at h
  unfold Cell.okWide Cell.ok at h
  rw [ht] at h
  cases v <;> first | rfl | exact h.elim
theorem okWide_intc {P : Program} {w : World} {r : Reach} {b : Nat} {t : TypeId} {k : IntKind} {v : Value} (ht : P.underlying t = some (.int k)) (h : Value.okWide P w r b t v) : v.cells = #[v] := by
  obtain ⟨n, rfl⟩ := okWide_int ht h
  rfl
theorem okWide_strc {P : Program} {w : World} {r : Reach} {b : Nat} {t : TypeId} {v : Value} (ht : P.underlying t = some .string) (h : Value.okWide P w r b t v) : v.cells = #[v] := by
  unfold Value.okWide at h
  rw [ht] at h
  simp only at h
  unfold Cell.okWide Cell.ok at h
  rw [ht] at h
  cases v <;> first | rfl | exact h.elim

/-! ### Readings -/
/-- Whatever is read as a value of type t stands in relation R to its cells. -/
def Opens {α : Type} (P : Program) (t : TypeId) (R : World → List Value → α → Prop) : Prop :=
  ∀ (H : Type) (enc : TypeId × Value → H) (w : World) (fuel : Nat) (cs : List Value) (x : DataW H × List MemPlace),
    DataW.trod enc P w 0 (fun _ => true) true fuel t cs = some x → ∃ y, R w cs y

def rInt (k : IntKind) (_ : World) (cs : List Value) (n : Int) : Prop := cs = [.int k n] ∧ (Lit.int k n).wf = true
def rBool (_ : World) (cs : List Value) (b : Bool) : Prop := cs = [.bool b]
def rStr (_ : World) (cs : List Value) (s : ByteArray) : Prop := cs = [.string s] ∧ s.size ≤ maxLen

theorem opens_int {P : Program} {t : TypeId} {k : IntKind} (ht : P.underlying t = some (.int k)) : Opens P t (rInt k) := by
  intro H enc w fuel cs x h
  obtain ⟨n, h1, _, h2⟩ := DataW.trod_int ht h
  exact ⟨n, h1, h2⟩

theorem opens_bool {P : Program} {t : TypeId} (ht : P.underlying t = some .bool) : Opens P t rBool := by
  intro H enc w fuel cs x h
  cases fuel with
  | zero => simp [DataW.trod] at h
  | succ n =>
    unfold DataW.trod at h
    rw [ht] at h
    split at h <;> simp_all [rBool]

theorem opens_str {P : Program} {t : TypeId} (ht : P.underlying t = some .string) : Opens P t rStr := by
  intro H enc w fuel cs x h
  cases fuel with
  | zero => simp [DataW.trod] at h
  | succ n =>
    unfold DataW.trod at h
    rw [ht] at h
    split at h <;> simp_all [rStr]

/-- The fields of a struct are read. -/
theorem trod_fields {H : Type} {enc : TypeId × Value → H} {P : Program} {w : World} {fuel : Nat} {t : TypeId} {cs : List Value} {x : DataW H × List MemPlace} {fs : Array Field}
    (ht : P.underlying t = some (.struct fs)) (h : DataW.trod enc P w 0 (fun _ => true) true fuel t cs = some x) :
    cs.length = P.cellsOf t ∧ ∀ (i : Nat) (f : Field), fs[i]? = some f → ∃ n y, DataW.trod enc P w 0 (fun _ => true) true n f.type ((cs.drop f.offset).take (P.cellsOf f.type)) = some y := by
  obtain ⟨xs, n, _, _, hl, hx, hall⟩ := DataW.trod_struct ht h
  refine ⟨hl, fun i f hf => ⟨n, ?_⟩⟩
  have hi : i < xs.length := by rw [hx]; exact (Array.getElem?_eq_some_iff.1 hf).1
  exact ⟨xs[i], by rw [hall i f hf, List.getElem?_eq_getElem hi]⟩

/-- A slice that starts at p, with n places, of elements of sz cells each, whose elements read as xs. -/
def SlAt {α : Type} (R : World → List Value → α → Prop) (sz : Nat) (w : World) (p : Option Addr) (cap : Nat) (xs : List α) : Prop :=
  xs.length ≤ cap ∧ cap ≤ maxLen ∧ (p = none → cap = 0) ∧
  ∀ (i : Nat) (x : α), xs[i]? = some x → ∃ b o ce, p = some ⟨b, o, none⟩ ∧ b < w.heap.size ∧ ce.length = sz ∧ R w ce x ∧ ∀ j, j < sz → w.cell? ⟨b, o + i * sz + j, none⟩ = ce[j]?

def rSl {α : Type} (R : World → List Value → α → Prop) (sz : Nat) (w : World) (cs : List Value) (xs : List α) : Prop :=
  ∃ p cap, cs = [.slice p xs.length cap] ∧ SlAt R sz w p cap xs

theorem cells?_get {w : World} {base : Nat} {a : Addr} {n : Nat} {cs : List Value} (h : w.cells? base a n = some cs) : cs.length = n ∧ ∀ j, j < n → w.cell? (a.add j) = cs[j]? := by
  unfold World.cells? at h
  split at h
  · have h1 := mapM_some_length h
    refine ⟨by simpa using h1, fun j hj => ?_⟩
    exact mapM_some_get h j j (by simp [hj])
  · exact absurd h (by simp)

theorem list_choose {α : Type} {n : Nat} {p : Nat → α → Prop} (h : ∀ i, i < n → ∃ x, p i x) : ∃ xs : List α, xs.length = n ∧ ∀ i x, xs[i]? = some x → p i x := by
  induction n with
  | zero => exact ⟨[], rfl, fun i x hx => by simp at hx⟩
  | succ n ih =>
    obtain ⟨xs, h1, h2⟩ := ih fun i hi => h i (Nat.lt_succ_of_lt hi)
    obtain ⟨x, hx⟩ := h n (Nat.lt_succ_self n)
    refine ⟨xs ++ [x], by simp [h1], fun i y hy => ?_⟩
    rcases Nat.lt_or_ge i n with hi | hi
    · rw [List.getElem?_append_left (by omega)] at hy
      exact h2 i y hy
    · rw [List.getElem?_append_right (by omega)] at hy
      have : i - xs.length = 0 := by
        rcases Nat.eq_zero_or_pos (i - xs.length) with h0 | h0
        · exact h0
        · rw [List.getElem?_eq_none (by simp; omega)] at hy; cases hy
      rw [this] at hy
      simp at hy
      subst hy
      have : i = n := by omega
      subst this
      exact hx

theorem add_add_spot {w : World} {a : Addr} {m j : Nat} {v : Value} (h : w.cell? ((a.add m).add j) = some v) : a.spot = none ∨ 0 < m ∨ 0 < j := by
  by_cases hm : 0 < m
  · exact .inr (.inl hm)
  by_cases hj : 0 < j
  · exact .inr (.inr hj)
  have e1 : m = 0 := by omega
  have e2 : j = 0 := by omega
  subst e1; subst e2
  simp only [Addr.add, if_true] at h
  unfold World.cell? at h
  split at h
  · cases hs : a.spot with
    | none => exact .inl rfl
    | some _ => rw [hs] at h; simp at h
  · cases h

theorem opens_slice {α : Type} {P : Program} {t e : TypeId} {R : World → List Value → α → Prop} {sz : Nat} (ht : P.underlying t = some (.slice e)) (hsz : P.cellsOf e = sz) (hpos : 0 < sz) (he : Opens P e R) : Opens P t (rSl R sz) := by
  intro H enc w fuel cs x h
  rcases DataW.trod_slice ht h with ⟨h0, _⟩ | ⟨a, len, cap, elems, rest, n, _, hcs, _, _, hl, hm, hlen, hel, _, _⟩
  · exact ⟨[], none, 0, h0, Nat.le_refl _, Nat.zero_le _, (fun _ => rfl), (fun i x hx => by simp at hx)⟩
  · have each : ∀ i, i < len → ∃ y, ∃ ce : List Value, ce.length = sz ∧ R w ce y ∧ ∀ j, j < sz → w.cell? ((a.add (i * sz)).add j) = ce[j]? := fun i hi => by
      have hi' : i < elems.length := by omega
      have h1 := hel i hi
      rw [List.getElem?_eq_getElem hi', Option.bind_eq_some_iff, hsz] at h1
      obtain ⟨ce, h2, h3⟩ := h1
      obtain ⟨h4, h5⟩ := cells?_get h2
      obtain ⟨y, hy⟩ := he H enc w n ce _ h3
      exact ⟨y, ce, h4, hy, h5⟩
    obtain ⟨xs, hxl, hxs⟩ := list_choose each
    refine ⟨xs, some a, cap, by rw [hcs, hxl], by omega, hm, (fun hh => by cases hh), fun i x hx => ?_⟩
    obtain ⟨ce, h1, h2, h3⟩ := hxs i x hx
    have hi : i < xs.length := (List.getElem?_eq_some_iff.1 hx).1
    have h0 : a.spot = none := by
      obtain ⟨y0, ce0, g1, _, g3⟩ := each 0 (by omega)
      have g := g3 0 hpos
      rw [List.getElem?_eq_getElem (by omega)] at g
      rcases add_add_spot g with h | h | h
      · exact h
      · omega
      · omega
    obtain ⟨b, o, s⟩ := a
    dsimp only at h0
    subst h0
    have hadd : ∀ m j, Addr.add (Addr.add ⟨b, o, none⟩ m) j = ⟨b, o + m + j, none⟩ := fun m j => by rw [Addr.add_lit, Addr.add_lit]
    refine ⟨b, o, ce, rfl, ?_, h1, h2, fun j hj => by rw [← hadd]; exact h3 j hj⟩
    have g := h3 0 hpos
    rw [List.getElem?_eq_getElem (by omega), hadd] at g
    exact World.block_lt_of_cell? _ _ g

/-- R does not change while the world grows. -/
def Stable {α : Type} (R : World → List Value → α → Prop) : Prop := ∀ (w w' : World) (cs : List Value) (x : α), Grew w w' → R w cs x → R w' cs x

theorem stable_int (k : IntKind) : Stable (rInt k) := fun _ _ _ _ _ h => h
theorem stable_bool : Stable rBool := fun _ _ _ _ _ h => h
theorem stable_str : Stable rStr := fun _ _ _ _ _ h => h
theorem SlAt.grew {α : Type} {R : World → List Value → α → Prop} {sz : Nat} (hR : Stable R) {w w' : World} {p : Option Addr} {cap : Nat} {xs : List α} (h : SlAt R sz w p cap xs) (hg : Grew w w') : SlAt R sz w' p cap xs := by
  obtain ⟨h1, h2, h3, h4⟩ := h
  refine ⟨h1, h2, h3, fun i x hx => ?_⟩
  obtain ⟨b, o, ce, g1, g2, g3, g4, g5⟩ := h4 i x hx
  exact ⟨b, o, ce, g1, Nat.lt_of_lt_of_le g2 hg.below.size, g3, hR _ _ _ _ hg g4, fun j hj => by rw [hg.below.cell (p := ⟨b, _, none⟩) g2]; exact g5 j hj⟩
theorem stable_slice {α : Type} {R : World → List Value → α → Prop} {sz : Nat} (hR : Stable R) : Stable (rSl R sz) := fun _ _ _ _ hg ⟨p, cap, h1, h2⟩ => ⟨p, cap, h1, h2.grew hR hg⟩

end Go.Proofs.YtdacnkjmimhcaaaDoor
