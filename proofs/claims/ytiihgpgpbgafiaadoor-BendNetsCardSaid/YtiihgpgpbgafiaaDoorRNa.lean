/- Joined by a program from the texts Base Mem Sl Tab Lex Held RotA RotB RotC RotD RotE RotF RotG RotH RotI RotJ. -/
import Derived.Test.YtiihgpgpbgafiaaDoorRows
import Derived.WalkKit
import Derived.WalkSpells
import Derived.WalkLawsBesides
import Derived.Deep.QuietTactic
import Derived.BigQuiet
import Derived.ProofKit
import Derived.Lib.Hide
import Derived.Laws.AppendOwnNone
import Derived.ArgAppend
import Derived.OwnWalk
import Derived.Laws.OwnMore
import Derived.StillTail
import Derived.Deep.RegionHeld
import Derived.Deep.DeepCutAuto
import Derived.Deep.DrawnRows
import Derived.Deep.RegionHeldLaw
/- Base: worlds that have grown ('over'), and a law's row out of the law's contract. -/
set_option linter.unusedSimpArgs false
set_option linter.unusedVariables false
namespace Go.Proofs.YtiihgpgpbgafiaaDoor
open Go.RowKit Go.ChangeShapes Go.WideShapes

/-- The world x, if it has grown out of w; else w. -/
noncomputable def over (w x : World) : World := by
  classical exact if Below w.heap.size w x then x else w

theorem over_below (w x : World) : Below w.heap.size w (over w x) := by
  unfold over
  split
  · assumption
  · exact Below.refl _ _

theorem over_of {w x : World} (h : Below w.heap.size w x) : over w x = x := by
  unfold over
  rw [if_pos h]

/-- w' has grown out of w. -/
def Grew (w w' : World) : Prop := ∃ x, w' = over w x

theorem Grew.of_below {w w' : World} (h : Below w.heap.size w w') : Grew w w' := ⟨w', (over_of h).symm⟩
theorem Grew.below {w w' : World} (h : Grew w w') : Below w.heap.size w w' := by
  obtain ⟨x, rfl⟩ := h
  exact over_below w x

theorem Grew.refl (w : World) : Grew w w := .of_below (Below.refl _ _)
theorem Grew.over' (w x : World) : Grew w (over w x) := ⟨x, rfl⟩
theorem Grew.trans {a b c : World} (h : Grew a b) (k : Grew b c) : Grew a c :=
  .of_below (h.below.trans (k.below.mono h.below.size))
theorem Grew.alloc {w W : World} (h : Grew w W) (o : Obj) : Grew w (W.alloc o) :=
  .of_below (h.below.alloc h.below.size o)
theorem Grew.drew {w W : World} (h : Grew w W) : Grew w W.drew := .of_below h.below.drew
theorem Grew.drewN {w W : World} (h : Grew w W) (n : Nat) : Grew w (W.drewN n) :=
  .of_below ⟨h.below.os, h.below.tape, h.below.output, h.below.size, h.below.block⟩
theorem Grew.over {w W : World} (h : Grew w W) (x : World) : Grew w (over W x) := h.trans (.over' W x)
theorem gR (w : World) : Grew w w := .refl w
theorem gO {w W : World} (h : Grew w W) (x : World) : Grew w (over W x) := h.over x
theorem gA {w W : World} (h : Grew w W) (o : Obj) : Grew w (W.alloc o) := h.alloc o
theorem gD {w W : World} (h : Grew w W) : Grew w W.drew := h.drew
theorem gN {w W : World} (h : Grew w W) (n : Nat) : Grew w (W.drewN n) := h.drewN n
theorem Grew.setCell {w W : World} (h : Grew w W) {p : Addr} (hp : w.heap.size ≤ p.block) (u : Value) : Grew w (W.setCell p u) :=
  .of_below (h.below.setCell hp u)

/-- By how many blocks it has grown. -/
noncomputable def ext (w x : World) : Nat := (over w x).heap.size - w.heap.size
theorem le_over (w x : World) : w.heap.size ≤ (over w x).heap.size := (over_below w x).size
@[go_sem, simp] theorem size_over (w x : World) : (over w x).heap.size = w.heap.size + ext w x := by
  have := le_over w x
  unfold ext
  omega

noncomputable def newCell (w x : World) (n i : Nat) : Option Value := (over w x).cell? ⟨n, i, none⟩
noncomputable def newFrozen (w x : World) (n i : Nat) : Bool := (over w x).frozen? ⟨n, i, none⟩
noncomputable def newHeap (w x : World) (n : Nat) : Option Obj := (over w x).heap[n]?
noncomputable def setOver (w x : World) (a : Addr) (v : Value) : World := (over w x).setCell a v

@[go_sem] theorem cell?_over (w x : World) (n i : Nat) : (over w x).cell? ⟨n, i, none⟩ = if n < w.heap.size then w.cell? ⟨n, i, none⟩ else newCell w x n i := by
  split
  · exact (over_below w x).cell (p := ⟨n, i, none⟩) ‹_›
  · rfl
@[go_sem] theorem frozen?_over (w x : World) (n i : Nat) : (over w x).frozen? ⟨n, i, none⟩ = if n < w.heap.size then w.frozen? ⟨n, i, none⟩ else newFrozen w x n i := by
  split
  · exact (over_below w x).frozen (p := ⟨n, i, none⟩) ‹_›
  · rfl
@[go_sem] theorem heap_over (w x : World) (n : Nat) : (over w x).heap[n]? = if n < w.heap.size then w.heap[n]? else newHeap w x n := by
  split
  · exact (over_below w x).block n ‹_›
  · rfl
@[go_sem] theorem setCell_over (w x : World) (n i : Nat) (v : Value) : (over w x).setCell ⟨n, i, none⟩ v = if n < w.heap.size then over (w.setCell ⟨n, i, none⟩ v) (setOver w x ⟨n, i, none⟩ v) else setOver w x ⟨n, i, none⟩ v := by
  split
  · refine (over_of ?_).symm
    have h := over_below w x
    have hs : (w.setCell ⟨n, i, none⟩ v).heap.size = w.heap.size := World.size_setCell _ _ _
    rw [hs]
    refine ⟨h.os, h.tape, h.output, by simp only [World.size_setCell]; exact h.size, fun k hk => ?_⟩
    have hb := h.block k hk
    simp only [World.setCell, Array.getElem?_modify, hb]
  · rfl

theorem heap_alloc_if (w : World) (o : Obj) (n : Nat) : (w.alloc o).heap[n]? = if n < w.heap.size then w.heap[n]? else if n = w.heap.size then some o else none := by
  show (w.heap.push o)[n]? = _
  rw [Array.getElem?_push]
  split
  · rename_i h; subst h; simp
  · split
    · rfl
    · rw [Array.getElem?_eq_none (by omega)]
@[go_sem] theorem cell?_alloc_if (w : World) (c : Array Value) (t : TypeId) (n i : Nat) : (w.alloc (.cells c t)).cell? ⟨n, i, none⟩ = if n < w.heap.size then w.cell? ⟨n, i, none⟩ else if n = w.heap.size then c[i]? else none := by
  unfold World.cell?
  rw [show (Addr.mk n i none).block = n from rfl, heap_alloc_if]
  by_cases h1 : n < w.heap.size
  · simp only [if_pos h1]
  · simp only [if_neg h1]
    by_cases h2 : n = w.heap.size
    · simp [h2]
    · simp [h2]
@[go_sem] theorem frozen?_alloc_if (w : World) (c : Array Value) (t : TypeId) (n i : Nat) : (w.alloc (.cells c t)).frozen? ⟨n, i, none⟩ = if n < w.heap.size then w.frozen? ⟨n, i, none⟩ else false := by
  unfold World.frozen?
  rw [show (Addr.mk n i none).block = n from rfl, heap_alloc_if]
  by_cases h1 : n < w.heap.size
  · simp only [if_pos h1]
  · simp only [if_neg h1]
    by_cases h2 : n = w.heap.size
    · simp [h2]
    · simp [h2]
@[go_sem] theorem setCell_alloc_if (w : World) (c : Array Value) (t : TypeId) (n i : Nat) (v : Value) : (w.alloc (.cells c t)).setCell ⟨n, i, none⟩ v = if n < w.heap.size then (w.setCell ⟨n, i, none⟩ v).alloc (.cells c t) else if n = w.heap.size then w.alloc (.cells (c.setIfInBounds i v) t) else w.alloc (.cells c t) := by
  split
  · exact World.setCell_alloc_past _ _ _ _ ‹_›
  · split
    · exact World.setCell_alloc_at _ _ _ _ _ ‹_›
    · rename_i h1 h2
      unfold World.setCell World.alloc
      congr 1
      apply Array.ext_getElem?
      intro k
      simp only [Array.getElem?_modify, Array.getElem?_push]
      split
      · rename_i h3
        subst h3
        rw [if_neg h2, Array.getElem?_eq_none (by omega)]
        rfl
      · rfl

/-- At a call in a region that draws: a contract that only lets the world grow. -/
theorem over_call {P : Program} {f : FuncId} {args : Array Value} {w x : World} {v : Value}
    (h : Calls P f args (over w x) fun e w' => e = .returned v ∧ Grew (over w x) w') :
    Calls P f args (over w x) fun e w'' => e = .returned v ∧ ∃ y, w'' = over w y :=
  h.mono fun _ _ ⟨he, hg⟩ => ⟨he, (Grew.over' w x).trans hg⟩

theorem over_callE {P : Program} {f : FuncId} {args : Array Value} {w x : World} {v : Value}
    (h : Calls P f args (over w x) fun e w' => e = .returned v ∧ over w x = w') :
    Calls P f args (over w x) fun e w'' => e = .returned v ∧ ∃ y, w'' = over w y :=
  h.mono fun _ _ ⟨he, hg⟩ => ⟨he, x, hg.symm⟩

/-- A region that draws its order, each of whose operations only reads or calls what lets the world grow: one walk in the order of the text. -/
theorem wp_region_over {P : Program} {id : Nat} {Q : Exit → Act → World → Prop} {a : Act} {w : World} {l : List Oper} (hm : P.follows .mixedOrders = true) (hB : Region.lexB .any l.toArray = true)
    (h : wpQuiet P l.toArray (fun w' => ∃ x, w' = over w x) (fun a' => ∀ w', (∃ x, w' = over w x) → Q .normal a' w') l a) : (Code.region id l.toArray true).wp P Q a w :=
  wp_region_quiet (C := fun w' => ∃ x, w' = over w x) hm hB ((Grew.refl w).drew) (by simpa using h)


section
variable {H : Type} {enc : TypeId × Value → H} {P : Program}
/-- The row's last step where of the world behind the call 'Below' alone is known (after the guide's extra-small page). -/
theorem post_of_below {f : Func} {s : ChangeSpec} {apart fresh handsOn again : Bool} {W W' : World} {args : Array Value} {v : Value} {ds gs : List (DataW H)} {before pa pv : List MemPlace}
    (hW : DataW.Whole enc P f.params.toList s.vars apart W args.toList ds gs before)
    (hres : ∀ (b : Nat) (sp : Nat → Bool) (hd : Bool), DataW.TrodAll enc P W' b sp hd f.resultTypes.toList (v.resultList f.resultTypes.size) (s.fn H (ds ++ gs)).results [])
    (hargs : ∀ sp : Nat → Bool, (∀ p ∈ before, sp p.block = true) → DataW.TrodAll enc P W' 0 sp true f.params.toList args.toList (s.fn H (ds ++ gs)).args pa)
    (hvars : ∀ sp : Nat → Bool, (∀ p ∈ before, sp p.block = true) → DataW.TrodVars enc P W' sp s.vars (s.fn H (ds ++ gs)).vars pv)
    (hps : before = pa ++ pv) (hb : Below W.heap.size W W')
    (hok : ∀ (j : Nat) (t : TypeId) (r : Value), f.resultTypes[j]? = some t → (v.resultList f.resultTypes.size)[j]? = some r → Value.okWide P W' .any 0 t r) :
    s.post enc P f apart fresh handsOn again W args v W' := by
  have hlt : ∀ p ∈ before, p.block < W.heap.size := fun p hp => hW.lt p hp
  have hold : ∀ p ∈ before, (fun b => decide (b < W.heap.size)) p.block = true := fun p hp => by simpa using hlt p hp
  refine ⟨ds, gs, before, [], pa, pv, hW, hres _ _ _, hargs _ hold, hvars _ hold, World.keptBut_mono (fun p hp => ⟨hp, ?_⟩) (hb.frame (· ∈ before)), fun _ => ?_⟩
  · rw [hps, List.mem_append] at hp
    exact Or.inr hp
  · obtain ⟨_, _, _, _, _, hz, hn⟩ := hW
    refine ⟨hok, _, _, ([] ++ pa) ++ pv, ⟨[] ++ pa, pv, trodAll_append (hargs _ (fun _ _ => rfl)) (hres _ _ _), hvars _ (fun _ _ => rfl), rfl, ?_, ?_⟩, ?_⟩
    · intro b off hp
      have hin : MemPlace.cell b off ∈ before := by rw [hps]; simpa using hp
      rw [hb.frozen (hlt _ hin)]
      exact hz b off hin
    · intro ha
      have := hn ha
      rw [hps] at this
      simpa using this
    · intro p hp _
      rw [hps]
      simpa using hp

theorem trodAll_stays (hl : laidOutB P = true) {W W' : World} {sp' : Nat → Bool} : ∀ {ts : List TypeId} {vs : List Value} {ds : List (DataW H)} {ps : List MemPlace},
    (ts.all fun t => P.readableRec t && decide (t < P.types.size)) = true →
    DataW.TrodAll enc P W 0 (fun _ => true) true ts vs ds ps → (∀ p ∈ ps, W.sameAt W' p) → (∀ p ∈ ps, sp' p.block = true) →
    DataW.TrodAll enc P W' 0 sp' true ts vs ds ps
  | [], [], [], _, _, h, _, _ => h
  | t :: ts, v :: vs, d :: ds, _, hr, ⟨p, q, h1, h2, e⟩, hs, hsp => by
    subst e
    simp only [List.all_cons, Bool.and_eq_true, decide_eq_true_eq] at hr
    exact ⟨p, q, WideElems.Trod_stays hl hr.1.1 hr.1.2 h1 (fun x hx => hs x (List.mem_append_left _ hx)) (fun x hx => hsp x (List.mem_append_left _ hx)),
      trodAll_stays hl hr.2 h2 (fun x hx => hs x (List.mem_append_right _ hx)) (fun x hx => hsp x (List.mem_append_right _ hx)), rfl⟩
  | [], [], _ :: _, _, _, h, _, _ => h.elim
  | [], _ :: _, _, _, _, h, _, _ => h.elim
  | _ :: _, [], _, _, _, h, _, _ => h.elim
  | _ :: _, _ :: _, [], _, _, h, _, _ => h.elim

/-- The row's post for a law: true, and the arguments read as before. -/
theorem law_post {f : Func} {s : ChangeSpec} {apart fresh handsOn again : Bool} {W W' : World} {args : Array Value} {ds gs : List (DataW H)} {before : List MemPlace} {tb : TypeId}
    (hl : laidOutB P = true) (hres : f.resultTypes = #[tb]) (hb : P.underlying tb = some .bool) (hread : (f.params.toList.all fun t => P.readableRec t && decide (t < P.types.size)) = true)
    (hvars : s.vars = []) (hs : (s.fn H (ds ++ gs)).results = [.lit (.bool true)]) (ha : (s.fn H (ds ++ gs)).args = ds) (hv : (s.fn H (ds ++ gs)).vars = [])
    (hW : DataW.Whole enc P f.params.toList s.vars apart W args.toList ds gs before) (hg : Grew W W') :
    s.post enc P f apart fresh handsOn again W args (.bool true) W' := by
  have hbl := hg.below
  have hlt : ∀ p ∈ before, p.block < W.heap.size := fun p hp => hW.lt p hp
  obtain ⟨p, q, h1, h2, e, hz, hn⟩ := id hW
  have hq : q = [] := by
    rw [hvars] at h2
    cases gs with
    | nil => exact h2
    | cons => exact h2.elim
  subst hq
  rw [List.append_nil] at e
  subst e
  refine post_of_below (pa := before) (pv := []) hW ?_ ?_ ?_ (by simp) hbl ?_
  · intro b sp hd
    rw [hres, hs]
    exact trodAll_mk1 (shut_bool hb _)
  · intro sp hsp
    rw [ha]
    exact trodAll_stays hl hread h1 (fun x hx => hbl.same (hlt x hx)) hsp
  · intro sp _
    rw [hvars, hv]
    rfl
  · intro j t r hj hr
    rw [hres] at hj hr
    match j, hj, hr with
    | 0, hj, hr =>
      simp [Value.resultList] at hj hr
      subst hj; subst hr
      exact okWide_bool_mk hb _
end

/-- A law's row, lifted: out of the law's contract over every reading of its arguments. -/
theorem law_lifted {H : Type} {enc : TypeId × Value → H} {C : Checked} {os : Os} {f : FuncId} {fn : Func} {s : ChangeSpec} {a : Assume} {apart fresh handsOn again : Bool} {tb : TypeId}
    (hown : ownKnob C.prog.godebug = none) (started : os.Started) (hi : C.prog.inits.idxOf? f = none) (hf : C.prog.funcs[f]? = some fn)
    (hwit : ∃ (w : World) (tape : Nat → Question → Nat) (i : Input), w.os = os ∧ World.Shaped C.prog (w.forCall tape i) ∧ i.vars = [] ∧ Input.okWide C.prog (w.forCall tape i) Reach.any w.heap.size f i ∧
      ChangeSpec.pre6 enc C.prog fn s [] apart (w.forCall tape i).memory i.args ∧ a.holds C.prog (lone (Frame.enter C.prog f i.args CallKind.normal) [] (w.forCall tape i)))
    (hl : laidOutB C.prog = true) (hres : fn.resultTypes = #[tb]) (hb : C.prog.underlying tb = some .bool) (hread : (fn.params.toList.all fun t => C.prog.readableRec t && decide (t < C.prog.types.size)) = true)
    (hvars : s.vars = [])
    (hs : ∀ ds : List (DataW H), ds.length = fn.params.size → (s.fn H ds).results = [.lit (.bool true)] ∧ (s.fn H ds).args = ds ∧ (s.fn H ds).vars = [])
    (hwalk : ∀ (W : World) (base : Nat) (args : Array Value) (ds : List (DataW H)) (ps : List MemPlace),
      (∀ (j : Nat) (t : TypeId) (v : Value), fn.params[j]? = some t → args[j]? = some v → Value.okWide C.prog W Reach.any base t v) →
      DataW.TrodAll enc C.prog W 0 (fun _ => true) true fn.params.toList args.toList ds ps →
      Calls C.prog f args W fun e w' => e = .returned (.bool true) ∧ Grew W w') :
    ReturnsInHanded a C os f Reach.any (ChangeSpec.pre6 enc C.prog fn s [] apart) (ChangeSpec.post enc C.prog fn s apart fresh handsOn again) := by
  refine returnsInHanded_of_change hown started hi hf hwit ?_
  intro W base args ds gs before hval hW _ _
  obtain ⟨p, q, h1, h2, _, _, _⟩ := id hW
  have hgs : gs = [] := by
    rw [hvars] at h2
    cases gs with
    | nil => rfl
    | cons => exact h2.elim
  subst hgs
  have hlen : ds.length = fn.params.size := by
    have : ∀ {ts : List TypeId} {vs : List Value} {ds : List (DataW H)} {ps : List MemPlace}, DataW.TrodAll enc C.prog W 0 (fun _ => true) true ts vs ds ps → ds.length = ts.length := by
      intro ts
      induction ts with
      | nil => intro vs ds ps h; cases vs <;> cases ds <;> first | rfl | exact h.elim
      | cons t ts ih =>
        intro vs ds ps h
        cases vs with
        | nil => exact h.elim
        | cons v vs =>
          cases ds with
          | nil => exact h.elim
          | cons d ds =>
            obtain ⟨_, _, _, h', _⟩ := h
            simp [ih h']
    simpa using this h1
  have hs' := hs ds hlen
  refine (hwalk W base args ds p hval h1).mono fun e W' ⟨he, hg⟩ => ⟨_, he, ?_⟩
  exact law_post hl hres hb hread hvars (by rw [List.append_nil]; exact hs'.1) (by rw [List.append_nil]; exact hs'.2.1) (by rw [List.append_nil]; exact hs'.2.2) hW hg

theorem trodAll_split2 {H : Type} {enc : TypeId × Value → H} {P : Program} {W : World} {t0 t1 : TypeId} {args : Array Value} {ds : List (DataW H)} {ps : List MemPlace}
    (h : DataW.TrodAll enc P W 0 (fun _ => true) true [t0, t1] args.toList ds ps) :
    ∃ v0 v1, args = #[v0, v1] ∧ (∃ n x, DataW.trod enc P W 0 (fun _ => true) true n t0 v0.cells.toList = some x) ∧ (∃ n x, DataW.trod enc P W 0 (fun _ => true) true n t1 v1.cells.toList = some x) := by
  obtain ⟨v, vs, d, ds', p, q, hargs, _, _, ⟨n, hd⟩, hrest⟩ := trodAll_cons h
  obtain ⟨u, us, d', ds'', p', q', rfl, _, _, ⟨n', hd'⟩, hrest'⟩ := trodAll_cons hrest
  obtain ⟨rfl, _, _⟩ := trodAll_nil hrest'
  exact ⟨v, u, by cases args; simp_all, ⟨n, _, hd⟩, ⟨n', _, hd'⟩⟩
/-- A value of a struct's type is an aggregate. -/
theorem okWide_agg {P : Program} {w : World} {r : Reach} {b : Nat} {t : TypeId} {v : Value} {fs : Array Field} (ht : P.underlying t = some (.struct fs)) (h : Value.okWide P w r b t v) : ∃ cs, v = .agg cs := by
  unfold Value.okWide at h
  rw [ht] at h
  obtain ⟨cs, h, _⟩ := h
  exact ⟨cs, h⟩
theorem okWide_slice {P : Program} {w : World} {r : Reach} {b : Nat} {t e : TypeId} {v : Value} (ht : P.underlying t = some (.slice e)) (h : Value.okWide P w r b t v) : v.cells = #[v] := by
  unfold Value.okWide at h
  rw [ht] at h
  simp only at h
  unfold Cell.okWide Cell.ok at h
  rw [ht] at h
  cases v <;> first | rfl | exact h.elim
/-! ### Readings -/
/-- Whatever is read as a value of type t stands in relation R to its cells. -/
def Opens {α : Type} (P : Program) (t : TypeId) (R : World → List Value → α → Prop) : Prop :=
  ∀ (H : Type) (enc : TypeId × Value → H) (w : World) (fuel : Nat) (cs : List Value) (x : DataW H × List MemPlace),
    DataW.trod enc P w 0 (fun _ => true) true fuel t cs = some x → ∃ y, R w cs y

def rInt (k : IntKind) (_ : World) (cs : List Value) (n : Int) : Prop := cs = [.int k n] ∧ (Lit.int k n).wf = true
theorem opens_int {P : Program} {t : TypeId} {k : IntKind} (ht : P.underlying t = some (.int k)) : Opens P t (rInt k) := by
  intro H enc w fuel cs x h
  obtain ⟨n, h1, _, h2⟩ := DataW.trod_int ht h
  exact ⟨n, h1, h2⟩

/-- The fields of a struct are read. -/
theorem trod_fields {H : Type} {enc : TypeId × Value → H} {P : Program} {w : World} {fuel : Nat} {t : TypeId} {cs : List Value} {x : DataW H × List MemPlace} {fs : Array Field}
    (ht : P.underlying t = some (.struct fs)) (h : DataW.trod enc P w 0 (fun _ => true) true fuel t cs = some x) :
    cs.length = P.cellsOf t ∧ ∀ (i : Nat) (f : Field), fs[i]? = some f → ∃ n y, DataW.trod enc P w 0 (fun _ => true) true n f.type ((cs.drop f.offset).take (P.cellsOf f.type)) = some y := by
  obtain ⟨xs, n, _, _, hl, hx, hall⟩ := DataW.trod_struct ht h
  refine ⟨hl, fun i f hf => ⟨n, ?_⟩⟩
  have hi : i < xs.length := by rw [hx]; exact (Array.getElem?_eq_some_iff.1 hf).1
  exact ⟨xs[i], by rw [hall i f hf, List.getElem?_eq_getElem hi]⟩

/-- A slice that starts at p, with n places, of elements of sz cells each, whose elements read as xs. -/
def SlAt {α : Type} (R : World → List Value → α → Prop) (sz : Nat) (w : World) (p : Option Addr) (cap : Nat) (xs : List α) : Prop :=
  xs.length ≤ cap ∧ cap ≤ maxLen ∧ (p = none → cap = 0) ∧
  ∀ (i : Nat) (x : α), xs[i]? = some x → ∃ b o ce, p = some ⟨b, o, none⟩ ∧ b < w.heap.size ∧ ce.length = sz ∧ R w ce x ∧ ∀ j, j < sz → w.cell? ⟨b, o + i * sz + j, none⟩ = ce[j]?

def rSl {α : Type} (R : World → List Value → α → Prop) (sz : Nat) (w : World) (cs : List Value) (xs : List α) : Prop :=
  ∃ p cap, cs = [.slice p xs.length cap] ∧ SlAt R sz w p cap xs

theorem cells?_get {w : World} {base : Nat} {a : Addr} {n : Nat} {cs : List Value} (h : w.cells? base a n = some cs) : cs.length = n ∧ ∀ j, j < n → w.cell? (a.add j) = cs[j]? := by
  unfold World.cells? at h
  split at h
  · have h1 := mapM_some_length h
    refine ⟨by simpa using h1, fun j hj => ?_⟩
    exact mapM_some_get h j j (by simp [hj])
  · exact absurd h (by simp)

theorem list_choose {α : Type} {n : Nat} {p : Nat → α → Prop} (h : ∀ i, i < n → ∃ x, p i x) : ∃ xs : List α, xs.length = n ∧ ∀ i x, xs[i]? = some x → p i x := by
  induction n with
  | zero => exact ⟨[], rfl, fun i x hx => by simp at hx⟩
  | succ n ih =>
    obtain ⟨xs, h1, h2⟩ := ih fun i hi => h i (Nat.lt_succ_of_lt hi)
    obtain ⟨x, hx⟩ := h n (Nat.lt_succ_self n)
    refine ⟨xs ++ [x], by simp [h1], fun i y hy => ?_⟩
    rcases Nat.lt_or_ge i n with hi | hi
    · rw [List.getElem?_append_left (by omega)] at hy
      exact h2 i y hy
    · rw [List.getElem?_append_right (by omega)] at hy
      have : i - xs.length = 0 := by
        rcases Nat.eq_zero_or_pos (i - xs.length) with h0 | h0
        · exact h0
        · rw [List.getElem?_eq_none (by simp; omega)] at hy; cases hy
      rw [this] at hy
      simp at hy
      subst hy
      have : i = n := by omega
      subst this
      exact hx

theorem add_add_spot {w : World} {a : Addr} {m j : Nat} {v : Value} (h : w.cell? ((a.add m).add j) = some v) : a.spot = none ∨ 0 < m ∨ 0 < j := by
  by_cases hm : 0 < m
  · exact .inr (.inl hm)
  by_cases hj : 0 < j
  · exact .inr (.inr hj)
  have e1 : m = 0 := by omega
  have e2 : j = 0 := by omega
  subst e1; subst e2
  simp only [Addr.add, if_true] at h
  unfold World.cell? at h
  split at h
  · cases hs : a.spot with
    | none => exact .inl rfl
    | some _ => rw [hs] at h; simp at h
  · cases h

theorem opens_slice {α : Type} {P : Program} {t e : TypeId} {R : World → List Value → α → Prop} {sz : Nat} (ht : P.underlying t = some (.slice e)) (hsz : P.cellsOf e = sz) (hpos : 0 < sz) (he : Opens P e R) : Opens P t (rSl R sz) := by
  intro H enc w fuel cs x h
  rcases DataW.trod_slice ht h with ⟨h0, _⟩ | ⟨a, len, cap, elems, rest, n, _, hcs, _, _, hl, hm, hlen, hel, _, _⟩
  · exact ⟨[], none, 0, h0, Nat.le_refl _, Nat.zero_le _, (fun _ => rfl), (fun i x hx => by simp at hx)⟩
  · have each : ∀ i, i < len → ∃ y, ∃ ce : List Value, ce.length = sz ∧ R w ce y ∧ ∀ j, j < sz → w.cell? ((a.add (i * sz)).add j) = ce[j]? := fun i hi => by
      have hi' : i < elems.length := by omega
      have h1 := hel i hi
      rw [List.getElem?_eq_getElem hi', Option.bind_eq_some_iff, hsz] at h1
      obtain ⟨ce, h2, h3⟩ := h1
      obtain ⟨h4, h5⟩ := cells?_get h2
      obtain ⟨y, hy⟩ := he H enc w n ce _ h3
      exact ⟨y, ce, h4, hy, h5⟩
    obtain ⟨xs, hxl, hxs⟩ := list_choose each
    refine ⟨xs, some a, cap, by rw [hcs, hxl], by omega, hm, (fun hh => by cases hh), fun i x hx => ?_⟩
    obtain ⟨ce, h1, h2, h3⟩ := hxs i x hx
    have hi : i < xs.length := (List.getElem?_eq_some_iff.1 hx).1
    have h0 : a.spot = none := by
      obtain ⟨y0, ce0, g1, _, g3⟩ := each 0 (by omega)
      have g := g3 0 hpos
      rw [List.getElem?_eq_getElem (by omega)] at g
      rcases add_add_spot g with h | h | h
      · exact h
      · omega
      · omega
    obtain ⟨b, o, s⟩ := a
    dsimp only at h0
    subst h0
    have hadd : ∀ m j, Addr.add (Addr.add ⟨b, o, none⟩ m) j = ⟨b, o + m + j, none⟩ := fun m j => by rw [Addr.add_lit, Addr.add_lit]
    refine ⟨b, o, ce, rfl, ?_, h1, h2, fun j hj => by rw [← hadd]; exact h3 j hj⟩
    have g := h3 0 hpos
    rw [List.getElem?_eq_getElem (by omega), hadd] at g
    exact World.block_lt_of_cell? _ _ g

/-- R does not change while the world grows. -/
def Stable {α : Type} (R : World → List Value → α → Prop) : Prop := ∀ (w w' : World) (cs : List Value) (x : α), Grew w w' → R w cs x → R w' cs x

theorem SlAt.grew {α : Type} {R : World → List Value → α → Prop} {sz : Nat} (hR : Stable R) {w w' : World} {p : Option Addr} {cap : Nat} {xs : List α} (h : SlAt R sz w p cap xs) (hg : Grew w w') : SlAt R sz w' p cap xs := by
  obtain ⟨h1, h2, h3, h4⟩ := h
  refine ⟨h1, h2, h3, fun i x hx => ?_⟩
  obtain ⟨b, o, ce, g1, g2, g3, g4, g5⟩ := h4 i x hx
  exact ⟨b, o, ce, g1, Nat.lt_of_lt_of_le g2 hg.below.size, g3, hR _ _ _ _ hg g4, fun j hj => by rw [hg.below.cell (p := ⟨b, _, none⟩) g2]; exact g5 j hj⟩
end Go.Proofs.YtiihgpgpbgafiaaDoor

/- Memory of the call's own: a list of rows, each in a block of its own; what is read, stored, appended, made. -/
namespace Go.Proofs.YtiihgpgpbgafiaaDoor
open Go.RowKit

/-- A slice value with what it holds: n elements of sz cells each. -/
structure Row where
  v : Value
  e : TypeId
  sz : Nat
  n : Nat
  vs : List Value

/-- The rows lie in blocks from B on, each in one of its own. -/
def Owns (w : World) (B : Nat) (rs : List Row) : Prop :=
  (∀ (k : Nat) (r : Row), rs[k]? = some r → w.ownsRow B r.e r.sz r.v r.n r.vs) ∧
  ∀ (i j : Nat) (ri rj : Row), rs[i]? = some ri → rs[j]? = some rj → i ≠ j → ∀ g, ri.v.ownBlock = some g → rj.v.ownBlock ≠ some g

theorem lt_of_block {w : World} {S : Nat} {o : Obj} (h : w.heap[S]? = some o) : S < w.heap.size := (Array.getElem?_eq_some_iff.1 h).1

theorem ownsRow_grew {w w' : World} {B : Nat} {e : TypeId} {sz n : Nat} {v : Value} {vs : List Value} (h : w.ownsRow B e sz v n vs) (hg : Grew w w') : w'.ownsRow B e sz v n vs := by
  obtain ⟨h1, h2⟩ := h
  refine ⟨h1, h2.imp id fun ⟨g, cap, cur, hv, hb, hh, r⟩ => ⟨g, cap, cur, hv, hb, ?_, r⟩⟩
  rw [hg.below.block g (lt_of_block hh)]
  exact hh
theorem ownsRow_base {w : World} {B B' : Nat} {e : TypeId} {sz n : Nat} {v : Value} {vs : List Value} (h : w.ownsRow B e sz v n vs) (hB : B' ≤ B) : w.ownsRow B' e sz v n vs := by
  obtain ⟨h1, h2⟩ := h
  exact ⟨h1, h2.imp id fun ⟨g, cap, cur, hv, hb, r⟩ => ⟨g, cap, cur, hv, Nat.le_trans hB hb, r⟩⟩

theorem Owns.nil (w : World) (B : Nat) : Owns w B [] := ⟨fun k r h => by simp at h, fun i j ri rj h => by simp at h⟩
theorem Owns.grew {w w' : World} {B : Nat} {rs : List Row} (h : Owns w B rs) (hg : Grew w w') : Owns w' B rs := ⟨fun k r hk => ownsRow_grew (h.1 k r hk) hg, h.2⟩
theorem Owns.base {w : World} {B B' : Nat} {rs : List Row} (h : Owns w B rs) (hB : B' ≤ B) : Owns w B' rs := ⟨fun k r hk => ownsRow_base (h.1 k r hk) hB, h.2⟩
theorem Owns.tail {w : World} {B : Nat} {r : Row} {rs : List Row} (h : Owns w B (r :: rs)) : Owns w B rs :=
  ⟨fun k x hk => h.1 (k + 1) x (by simpa using hk), fun i j ri rj hi hj hij => h.2 (i + 1) (j + 1) ri rj (by simpa using hi) (by simpa using hj) (by omega)⟩
theorem Owns.head {w : World} {B : Nat} {r : Row} {rs : List Row} (h : Owns w B (r :: rs)) : w.ownsRow B r.e r.sz r.v r.n r.vs := h.1 0 r rfl

theorem Owns.cons {w : World} {B : Nat} {r : Row} {rs : List Row} (h : Owns w B rs) (hr : w.ownsRow B r.e r.sz r.v r.n r.vs)
    (hsep : ∀ (k : Nat) (x : Row), rs[k]? = some x → ∀ g, r.v.ownBlock = some g → x.v.ownBlock ≠ some g) : Owns w B (r :: rs) := by
  refine ⟨fun k x hk => ?_, fun i j ri rj hi hj hij g h1 h2 => ?_⟩
  · cases k with
    | zero => simp at hk; subst hk; exact hr
    | succ k => exact h.1 k x (by simpa using hk)
  · cases i with
    | zero =>
      cases j with
      | zero => exact hij rfl
      | succ j => simp at hi; subst hi; exact hsep j rj (by simpa using hj) g h1 h2
    | succ i =>
      cases j with
      | zero => simp at hj; subst hj; exact hsep i ri (by simpa using hi) g h2 h1
      | succ j => exact h.2 i j ri rj (by simpa using hi) (by simpa using hj) (by omega) g h1 h2

/-- A slice that is nil. -/
theorem Owns.none {w : World} {B : Nat} {rs : List Row} (h : Owns w B rs) (e : TypeId) (sz : Nat) : Owns w B (⟨.slice Option.none 0 0, e, sz, 0, []⟩ :: rs) :=
  h.cons (World.ownsRow_nil w B e sz) (fun k x _ g hg => by simp [Value.ownBlock] at hg)

/-- A new block. -/
theorem Owns.made {w : World} {B : Nat} {rs : List Row} (h : Owns w B rs) (hB : B ≤ w.heap.size) (cs : Array Value) (e : TypeId) (sz n b : Nat) (hn : cs.size = n * sz) (hm : n ≤ maxLen) (hb : b = w.heap.size) :
    Owns (w.alloc (.cells cs e)) B (⟨.slice (some ⟨b, 0, Option.none⟩) n n, e, sz, n, cs.toList⟩ :: rs) := by
  subst hb
  refine (h.grew ((Grew.refl w).alloc _)).cons ⟨by simpa using hn, Or.inr ⟨w.heap.size, n, cs, rfl, hB, ?_, Nat.le_refl _, hm, hn, ?_⟩⟩ ?_
  · rw [heap_alloc_if, if_neg (by omega), if_pos rfl]
  · exact List.take_of_length_le (by simp [hn])
  · intro k x hk g h1 h2
    simp [Value.ownBlock] at h1
    subst h1
    have := ((h.1 k x hk).lt _ h2).2
    omega

/-- What an operation on one row leaves of the others. -/
theorem Owns.put {w w' : World} {B : Nat} {rs : List Row} {k : Nat} {r r' : Row} (h : Owns w B rs) (hk : rs[k]? = some r) (hg : w.grownBy w' r.v.ownBlock) (hr : w'.ownsRow B r'.e r'.sz r'.v r'.n r'.vs)
    (hsep : ∀ g, r'.v.ownBlock = some g → r.v.ownBlock = some g ∨ w.heap.size ≤ g) : Owns w' B (rs.set k r') := by
  have hkl : k < rs.length := (List.getElem?_eq_some_iff.1 hk).1
  have hfar : ∀ (j : Nat) (x : Row), rs[j]? = some x → j ≠ k → w'.ownsRow B x.e x.sz x.v x.n x.vs := fun j x hj hne => by
    refine (h.1 j x hj).kept hg ?_
    cases hx : x.v.ownBlock with
    | none => exact Or.inl rfl
    | some g => exact Or.inr fun e => h.2 j k x r hj hk hne g hx e.symm
  have hsep' : ∀ (j : Nat) (x : Row), rs[j]? = some x → j ≠ k → ∀ g, r'.v.ownBlock = some g → x.v.ownBlock ≠ some g := fun j x hj hne g h1 h2 => by
    rcases hsep g h1 with h3 | h3
    · exact h.2 k j r x hk hj (Ne.symm hne) g h3 h2
    · have := ((h.1 j x hj).lt g h2).2
      omega
  refine ⟨fun j x hj => ?_, fun i j ri rj hi hj hij g h1 h2 => ?_⟩
  · rw [List.getElem?_set] at hj
    by_cases e : k = j
    · rw [if_pos e, if_pos (by omega)] at hj
      cases hj
      exact hr
    · rw [if_neg e] at hj
      exact hfar j x hj (Ne.symm e)
  · rw [List.getElem?_set] at hi hj
    by_cases ei : k = i
    · rw [if_pos ei, if_pos (by omega)] at hi
      cases hi
      rw [if_neg (by omega)] at hj
      exact hsep' j rj hj (by omega) g h1 h2
    · rw [if_neg ei] at hi
      by_cases ej : k = j
      · rw [if_pos ej, if_pos (by omega)] at hj
        cases hj
        exact hsep' i ri hi (Ne.symm ei) g h2 h1
      · rw [if_neg ej] at hj
        exact h.2 i j ri rj hi hj hij g h1 h2

/-- What a walk wants of a row: where it lies and what can be read. -/
theorem Owns.at {w : World} {B : Nat} {rs : List Row} (h : Owns w B rs) {k : Nat} {r : Row} (hk : rs[k]? = some r) :
    r.vs.length = r.n * r.sz ∧ ((r.v = .slice Option.none 0 0 ∧ r.n = 0) ∨ ∃ g cap, r.v = .slice (some ⟨g, 0, Option.none⟩) r.n cap ∧ B ≤ g ∧ g < w.heap.size ∧ r.n ≤ cap ∧ cap ≤ maxLen ∧
      (∀ i, w.frozen? ⟨g, i, Option.none⟩ = false) ∧ ∀ i u, r.vs[i]? = some u → w.cell? ⟨g, i, Option.none⟩ = some u) := by
  obtain ⟨h1, h2⟩ := h.1 k r hk
  refine ⟨h1, h2.imp id fun ⟨g, cap, cur, hv, hb, hh, hle, hm, hs, ht⟩ => ⟨g, cap, hv, hb, lt_of_block hh, hle, hm, fun i => by simp [World.frozen?, hh], fun i u hu => ?_⟩⟩
  rw [← ht, List.getElem?_take] at hu
  split at hu
  · simp only [World.cell?, hh]
    simpa using hu
  · cases hu

theorem Owns.get {w : World} {B : Nat} {rs : List Row} (h : Owns w B rs) {k : Nat} {v : Value} {e : TypeId} {sz n : Nat} {vs : List Value} (hk : rs[k]? = some ⟨v, e, sz, n, vs⟩) :
    vs.length = n * sz ∧ ((v = .slice Option.none 0 0 ∧ n = 0) ∨ ∃ g cap, v = .slice (some ⟨g, 0, Option.none⟩) n cap ∧ B ≤ g ∧ g < w.heap.size ∧ n ≤ cap ∧ cap ≤ maxLen ∧
      (∀ i, w.frozen? ⟨g, i, Option.none⟩ = false) ∧ ∀ i u, vs[i]? = some u → w.cell? ⟨g, i, Option.none⟩ = some u) := h.at hk
/-- A row that is not empty. -/
theorem Owns.some {w : World} {B : Nat} {rs : List Row} (h : Owns w B rs) {k : Nat} {v : Value} {e : TypeId} {sz n : Nat} {vs : List Value} (hk : rs[k]? = some ⟨v, e, sz, n, vs⟩) (hn : 0 < n) :
    ∃ g cap, v = .slice (some ⟨g, 0, Option.none⟩) n cap ∧ B ≤ g ∧ g < w.heap.size ∧ n ≤ cap ∧ cap ≤ maxLen ∧
      (∀ i, w.frozen? ⟨g, i, Option.none⟩ = false) ∧ ∀ i u, vs[i]? = some u → w.cell? ⟨g, i, Option.none⟩ = some u := (h.get hk).2.resolve_left (fun h0 => by omega)

/-- A store into a row. -/
theorem Owns.set {w : World} {B : Nat} {rs : List Row} (h : Owns w B rs) {k : Nat} {e : TypeId} {sz n : Nat} {vs : List Value} {g cap : Nat} (hk : rs[k]? = Option.some ⟨.slice (Option.some ⟨g, 0, Option.none⟩) n cap, e, sz, n, vs⟩) (i : Nat) (u : Value) :
    Owns (w.setCell ⟨g, i, Option.none⟩ u) B (rs.set k ⟨.slice (Option.some ⟨g, 0, Option.none⟩) n cap, e, sz, n, vs.set i u⟩) := by
  have hv : (Value.slice (Option.some ⟨g, 0, Option.none⟩) n cap) = .slice (Option.some ⟨g, 0, Option.none⟩) n cap := rfl
  have hrow : w.ownsRow B e sz (.slice (Option.some ⟨g, 0, Option.none⟩) n cap) n vs := h.1 k _ hk
  obtain ⟨h1, h2⟩ := hrow
  rcases h2 with ⟨h2, _⟩ | ⟨g', cap', cur, hv', hb, hh, hle, hm, hs, ht⟩
  · cases h2
  · cases hv'
    refine h.put hk ?_ ⟨by simpa using h1, Or.inr ⟨g, cap, cur.setIfInBounds i u, hv, hb, ?_, hle, hm, by simpa using hs, ?_⟩⟩ (fun g' hg' => Or.inl hg')
    · refine ⟨rfl, rfl, rfl, by simp [World.setCell], fun j hj hne => ?_⟩
      simp only [World.setCell, Array.getElem?_modify]
      rw [if_neg (fun e => hne (by simp [Value.ownBlock, e]))]
    · simp only [World.setCell, Array.getElem?_modify, hh]
      simp
    · rw [← ht]
      simp [List.take_set]

theorem Grew.grownBy {w0 w w' : World} {row : Option Nat} (h : Grew w0 w) (hg : w.grownBy w' row) (hr : ∀ k, row = some k → w0.heap.size ≤ k) : Grew w0 w' :=
  .of_below (h.below.grown hg h.below.size hr)
/-- A store into a row leaves the old memory. -/
theorem Owns.setGrew {w0 w : World} {B : Nat} {rs : List Row} (h : Owns w B rs) (hB : w0.heap.size ≤ B) (hg : Grew w0 w) {k : Nat} {e : TypeId} {sz n : Nat} {vs : List Value} {g cap : Nat} (hk : rs[k]? = Option.some ⟨.slice (Option.some ⟨g, 0, Option.none⟩) n cap, e, sz, n, vs⟩) (i : Nat) (u : Value) :
    Grew w0 (w.setCell ⟨g, i, Option.none⟩ u) := by
  have := ((h.1 k _ hk).lt g rfl).1
  exact hg.setCell (by show w0.heap.size ≤ g; omega) u

/-- An append on a row. -/
theorem owp_append_owns {P : Program} {o : Oper} {a : Act} {K : Act → World → Prop} {Q : Exit → Act → World → Prop} {w : World} (s x : Operand) (t : TypeId)
    (ho : o.op = .call { callee := .builtin .append, args := #[s, x], argTypes := #[t, t] }) (e : TypeId) (sz bytes : Nat) (z : Value) (ht : P.underlying t = some (.slice e))
    (hinfo : (P.info? e).map (fun i => (i.zero, i.size, i.bytes)) = some (some z, sz, bytes)) (hzs : z.cells.size = sz) (hpos : 0 < sz)
    (B : Nat) (rs : List Row) (k : Nat) (v0 : Value) (n0 : Nat) (xs0 : List Value) (hO : Owns w B rs) (hk : rs[k]? = some ⟨v0, e, sz, n0, xs0⟩) (hs : a.eval s = v0)
    (ad : Option Addr) (m c : Nat) (hx : a.eval x = .slice ad m c) (news : List Value) (hn : news.length = m * sz) (hnil : ad = Option.none → m = 0 ∧ c = 0)
    (hnews : ∀ b, ad = some b → ∀ j u, news[j]? = some u → w.cell? (b.add j) = some u) (h1 : ∀ u ∈ news, u.oneCell' = true)
    (hlen : n0 + m ≤ maxLen) (hbytes : (n0 + m) * bytes ≤ 140737488355328) (hB : B ≤ w.heap.size)
    (h : ∀ v' w', Owns w' B (rs.set k ⟨v', e, sz, n0 + m, xs0 ++ news⟩) → w.grownBy w' v0.ownBlock → (∀ k, v0.ownBlock = some k → B ≤ k) → (v' = .slice Option.none 0 0 → m = 0) → K (a.put o.dst v') w') :
    o.wp P a w K Q := by
  obtain ⟨i0, hi, hz0, hz1, hz2⟩ := info_parts hinfo
  have hown : w.ownsRow B e sz v0 n0 xs0 := hO.1 k _ hk
  have hge : ∀ g, v0.ownBlock = some g → B ≤ g := fun g hg => (hown.lt g hg).1
  cases ad with
  | none =>
    obtain ⟨rfl, rfl⟩ := hnil rfl
    have hnn : news = [] := List.length_eq_zero_iff.1 (by simpa using hn)
    subst hnn
    have hrun := run_append_owned_none (P := P) (w := w) B t o.type e i0 sz ht hi v0 n0 xs0 hown
    unfold Oper.wp
    simp [execOp, ho, resolve, invoke, builtin, hs, hx, hrun, Result.andThen]
    refine h v0 w ?_ (World.grownBy.refl w _) hge (fun _ => rfl)
    have : rs.set k ⟨v0, e, sz, n0 + 0, xs0 ++ []⟩ = rs := by
      rw [List.append_nil]
      obtain ⟨h3, h4⟩ := List.getElem?_eq_some_iff.1 hk
      rw [Nat.add_zero, ← h4]
      exact List.set_getElem_self h3
    rw [this]
    exact hO
  | some ad =>
  have hnews' := hnews ad rfl
  have hgrown : ∀ v' w', w'.ownsRow w.heap.size e sz v' (n0 + m) (xs0 ++ news) → w.grownBy w' Option.none → 0 < n0 + m → K (a.put o.dst v') w' := by
    intro v' w' g1 g2 hnm
    refine h v' w' (hO.put hk ⟨g2.os, g2.tape, g2.output, g2.size, fun j hj _ => g2.block j hj (by simp)⟩ ?_ ?_) ⟨g2.os, g2.tape, g2.output, g2.size, fun j hj _ => g2.block j hj (by simp)⟩ hge ?_
    · exact ownsRow_base g1 hB
    · intro g hg
      exact Or.inr (World.ownsRow.lt g1 g hg).1
    · rintro rfl
      rcases g1.2 with ⟨_, h0⟩ | ⟨g, cap', cur, hv', _⟩
      · omega
      · cases hv'
  rcases id hown.2 with ⟨h2, h3⟩ | ⟨g, cap, cur, hv, hb, hh, hle, hmx, hsz, htk⟩
  · have hx0 : xs0 = [] := List.length_eq_zero_iff.1 (by rw [hown.1, h3]; simp)
    obtain ⟨v', w', hrun, r1, r2, r3⟩ := run_append_own (P := P) w w.heap.size t o.type e i0 z sz bytes ht hi hz0 hz1 hz2 hzs hpos v0 n0 xs0 (by rw [h2, h3, hx0]; exact World.ownsRow_nil w _ e sz) ad m c news hn hnews' h1 hlen hbytes (Nat.le_refl _)
    unfold Oper.wp
    simp [execOp, ho, resolve, invoke, builtin, hs, hx, hrun, Result.andThen]
    exact h v' w' (hO.put hk r2 (ownsRow_base r1 hB) (fun g hg => Or.inr (World.ownsRow.lt r1 g hg).1)) r2 hge (fun hv' => (r3.1 hv').2)
  · by_cases hfit : n0 + m ≤ cap
    · obtain ⟨w', hrun, g1, g2⟩ := run_append_fits (P := P) w B t o.type e i0 sz ht hi hz1 g n0 cap xs0 (by rw [← hv]; exact hown) ad m c news hn hnews' h1 hfit
      unfold Oper.wp
      simp [execOp, ho, resolve, invoke, builtin, hs, hv, hx, hrun, Result.andThen]
      have hvb : v0.ownBlock = some g := by rw [hv]; rfl
      refine h _ w' (hO.put hk (by rw [hvb]; exact g2) g1 (fun g' hg' => ?_)) (by rw [hvb]; exact g2) hge (fun hc => by cases hc)
      rw [hvb]
      exact Or.inl hg'
    · have hnm : 0 < n0 + m := by omega
      obtain ⟨v', w', hrun, r1, r2⟩ := run_append_arg_grows (P := P) w t o.type e i0 z sz bytes ht hi hz0 hz1 hz2 hzs hpos ⟨g, 0, Option.none⟩ n0 cap xs0 hown.1 (fun j u hj => by
        rcases (hO.get hk).2 with ⟨h2, _⟩ | ⟨g', cap', hv', _, _, _, _, _, hc⟩
        · rw [hv] at h2; cases h2
        · rw [hv] at hv'
          cases hv'
          rw [Addr.add_lit, Nat.zero_add]
          exact hc j u hj) ad m c news hn hnews' (by omega) hlen hbytes
      unfold Oper.wp
      simp [execOp, ho, resolve, invoke, builtin, hs, hv, hx, hrun, Result.andThen]
      exact hgrown v' w' r1 r2 hnm

theorem wp_append_owns {P : Program} {ops : Array Oper} {rest : List Oper} {o : Oper} {a : Act} {Q : Exit → Act → World → Prop} {w : World} (hgd : o.guard = Option.none) (s x : Operand) (t : TypeId)
    (ho : o.op = .call { callee := .builtin .append, args := #[s, x], argTypes := #[t, t] }) (e : TypeId) (sz bytes : Nat) (z : Value) (ht : P.underlying t = some (.slice e))
    (hinfo : (P.info? e).map (fun i => (i.zero, i.size, i.bytes)) = some (some z, sz, bytes)) (hzs : z.cells.size = sz) (hpos : 0 < sz)
    (B : Nat) (rs : List Row) (k : Nat) (v0 : Value) (n0 : Nat) (xs0 : List Value) (hO : Owns w B rs) (hk : rs[k]? = some ⟨v0, e, sz, n0, xs0⟩) (hs : a.eval s = v0)
    (ad : Option Addr) (m c : Nat) (hx : a.eval x = .slice ad m c) (news : List Value) (hn : news.length = m * sz) (hnil : ad = Option.none → m = 0 ∧ c = 0)
    (hnews : ∀ b, ad = some b → ∀ j u, news[j]? = some u → w.cell? (b.add j) = some u) (h1 : ∀ u ∈ news, u.oneCell' = true)
    (hlen : n0 + m ≤ maxLen) (hbytes : (n0 + m) * bytes ≤ 140737488355328) (hB : B ≤ w.heap.size)
    (h : ∀ v' w', Owns w' B (rs.set k ⟨v', e, sz, n0 + m, xs0 ++ news⟩) → w.grownBy w' v0.ownBlock → (∀ k, v0.ownBlock = some k → B ≤ k) → (v' = .slice Option.none 0 0 → m = 0) → wpList P ops Q rest (a.put o.dst v') w') :
    wpList P ops Q (o :: rest) a w :=
  wpList_plain hgd fun _ hK => owp_append_owns s x t ho e sz bytes z ht hinfo hzs hpos B rs k v0 n0 xs0 hO hk hs ad m c hx news hn hnil hnews h1 hlen hbytes hB fun v' w' g1 g2 g3 g4 => hK _ _ (h v' w' g1 g2 g3 g4)
/-- The same at a step of a region that draws its order. -/
theorem step_append_owns {P : Program} {ops : Array Oper} {o : Oper} {a : Act} {K : Act → World → Prop} {Q : Exit → Act → World → Prop} {E : Prop} {w : World} (hgd : o.guard = Option.none) (s x : Operand) (t : TypeId)
    (ho : o.op = .call { callee := .builtin .append, args := #[s, x], argTypes := #[t, t] }) (e : TypeId) (sz bytes : Nat) (z : Value) (ht : P.underlying t = some (.slice e))
    (hinfo : (P.info? e).map (fun i => (i.zero, i.size, i.bytes)) = some (some z, sz, bytes)) (hzs : z.cells.size = sz) (hpos : 0 < sz)
    (B : Nat) (rs : List Row) (k : Nat) (v0 : Value) (n0 : Nat) (xs0 : List Value) (hO : Owns w B rs) (hk : rs[k]? = some ⟨v0, e, sz, n0, xs0⟩) (hs : a.eval s = v0)
    (ad : Option Addr) (m c : Nat) (hx : a.eval x = .slice ad m c) (news : List Value) (hn : news.length = m * sz) (hnil : ad = Option.none → m = 0 ∧ c = 0)
    (hnews : ∀ b, ad = some b → ∀ j u, news[j]? = some u → w.cell? (b.add j) = some u) (h1 : ∀ u ∈ news, u.oneCell' = true)
    (hlen : n0 + m ≤ maxLen) (hbytes : (n0 + m) * bytes ≤ 140737488355328) (hB : B ≤ w.heap.size)
    (h : ∀ v' w', Owns w' B (rs.set k ⟨v', e, sz, n0 + m, xs0 ++ news⟩) → w.grownBy w' v0.ownBlock → (∀ k, v0.ownBlock = some k → B ≤ k) → (v' = .slice Option.none 0 0 → m = 0) → K (a.put o.dst v') w') :
    if Region.wanted o (yielded ops a.tmps) = true then Oper.wp P o a w K Q else E := by
  rw [if_pos (by simp [Region.wanted, hgd])]
  exact owp_append_owns s x t ho e sz bytes z ht hinfo hzs hpos B rs k v0 n0 xs0 hO hk hs ad m c hx news hn hnil hnews h1 hlen hbytes hB h

theorem Grew.cellEq {w W : World} (h : Grew w W) {b i : Nat} {v : Value} (hc : w.cell? ⟨b, i, Option.none⟩ = Option.some v) : W.cell? ⟨b, i, Option.none⟩ = Option.some v := by
  rw [h.below.cell (p := ⟨b, i, Option.none⟩) (World.block_lt_of_cell? w _ hc)]
  exact hc
theorem grownBy_cell {w w' : World} {row : Option Nat} (hg : w.grownBy w' row) {b : Nat} (i : Nat) (hb : b < w.heap.size) (hne : ∀ g, row = some g → g ≠ b) : w'.cell? ⟨b, i, Option.none⟩ = w.cell? ⟨b, i, Option.none⟩ :=
  World.cell?_of_block (hg.block b hb (fun e => hne b e.symm rfl))
/-! ### Worlds that differ in some blocks only -/
/-- w' has come out of w; the blocks that were there are as they were, but for those of ex. -/
structure Gr (ex : Nat → Prop) (w w' : World) : Prop where
  os : w'.os = w.os
  tape : w'.tape = w.tape
  output : w'.output = w.output
  size : w.heap.size ≤ w'.heap.size
  block : ∀ k, k < w.heap.size → ¬ ex k → w'.heap[k]? = w.heap[k]?
theorem Gr.refl (ex : Nat → Prop) (w : World) : Gr ex w w := ⟨rfl, rfl, rfl, Nat.le_refl _, fun _ _ _ => rfl⟩
theorem Gr.trans {ex : Nat → Prop} {a b c : World} (h : Gr ex a b) (k : Gr ex b c) : Gr ex a c :=
  ⟨k.os.trans h.os, k.tape.trans h.tape, k.output.trans h.output, Nat.le_trans h.size k.size, fun i hi hx => (k.block i (Nat.lt_of_lt_of_le hi h.size) hx).trans (h.block i hi hx)⟩
theorem Gr.mono {ex ex' : Nat → Prop} {a b : World} (h : Gr ex a b) (hx : ∀ k, k < a.heap.size → ex k → ex' k) : Gr ex' a b :=
  ⟨h.os, h.tape, h.output, h.size, fun i hi hn => h.block i hi (fun e => hn (hx i hi e))⟩
theorem Gr.of_grew (ex : Nat → Prop) {w w' : World} (h : Grew w w') : Gr ex w w' := ⟨h.below.os, h.below.tape, h.below.output, h.below.size, fun k hk _ => h.below.block k hk⟩
theorem Gr.grew {w w' : World} (h : Gr (fun _ => False) w w') : Grew w w' := .of_below ⟨h.os, h.tape, h.output, h.size, fun k hk => h.block k hk (fun e => e)⟩
theorem Gr.setCell {ex : Nat → Prop} {w w' : World} (h : Gr ex w w') {b i : Nat} (hb : ex b) (u : Value) : Gr ex w (w'.setCell ⟨b, i, Option.none⟩ u) := by
  refine h.trans ⟨rfl, rfl, rfl, by simp [World.setCell], fun k hk hn => ?_⟩
  simp only [World.setCell, Array.getElem?_modify]
  rw [if_neg (fun e => hn (by rw [← e]; exact hb))]
theorem Gr.alloc {ex : Nat → Prop} {w w' : World} (h : Gr ex w w') (o : Obj) : Gr ex w (w'.alloc o) := h.trans (Gr.of_grew ex ((Grew.refl w').alloc o))
theorem Gr.drew {ex : Nat → Prop} {w w' : World} (h : Gr ex w w') : Gr ex w w'.drew := h.trans (Gr.of_grew ex (Grew.refl w').drew)
theorem Gr.ovr {ex : Nat → Prop} {w w' : World} (h : Gr ex w w') (x : World) : Gr ex w (Proofs.YtiihgpgpbgafiaaDoor.over w' x) := h.trans (Gr.of_grew ex ((Grew.refl w').over x))
theorem Gr.over {ex : Nat → Prop} {w w' : World} (h : Gr ex w w') {w2 : World} (hg : Grew w' w2) : Gr ex w w2 := h.trans (Gr.of_grew ex hg)
theorem Gr.cell {ex : Nat → Prop} {w w' : World} (h : Gr ex w w') {b i : Nat} (hb : b < w.heap.size) (hn : ¬ ex b) : w'.cell? ⟨b, i, Option.none⟩ = w.cell? ⟨b, i, Option.none⟩ := World.cell?_of_block (h.block b hb hn)
theorem Gr.frozen {ex : Nat → Prop} {w w' : World} (h : Gr ex w w') {b i : Nat} (hb : b < w.heap.size) (hn : ¬ ex b) : w'.frozen? ⟨b, i, Option.none⟩ = w.frozen? ⟨b, i, Option.none⟩ := World.frozen?_of_block (h.block b hb hn)
/-- make([]T, n), an element being one cell. -/
theorem owp_make_owns {P : Program} {o : Oper} {a : Act} {K : Act → World → Prop} {Q : Exit → Act → World → Prop} {w : World} (l c : Operand) (t : TypeId) (hop : o.op = Op.makeSlice t l c)
    (e : TypeId) (bytes : Nat) (z : Value) (ht : P.underlying t = some (.slice e)) (hinfo : (P.info? e).map (fun i => (i.zero, i.size, i.bytes)) = some (some z, 1, bytes)) (hzs : z.cells = #[z])
    (kl kc : IntKind) (L C : Int) (n : Nat) (hl : a.eval l = .int kl L) (hc : a.eval c = .int kc C) (hL : L = (n : Int)) (hC : C = (n : Int)) (hbytes : bytes * n ≤ 281474976710656) (hn : n ≤ maxLen)
    (B : Nat) (rs : List Row) (hO : Owns w B rs) (hB : B ≤ w.heap.size)
    (h : ∀ w', Owns w' B (⟨.slice (some ⟨w.heap.size, 0, Option.none⟩) n n, e, 1, n, List.replicate n z⟩ :: rs) → Grew w w' → w.heap.size < w'.heap.size → K (a.put o.dst (.slice (some ⟨w.heap.size, 0, Option.none⟩) n n)) w') :
    o.wp P a w K Q := by
  obtain ⟨i0, hi, hz0, hz1, hz2⟩ := info_parts hinfo
  obtain ⟨w', hrun, r1, r2⟩ := run_make_full (P := P) w w.heap.size t e i0 z 1 ht hi hz0 hz1 kl kc n (by rw [hz2]; exact hbytes) hn (Nat.le_refl _)
  subst hL hC
  unfold Oper.wp
  simp [execOp, hop, hl, hc, hrun, Result.andThen]
  rw [hzs, Nat.mul_one, toList_madeCells_one] at r1
  have hg : Grew w w' := .of_below ⟨r2.os, r2.tape, r2.output, r2.size, fun k hk => r2.block k hk (by simp)⟩
  refine h w' ((hO.grew hg).cons (ownsRow_base r1 hB) ?_) hg (World.ownsRow.lt r1 _ rfl).2
  intro k x hk g h1 h2
  simp [Value.ownBlock] at h1
  subst h1
  have := ((hO.1 k x hk).lt _ h2).2
  omega
theorem wp_make_owns {P : Program} {ops : Array Oper} {rest : List Oper} {o : Oper} {a : Act} {Q : Exit → Act → World → Prop} {w : World} (hgd : o.guard = Option.none) (l c : Operand) (t : TypeId) (hop : o.op = Op.makeSlice t l c)
    (e : TypeId) (bytes : Nat) (z : Value) (ht : P.underlying t = some (.slice e)) (hinfo : (P.info? e).map (fun i => (i.zero, i.size, i.bytes)) = some (some z, 1, bytes)) (hzs : z.cells = #[z])
    (kl kc : IntKind) (L C : Int) (n : Nat) (hl : a.eval l = .int kl L) (hc : a.eval c = .int kc C) (hL : L = (n : Int)) (hC : C = (n : Int)) (hbytes : bytes * n ≤ 281474976710656) (hn : n ≤ maxLen)
    (B : Nat) (rs : List Row) (hO : Owns w B rs) (hB : B ≤ w.heap.size)
    (h : ∀ w', Owns w' B (⟨.slice (some ⟨w.heap.size, 0, Option.none⟩) n n, e, 1, n, List.replicate n z⟩ :: rs) → Grew w w' → w.heap.size < w'.heap.size → wpList P ops Q rest (a.put o.dst (.slice (some ⟨w.heap.size, 0, Option.none⟩) n n)) w') :
    wpList P ops Q (o :: rest) a w :=
  wpList_plain hgd fun _ hK => owp_make_owns l c t hop e bytes z ht hinfo hzs kl kc L C n hl hc hL hC hbytes hn B rs hO hB fun w' g1 g2 g3 => hK _ _ (h w' g1 g2 g3)
theorem owns_iff {w : World} {B : Nat} {rs : List Row} : Owns w B rs ↔ (∀ r ∈ rs, w.ownsRow B r.e r.sz r.v r.n r.vs) ∧ rs.Pairwise (fun a b => ∀ g, a.v.ownBlock = some g → b.v.ownBlock ≠ some g) := by
  constructor
  · intro h
    refine ⟨fun r hr => ?_, List.pairwise_iff_getElem.2 fun i j hi hj hij => h.2 i j _ _ (List.getElem?_eq_getElem hi) (List.getElem?_eq_getElem hj) (by omega)⟩
    obtain ⟨i, hi, rfl⟩ := List.getElem_of_mem hr
    exact h.1 i _ (List.getElem?_eq_getElem hi)
  · rintro ⟨h1, h2⟩
    rw [List.pairwise_iff_getElem] at h2
    refine ⟨fun k r hk => h1 r (List.mem_of_getElem? hk), fun i j ri rj hi hj hij g e1 e2 => ?_⟩
    obtain ⟨hi', rfl⟩ := List.getElem?_eq_some_iff.1 hi
    obtain ⟨hj', rfl⟩ := List.getElem?_eq_some_iff.1 hj
    rcases Nat.lt_or_gt_of_ne hij with h | h
    · exact h2 i j hi' hj' h g e1 e2
    · exact h2 j i hj' hi' h g e2 e1
theorem Owns.perm {w : World} {B : Nat} {rs rs' : List Row} (h : Owns w B rs) (hp : rs.Perm rs') : Owns w B rs' := by
  rw [owns_iff] at h ⊢
  refine ⟨fun r hr => h.1 r (hp.mem_iff.2 hr), (hp.pairwise_iff ?_).1 h.2⟩
  intro a b hab g e1 e2
  exact hab g e2 e1
theorem Owns.tail_of {w : World} {B : Nat} {xs rs : List Row} (h : Owns w B (xs ++ rs)) : Owns w B rs := by
  induction xs with
  | nil => exact h
  | cons a xs ih => exact ih (Owns.tail h)

end Go.Proofs.YtiihgpgpbgafiaaDoor

/- Slices of integers, and slices of them, as they are read. -/
namespace Go.Proofs.YtiihgpgpbgafiaaDoor
open Go.RowKit

/-- The number at place i of a list (a name that simp does not open). -/
def ge (xs : List Int) (i : Nat) : Int := xs.getD i 0
theorem ge_cons_succ (x : Int) (l : List Int) (i : Nat) : ge (x :: l) (i + 1) = ge l i := by simp [ge]
theorem ge_cons_zero (x : Int) (l : List Int) : ge (x :: l) 0 = x := by simp [ge]
theorem ge_eq (xs : List Int) {i : Nat} (h : i < xs.length) : ge xs i = xs[i] := by simp [ge, h]
theorem ge_mem {xs : List Int} {i : Nat} (h : i < xs.length) : ge xs i ∈ xs := by rw [ge_eq xs h]; exact List.getElem_mem h
theorem ret_bool {a b : Bool} (h : a = b) : Ending.returned (.bool a) = .returned (.bool b) := by rw [h]
theorem ret_int {k : IntKind} {a b : Int} (h : a = b) : Ending.returned (.int k a) = .returned (.int k b) := by rw [h]

/-- A slice that starts at p reads as xs. -/
def Ints (w : World) (p : Option Addr) (xs : List Int) : Prop :=
  xs.length ≤ 9223372036854775807 ∧ (∀ x ∈ xs, -9223372036854775808 ≤ x ∧ x ≤ 9223372036854775807) ∧
  ∃ b o, (0 < xs.length → p = some ⟨b, o, none⟩ ∧ b < w.heap.size) ∧ ∀ i, i < xs.length → w.cell? ⟨b, o + i, none⟩ = some (.int .i64 (ge xs i))

theorem Ints.grew {w w' : World} {p : Option Addr} {xs : List Int} (h : Ints w p xs) (hg : Grew w w') : Ints w' p xs := by
  obtain ⟨h1, h2, b, o, h3, h4⟩ := h
  refine ⟨h1, h2, b, o, fun hp => ⟨(h3 hp).1, Nat.lt_of_lt_of_le (h3 hp).2 hg.below.size⟩, fun i hi => ?_⟩
  rw [hg.below.cell (p := ⟨b, o + i, none⟩) (h3 (by omega)).2]
  exact h4 i hi

theorem Ints.nil (w : World) (p : Option Addr) : Ints w p [] := ⟨by simp, by simp, 0, 0, by simp, by simp⟩

/-- The first index of v, -1 if there is none. -/
def idx (v : Int) : List Int → Int
  | [] => -1
  | x :: l => if v = x then 0 else if idx v l = -1 then -1 else idx v l + 1
theorem idx_take_none {v : Int} {xs : List Int} : (∀ i, i < xs.length → v ≠ ge xs i) → idx v xs = -1 := by
  induction xs with
  | nil => intro _; rfl
  | cons x l ih =>
    intro h
    have h0 := h 0 (by simp)
    rw [ge_cons_zero] at h0
    rw [idx, if_neg h0, ih (fun i hi => by have := h (i + 1) (by simpa using hi); rwa [ge_cons_succ] at this)]
    rfl
theorem idx_first {v : Int} {xs : List Int} : ∀ (k : Nat), k < xs.length → (∀ i, i < k → v ≠ ge xs i) → v = ge xs k → idx v xs = k := by
  induction xs with
  | nil => intro k hk; simp at hk
  | cons x l ih =>
    intro k hk h he
    cases k with
    | zero => rw [ge_cons_zero] at he; rw [idx, if_pos he]; rfl
    | succ k =>
      have h0 := h 0 (by omega)
      rw [ge_cons_zero] at h0
      have := ih k (by simpa using hk) (fun i hi => by have := h (i + 1) (by omega); rwa [ge_cons_succ] at this) (by rwa [ge_cons_succ] at he)
      rw [idx, if_neg h0, this, if_neg (by omega)]
      omega
theorem idx_mem {v : Int} {xs : List Int} : 0 ≤ idx v xs ↔ v ∈ xs := by
  induction xs with
  | nil => simp [idx]
  | cons x l ih =>
    rw [idx]
    by_cases h : v = x
    · simp [h]
    · rw [if_neg h]
      have hlo : -1 ≤ idx v l := by
        clear ih
        induction l with
        | nil => simp [idx]
        | cons y l ih => rw [idx]; repeat' split
                         all_goals omega
      simp only [List.mem_cons, h, false_or, ← ih]
      split <;> omega

/-- Row u of a matrix (a name that simp does not open). -/
def rowOf (m : List (List Int)) (u : Nat) : List Int := m.getD u []
theorem rowOf_eq (m : List (List Int)) {u : Nat} (h : u < m.length) : rowOf m u = m[u] := by simp [rowOf, h]

/-- A slice of slices that starts at p reads as m. -/
def Mat (w : World) (p : Option Addr) (m : List (List Int)) : Prop :=
  m.length ≤ 9223372036854775807 ∧ ∃ b o, ∃ rp : Nat → Option Addr, ∃ rc : Nat → Nat, (0 < m.length → p = some ⟨b, o, none⟩ ∧ b < w.heap.size) ∧
    ∀ u, u < m.length → w.cell? ⟨b, o + u, none⟩ = some (.slice (rp u) (rowOf m u).length (rc u)) ∧ Ints w (rp u) (rowOf m u)

theorem Mat.grew {w w' : World} {p : Option Addr} {m : List (List Int)} (h : Mat w p m) (hg : Grew w w') : Mat w' p m := by
  obtain ⟨h1, b, o, rp, rc, h3, h4⟩ := h
  refine ⟨h1, b, o, rp, rc, fun hp => ⟨(h3 hp).1, Nat.lt_of_lt_of_le (h3 hp).2 hg.below.size⟩, fun u hu => ?_⟩
  rw [hg.below.cell (p := ⟨b, o + u, none⟩) (h3 (by omega)).2]
  exact ⟨(h4 u hu).1, (h4 u hu).2.grew hg⟩

/-- What a walk wants of a row. -/
theorem Ints.open {w : World} {p : Option Addr} {xs : List Int} (h : Ints w p xs) : ∃ b o, (0 < xs.length → p = some ⟨b, o, none⟩ ∧ b < w.heap.size) ∧ ∀ i, i < xs.length → w.cell? ⟨b, o + i, none⟩ = some (.int .i64 (ge xs i)) := h.2.2

theorem slat_ints {w : World} {p : Option Addr} {cap : Nat} {xs : List Int} (h : SlAt (rInt .i64) 1 w p cap xs) : Ints w p xs := by
  obtain ⟨h1, h2, h3, h4⟩ := h
  refine ⟨by simp only [maxLen] at h2; omega, fun x hx => ?_, ?_⟩
  · obtain ⟨i, hi, rfl⟩ := List.getElem_of_mem hx
    obtain ⟨b, o, ce, _, _, _, hr, _⟩ := h4 i _ (List.getElem?_eq_getElem hi)
    have := hr.2
    simp [Lit.wf, IntKind.min, IntKind.max, IntKind.bits, IntKind.signed] at this
    omega
  · cases hp : p with
    | none =>
      refine ⟨0, 0, fun h0 => ?_, fun i hi => ?_⟩
      · have := h3 hp; omega
      · have := h3 hp; omega
    | some a =>
      obtain ⟨b, o, s⟩ := a
      by_cases h0 : 0 < xs.length
      · obtain ⟨b', o', ce, e1, e2, _⟩ := h4 0 _ (List.getElem?_eq_getElem h0)
        rw [hp] at e1
        cases e1
        refine ⟨b, o, fun _ => ⟨rfl, e2⟩, fun i hi => ?_⟩
        obtain ⟨b', o', ce, e1, _, e3, e4, e5⟩ := h4 i _ (List.getElem?_eq_getElem hi)
        rw [hp] at e1
        cases e1
        have := e5 0 (by omega)
        rw [Nat.mul_one, Nat.add_zero] at this
        rw [this, e4.1, ge_eq xs hi]
        rfl
      · exact ⟨0, 0, fun h => absurd h h0, fun i hi => by omega⟩

theorem slat_mat {w : World} {p : Option Addr} {cap : Nat} {m : List (List Int)} (h : SlAt (rSl (rInt .i64) 1) 1 w p cap m) : Mat w p m := by
  obtain ⟨h1, h2, h3, h4⟩ := h
  refine ⟨by simp only [maxLen] at h2; omega, ?_⟩
  cases hp : p with
  | none =>
    refine ⟨0, 0, fun _ => none, fun _ => 0, fun h0 => ?_, fun i hi => ?_⟩
    · have := h3 hp; omega
    · have := h3 hp; omega
  | some a =>
    obtain ⟨b, o, s⟩ := a
    by_cases h0 : 0 < m.length
    · obtain ⟨b', o', ce, e1, e2, _⟩ := h4 0 _ (List.getElem?_eq_getElem h0)
      rw [hp] at e1
      cases e1
      have key : ∀ u, ∃ pc : Option Addr × Nat, u < m.length → w.cell? ⟨b, o + u, none⟩ = some (.slice pc.1 (rowOf m u).length pc.2) ∧ Ints w pc.1 (rowOf m u) := by
        intro u
        by_cases hu : u < m.length
        · obtain ⟨b', o', ce, e1, _, e3, e4, e5⟩ := h4 u _ (List.getElem?_eq_getElem hu)
          rw [hp] at e1
          cases e1
          obtain ⟨q, cq, e6, e7⟩ := e4
          have := e5 0 (by omega)
          rw [Nat.mul_one, Nat.add_zero, e6] at this
          refine ⟨(q, cq), fun _ => ?_⟩
          rw [rowOf_eq m hu]
          exact ⟨this, slat_ints e7⟩
        · exact ⟨(none, 0), fun h => absurd h hu⟩
      refine ⟨b, o, fun u => (Classical.choose (key u)).1, fun u => (Classical.choose (key u)).2, fun _ => ⟨rfl, e2⟩, fun u hu => Classical.choose_spec (key u) hu⟩
    · exact ⟨0, 0, fun _ => none, fun _ => 0, fun h => absurd h h0, fun i hi => by omega⟩

theorem opens_ints : Opens Tryd.prog 28 (rSl (rInt .i64) 1) := opens_slice Tryd.underlying28 (by kernel_rfl) (by omega) (opens_int Tryd.underlying3)

theorem Ints.made (W : World) (t : TypeId) (xs : List Int) (cs : Array Value) (b : Nat) (hcs : cs.toList = xs.map (Value.int .i64)) (hb : b = W.heap.size) (hl : xs.length ≤ 1000) (hw : ∀ x ∈ xs, -9223372036854775808 ≤ x ∧ x ≤ 9223372036854775807) :
    Ints (W.alloc (.cells cs t)) (some ⟨b, 0, none⟩) xs := by
  subst hb
  refine ⟨by omega, hw, W.heap.size, 0, fun _ => ⟨rfl, by simp⟩, fun i hi => ?_⟩
  rw [cell?_alloc_if, if_neg (by omega), if_pos rfl, Nat.zero_add, ← Array.getElem?_toList, hcs, List.getElem?_map, List.getElem?_eq_getElem hi, ge_eq xs hi]
  rfl
theorem Mat.made (W : World) (t : TypeId) (m : List (List Int)) (cs : Array Value) (b : Nat) (rp : Nat → Option Addr) (rc : Nat → Nat) (hb : b = W.heap.size) (hl : m.length ≤ 1000)
    (h : ∀ u, u < m.length → cs[u]? = some (.slice (rp u) (rowOf m u).length (rc u)) ∧ Ints W (rp u) (rowOf m u)) : Mat (W.alloc (.cells cs t)) (some ⟨b, 0, none⟩) m := by
  subst hb
  refine ⟨by omega, W.heap.size, 0, rp, rc, fun _ => ⟨rfl, by simp⟩, fun u hu => ?_⟩
  rw [cell?_alloc_if, if_neg (by omega), if_pos rfl, Nat.zero_add]
  exact ⟨(h u hu).1, (h u hu).2.grew ((Grew.refl W).alloc _)⟩


theorem Tryd.infoInt : (Tryd.prog.info? 3).map (fun i => (i.zero, i.size, i.bytes)) = some (some (.int .i64 0), 1, 8) := by kernel_rfl
def intVs (xs : List Int) : List Value := xs.map (Value.int .i64)
theorem intVs_length (xs : List Int) : (intVs xs).length = xs.length := by simp [intVs]
theorem intVs_one (xs : List Int) : ∀ u ∈ intVs xs, u.oneCell' = true := by
  intro u hu
  obtain ⟨y, _, rfl⟩ := List.mem_map.1 hu
  rfl
theorem intVs_get (xs : List Int) {i : Nat} (h : i < xs.length) : (intVs xs)[i]? = some (.int .i64 (ge xs i)) := by
  unfold intVs
  rw [List.getElem?_map, List.getElem?_eq_getElem h, ge_eq xs h]
  rfl
theorem Ints.news {w : World} {ad : Addr} {xs : List Int} (h : Ints w (some ad) xs) : ∀ b, some ad = some b → ∀ j u, (intVs xs)[j]? = some u → w.cell? (b.add j) = some u := by
  intro b hb j u hj
  cases hb
  obtain ⟨_, _, b, o', h3, h4⟩ := h
  have hjl : j < xs.length := by
    have := (List.getElem?_eq_some_iff.1 hj).1
    rwa [intVs_length] at this
  rw [intVs_get xs hjl] at hj
  cases hj
  have hp := (h3 (by omega)).1
  cases hp
  rw [Addr.add_lit, h4 j hjl]

theorem one_news {w : World} {ad : Addr} (v : Value) (h : w.cell? (ad.add 0) = some v) : ∀ b, some ad = some b → ∀ j u, [v][j]? = some u → w.cell? (b.add j) = some u := by
  intro b hb j u hj
  cases hb
  cases j with
  | zero => simp at hj; subst hj; exact h
  | succ j => simp at hj


end Go.Proofs.YtiihgpgpbgafiaaDoor

/- Lists told by a function of the index. -/
namespace Go.Proofs.YtiihgpgpbgafiaaDoor

def tab (n : Nat) (f : Nat → Int) : List Int := (List.range n).map f
theorem tab_length (n : Nat) (f : Nat → Int) : (tab n f).length = n := by simp [tab]
theorem ge_tab {n : Nat} (f : Nat → Int) {i : Nat} (h : i < n) : ge (tab n f) i = f i := by
  rw [ge_eq _ (by rw [tab_length]; exact h)]
  simp [tab]
theorem tab_set (n : Nat) (f : Nat → Int) {k : Nat} (hk : k < n) (x : Int) : (tab n f).set k x = tab n (fun u => if u = k then x else f u) := by
  apply List.ext_getElem
  · simp [tab]
  · intro i h1 h2
    rw [List.getElem_set]
    by_cases h : k = i
    · subst h; simp [tab]
    · simp [tab, h, Ne.symm h]
theorem tab_congr {n : Nat} {f g : Nat → Int} (h : ∀ u, u < n → f u = g u) : tab n f = tab n g := List.map_congr_left (fun u hu => h u (List.mem_range.1 hu))
theorem intVs_rep (n : Nat) : List.replicate n (Value.int .i64 0) = intVs (tab n (fun _ => 0)) := by
  unfold intVs tab
  apply List.ext_getElem
  · simp
  · intro i h1 h2; simp
theorem intVs_set (xs : List Int) (i : Nat) (x : Int) : (intVs xs).set i (.int .i64 x) = intVs (xs.set i x) := by
  unfold intVs
  rw [List.map_set]

/-- A row of integers: its cells, and what a store leaves. -/
theorem Owns.ints {w : World} {B : Nat} {rs : List Row} (h : Owns w B rs) {k : Nat} {v : Value} {e : TypeId} {xs : List Int} {n : Nat} (hk : rs[k]? = Option.some ⟨v, e, 1, n, intVs xs⟩) (hn : xs.length = n) (hw : ∀ x ∈ xs, -9223372036854775808 ≤ x ∧ x ≤ 9223372036854775807) :
    ∃ p cap, v = .slice p n cap ∧ Ints w p xs ∧ n ≤ cap ∧ (p = Option.none → cap = 0) := by
  obtain ⟨_, h2⟩ := h.get hk
  subst hn
  rcases h2 with ⟨rfl, h0⟩ | ⟨g, cap, rfl, _, hg, hle, hm, _, hc⟩
  · have : xs = [] := List.length_eq_zero_iff.1 h0
    subst this
    exact ⟨Option.none, 0, rfl, Ints.nil _ _, Nat.le_refl _, fun _ => rfl⟩
  · refine ⟨Option.some ⟨g, 0, Option.none⟩, cap, rfl, ⟨?_, hw, g, 0, fun _ => ⟨rfl, hg⟩, fun i hi => ?_⟩, hle, fun h => by cases h⟩
    · simp only [Go.maxLen] at hm; omega
    · rw [Nat.zero_add]
      exact hc i _ (intVs_get xs hi)

end Go.Proofs.YtiihgpgpbgafiaaDoor

/- A region that draws its order: one walk in the order of the text serves every order, where each operation yields one value and leads from the class of worlds of what was done before to that of what is done then. -/
namespace Go.Proofs.YtiihgpgpbgafiaaDoor
open Go.RowKit

def upIn (P : Program) (D : World → Prop) (v : Value) : Result Next → Prop
  | .ok (.value u) w' => u = v ∧ D w'
  | .ok .skip w' => v = undef ∧ D w'
  | .ok (.enter f args) w' => Calls P f args w' fun e w'' => e = .returned v ∧ D w''
  | _ => False

/-- What has been done, with one operation more. -/
def mark (d : Nat → Bool) (k : Nat) : Nat → Bool := fun j => if j = k then true else d j
theorem mark_same (d : Nat → Bool) (k : Nat) : mark d k k = true := by simp [mark]
theorem mark_other (d : Nat → Bool) {k j : Nat} (h : j ≠ k) : mark d k j = d j := by simp [mark, h]

def ReadyO (o : Oper) (d : Nat → Bool) : Prop := ∀ e ∈ o.after, Region.binds .any e = true → d e.on = true
/-- Of each operation that is done, what it waits for is done. -/
def Closed (ops : Array Oper) (d : Nat → Bool) : Prop := ∀ j oj, ops[j]? = some oj → d j = true → ReadyO oj d
theorem closed_undone {ops : Array Oper} {d : Nat → Bool} {s k : Nat} {o : Oper} (h : Closed ops d) (ho : ops[s]? = some o) (hk : (o.after.any fun e => Region.binds .any e && e.on == k) = true) (hd : d k = false) : d s = false := by
  cases hs : d s with
  | false => rfl
  | true =>
    obtain ⟨e, he, hb⟩ := Array.any_eq_true'.1 hk
    simp only [Bool.and_eq_true, beq_iff_eq] at hb
    have := h s o ho hs e he hb.1
    rw [hb.2, hd] at this
    cases this

section
variable (P : Program) (ops : Array Oper) (C : (Nat → Bool) → World → Prop)

def YieldsL (k : Nat) (o : Oper) (v : Value) (a : Act) : Prop :=
  (Region.wanted o (yielded ops a.tmps) = true ∧ ∀ d w, d k = false → (ReadyO o d ∧ Closed ops d) → C d w → upIn P (C (mark d k)) v ((execOp a.eval o).run P w)) ∨
  (Region.wanted o (yielded ops a.tmps) = false ∧ v = undef ∧ ∀ d w, d k = false → C d w → C (mark d k) w)

def wpLex (Q : Act → Prop) : Nat → List Oper → Act → Prop
  | _, [], a => Q a
  | k, o :: l, a => ∃ v, YieldsL P ops C k o v a ∧ wpLex Q (k + 1) l (a.put o.dst v)

def Region.pairB : Bool :=
  Region.noSelect ops &&
  (List.range ops.size).all fun j => match ops[j]? with
    | none => true
    | some oj => (oj.after.all fun e => !Region.binds .any e || decide (e.on < j)) &&
      (List.range j).all fun i => match ops[i]? with
        | none => true
        | some oi => (oj.after.any fun e => Region.binds .any e && e.on == i) || oi.apart ops oj

end

section
variable {P : Program} {ops : Array Oper} {C : (Nat → Bool) → World → Prop}

theorem pairB_dep (h : Region.pairB ops = true) {j : Nat} {oj : Oper} (hj : ops[j]? = some oj) : ∀ e ∈ oj.after, Region.binds .any e = true → e.on < j := by
  simp only [Region.pairB, Bool.and_eq_true] at h
  have h1 := List.all_eq_true.1 h.2 j (List.mem_range.2 (Array.getElem?_eq_some_iff.1 hj).1)
  rw [hj] at h1
  simp only [Bool.and_eq_true] at h1
  intro e he hb
  have h2 := Array.all_eq_true_iff_forall_mem.1 h1.1 e he
  simpa [hb] using h2

theorem pairB_pair (h : Region.pairB ops = true) {i j : Nat} {oi oj : Oper} (hi : ops[i]? = some oi) (hj : ops[j]? = some oj) (hij : i < j) :
    (∃ e ∈ oj.after, Region.binds .any e = true ∧ e.on = i) ∨ oi.apart ops oj = true := by
  simp only [Region.pairB, Bool.and_eq_true] at h
  have h1 := List.all_eq_true.1 h.2 j (List.mem_range.2 (Array.getElem?_eq_some_iff.1 hj).1)
  rw [hj] at h1
  simp only [Bool.and_eq_true] at h1
  have h2 := List.all_eq_true.1 h1.2 i (List.mem_range.2 hij)
  rw [hi] at h2
  simp only [Bool.or_eq_true] at h2
  refine h2.imp (fun h3 => ?_) id
  obtain ⟨e, he, hb⟩ := Array.any_eq_true'.1 h3
  simp only [Bool.and_eq_true, beq_iff_eq] at hb
  exact ⟨e, he, hb.1, hb.2⟩

/-- The frame behind those of the first n operations that are done. -/
def acc (ops : Array Oper) (vs : Nat → Value) (d : Nat → Bool) (a : Act) : Nat → Act
  | 0 => a
  | n + 1 => match d n, ops[n]? with
    | true, some o => (acc ops vs d a n).put o.dst (vs n)
    | _, _ => acc ops vs d a n

theorem acc_congr {vs : Nat → Value} {d d' : Nat → Bool} {a : Act} : ∀ (n : Nat), (∀ j, j < n → d j = d' j) → acc ops vs d a n = acc ops vs d' a n
  | 0, _ => rfl
  | n + 1, h => by
    simp only [acc, h n (Nat.lt_succ_self n), acc_congr n (fun j hj => h j (Nat.lt_succ_of_lt hj))]

theorem acc_stop {vs : Nat → Value} {d : Nat → Bool} {a : Act} {k : Nat} : ∀ (n : Nat), k ≤ n → (∀ j, k ≤ j → j < n → d j = false) → acc ops vs d a n = acc ops vs d a k
  | 0, h, _ => by have : k = 0 := by omega
                  rw [this]
  | n + 1, h, hd => by
    by_cases hk : k = n + 1
    · rw [hk]
    · rw [acc, hd n (by omega) (Nat.lt_succ_self n)]
      exact acc_stop n (by omega) (fun j h1 h2 => hd j h1 (Nat.lt_succ_of_lt h2))

theorem put_slot (a : Act) (x : Option Tmp) (v : Value) (t : Tmp) (h : x ≠ some t) : (a.put x v).tmps[t]? = a.tmps[t]? := by
  cases x with
  | none => rfl
  | some d =>
    have hne : d ≠ t := fun e => h (by rw [e])
    simp [Act.put, Array.getElem?_setIfInBounds_ne hne]

theorem acc_slot {vs : Nat → Value} {d d' : Nat → Bool} {a : Act} {t : Tmp} : ∀ (n : Nat), (∀ j o, j < n → ops[j]? = some o → o.dst = some t → d j = d' j) →
    (acc ops vs d a n).tmps[t]? = (acc ops vs d' a n).tmps[t]? ∧ (acc ops vs d a n).tmps.size = (acc ops vs d' a n).tmps.size
  | 0, _ => ⟨rfl, rfl⟩
  | n + 1, h => by
    obtain ⟨ih, ihs⟩ := acc_slot (d := d) (d' := d') n (fun j o hj ho he => h j o (Nat.lt_succ_of_lt hj) ho he)
    have psz : ∀ (b : Act) (x : Option Tmp) (v : Value), (b.put x v).tmps.size = b.tmps.size := fun b x v => by cases x <;> simp [Act.put]
    simp only [acc]
    cases ho : ops[n]? with
    | none => cases d n <;> cases d' n <;> exact ⟨ih, ihs⟩
    | some o =>
      by_cases ht : o.dst = some t
      · have e := h n o (Nat.lt_succ_self n) ho ht
        rw [← e]
        cases d n
        · exact ⟨ih, ihs⟩
        · refine ⟨?_, by simp only [psz]; exact ihs⟩
          simp only [ht, Act.put, Array.getElem?_setIfInBounds, ihs, ih]
      · cases d n <;> cases d' n <;> (refine ⟨?_, ?_⟩) <;> simp only [psz, put_slot _ _ _ _ ht] <;> first | exact ih | exact ihs

theorem acc_mark {vs : Nat → Value} {d : Nat → Bool} {a : Act} {k : Nat} {o : Oper} (ho : ops[k]? = some o) (hd : d k = false) : ∀ (n : Nat), k < n →
    (∀ j o', k < j → j < n → d j = true → ops[j]? = some o' → ∀ t, o.dst = some t → o'.dst ≠ some t) → (acc ops vs d a n).put o.dst (vs k) = acc ops vs (mark d k) a n
  | 0, h, _ => by omega
  | n + 1, h, hne => by
    by_cases hk : k = n
    · subst hk
      simp only [acc, hd, mark_same, ho]
      rw [acc_congr (d := mark d k) (d' := d) k (fun j hj => mark_other d (by omega))]
    · have ih := acc_mark (a := a) (vs := vs) ho hd n (by omega) (fun j o' h1 h2 h3 h4 => hne j o' h1 (Nat.lt_succ_of_lt h2) h3 h4)
      simp only [acc, mark_other d (show n ≠ k by omega)]
      cases hdn : d n with
      | false => exact ih
      | true =>
        cases hn : ops[n]? with
        | none => exact ih
        | some o' =>
          simp only []
          rw [← ih]
          exact (Act.put_comm _ _ _ (fun t ht => hne n o' (by omega) (Nat.lt_succ_self n) hdn hn t ht)).symm

theorem wpLex_vals {Q : Act → Prop} {a0 : Act} : ∀ (l : List Oper) (k : Nat) (vs0 : Nat → Value), (∀ j, l[j]? = ops[k + j]?) →
    wpLex P ops C Q k l (acc ops vs0 (fun _ => true) a0 k) →
    ∃ vs : Nat → Value, (∀ j, j < k → vs j = vs0 j) ∧ (∀ j o, k ≤ j → ops[j]? = some o → YieldsL P ops C j o (vs j) (acc ops vs (fun _ => true) a0 j)) ∧ Q (acc ops vs (fun _ => true) a0 (k + l.length))
  | [], k, vs0, hl, h => ⟨vs0, fun _ _ => rfl, fun j o hj ho => by
      have := hl (j - k)
      rw [show k + (j - k) = j by omega, ho] at this
      simp at this, h⟩
  | o :: l, k, vs0, hl, h => by
    obtain ⟨v, hy, hr⟩ := h
    have hk : ops[k]? = some o := by simpa using (hl 0).symm
    have vcong : ∀ (vs vs' : Nat → Value) (n : Nat), (∀ j, j < n → vs j = vs' j) → acc ops vs (fun _ => true) a0 n = acc ops vs' (fun _ => true) a0 n := by
      intro vs vs' n
      induction n with
      | zero => intro _; rfl
      | succ n ih =>
        intro hh
        simp only [acc, ih (fun j hj => hh j (Nat.lt_succ_of_lt hj)), hh n (Nat.lt_succ_self n)]
    let vs1 : Nat → Value := fun j => if j = k then v else vs0 j
    have e1 : acc ops vs1 (fun _ => true) a0 k = acc ops vs0 (fun _ => true) a0 k := vcong _ _ _ (fun j hj => by simp [vs1]; omega)
    have e2 : acc ops vs1 (fun _ => true) a0 (k + 1) = (acc ops vs0 (fun _ => true) a0 k).put o.dst v := by
      simp only [acc, hk, e1]
      simp [vs1]
    rw [← e2] at hr
    obtain ⟨vs, h1, h2, h3⟩ := wpLex_vals l (k + 1) vs1 (fun j => by have := hl (j + 1); simpa [Nat.add_assoc, Nat.add_comm 1 j] using this) hr
    have hvk : vs k = v := by rw [h1 k (Nat.lt_succ_self k)]; simp [vs1]
    refine ⟨vs, fun j hj => by rw [h1 j (by omega)]; simp [vs1]; omega, fun j oj hj ho => ?_, by rw [List.length_cons, show k + (l.length + 1) = k + 1 + l.length by omega]; exact h3⟩
    by_cases hjk : j = k
    · subst hjk
      have : oj = o := Option.some.inj (ho.symm.trans hk)
      subst this
      rw [hvk, vcong vs vs0 j (fun i hi => by rw [h1 i (by omega)]; simp [vs1]; omega)]
      exact hy
    · exact h2 j oj (by omega) ho

theorem getD_of {x y : Act} {t : Tmp} (h : x.tmps[t]? = y.tmps[t]?) : x.tmps.getD t undef = y.tmps.getD t undef := by
  rw [Array.getD_eq_getD_getElem?, Array.getD_eq_getD_getElem?, h]
theorem yield_of {x y : Act} {t : Tmp} (h : x.tmps[t]? = y.tmps[t]?) : (match (some t).bind fun s => x.tmps[s]? with | some (Value.bool b) => some b | _ => none) = (match (some t).bind fun s => y.tmps[s]? with | some (Value.bool b) => some b | _ => none) := by
  rw [Option.bind_some, Option.bind_some, h]

theorem countP_lt {α : Type} {p q : α → Bool} : ∀ {l : List α}, (∀ x ∈ l, q x = true → p x = true) → (∃ x ∈ l, p x = true ∧ q x = false) → l.countP q < l.countP p
  | [], _, ⟨_, h, _⟩ => by simp at h
  | y :: l, hs, ⟨x, hx, h1, h2⟩ => by
    have hle : ∀ {l : List α}, (∀ x ∈ l, q x = true → p x = true) → l.countP q ≤ l.countP p := fun h => List.countP_mono_left h
    rw [List.countP_cons, List.countP_cons]
    rcases List.mem_cons.1 hx with rfl | hx
    · have := hle (l := l) (fun z hz => hs z (List.mem_cons_of_mem _ hz))
      simp [h1, h2]
      omega
    · have := countP_lt (fun z hz => hs z (List.mem_cons_of_mem _ hz)) ⟨x, hx, h1, h2⟩
      have := hs y (List.mem_cons_self)
      cases hq : q y <;> simp_all <;> (split <;> omega)

theorem lex_main {Q : Exit → Act → World → Prop} {vs : Nat → Value} {a0 : Act} (hB : Region.pairB ops = true)
    (hy : ∀ j o, ops[j]? = some o → YieldsL P ops C j o (vs j) (acc ops vs (fun _ => true) a0 j))
    (hQ : ∀ d w, (∀ j, j < ops.size → d j = true) → C d w → Q .normal (acc ops vs (fun _ => true) a0 ops.size) w) :
    ∀ (fuel : Nat) (listed : Array Bool) (w : World), listed.size = ops.size → (List.range ops.size).countP (fun j => !listed.getD j true) ≤ fuel →
      (∀ j oj, ops[j]? = some oj → listed.getD j false = true → ∀ e ∈ oj.after, Region.binds .any e = true → listed.getD e.on false = true) →
      C (fun j => listed.getD j false) w → wpAny P .any ops Q fuel listed (acc ops vs (fun j => listed.getD j false) a0 ops.size) w := by
  have hsel : Region.noSelect ops = true := by
    simp only [Region.pairB, Bool.and_eq_true] at hB
    exact hB.1
  -- nothing may come up: all is done
  have hdone : ∀ (listed : Array Bool), listed.size = ops.size → Region.ready .any ops listed = [] → ∀ j, j < ops.size → listed.getD j false = true := by
    intro listed hsz hr
    intro j
    induction j using Nat.strongRecOn with
    | _ j ih =>
      intro hj
      cases hl : listed.getD j false with
      | true => rfl
      | false =>
        exfalso
        have : j ∈ Region.ready .any ops listed := by
          rw [mem_ready]
          refine ⟨by simp [hsz, hj] at hl ⊢; exact hl, ops[j], by simp [hj], fun e he hb => ?_⟩
          have hlt := pairB_dep hB (show ops[j]? = some ops[j] by simp [hj]) e he hb
          exact ih e.on hlt (by omega)
        rw [hr] at this
        cases this
  have hfin : ∀ (listed : Array Bool) (w : World), listed.size = ops.size → Region.ready .any ops listed = [] → C (fun j => listed.getD j false) w →
      Q .normal (acc ops vs (fun j => listed.getD j false) a0 ops.size) w := by
    intro listed w hsz hr hC
    have hd := hdone listed hsz hr
    rw [acc_congr (d := fun j => listed.getD j false) (d' := fun _ => true) ops.size hd]
    exact hQ _ w hd hC
  intro fuel
  induction fuel with
  | zero =>
    intro listed w hsz hc hcl hC
    have hr : Region.ready .any ops listed = [] := by
      cases h : Region.ready .any ops listed with
      | nil => rfl
      | cons i r =>
        exfalso
        have hi : i ∈ Region.ready .any ops listed := by rw [h]; exact List.mem_cons_self
        obtain ⟨h1, o, h2, _⟩ := mem_ready.1 hi
        have hlt : i < ops.size := (Array.getElem?_eq_some_iff.1 h2).1
        have : 0 < (List.range ops.size).countP (fun j => !listed.getD j true) := List.countP_pos_iff.2 ⟨i, List.mem_range.2 hlt, by rw [h1]; rfl⟩
        omega
    exact ⟨hr, hfin listed w hsz hr hC⟩
  | succ fuel ih =>
    intro listed w hsz hc hcl hC
    refine ⟨fun hr => hfin listed w hsz hr hC, fun i hi => ?_⟩
    obtain ⟨hun, o, ho, hdeps⟩ := mem_ready.1 hi
    have hlt : i < ops.size := (Array.getElem?_eq_some_iff.1 ho).1
    have hun' : listed.getD i false = false := by simp [hsz, hlt] at hun ⊢; exact hun
    have hmk : (fun j => (listed.setIfInBounds i true).getD j false) = mark (fun j => listed.getD j false) i := by
      funext j
      by_cases hj : j = i
      · subst hj
        rw [mark_same]
        simp [hsz, hlt]
      · rw [mark_other _ hj, getD_set_ne false (Ne.symm hj)]
    -- the operation sees the same slots as in the order of the text
    have agree : ∀ t, t ∈ o.looksAt ops → (acc ops vs (fun j => listed.getD j false) a0 ops.size).tmps[t]? = (acc ops vs (fun _ => true) a0 i).tmps[t]? := by
      intro t ht
      rw [← acc_congr (d := fun j => decide (j < i)) (d' := fun _ => true) i (fun j hj => by simp [hj]),
        ← acc_stop (d := fun j => decide (j < i)) ops.size (by omega) (fun j h1 _ => by simp; omega)]
      refine (acc_slot ops.size (fun j oj hj hoj hdst => ?_)).1
      rcases Nat.lt_trichotomy j i with h | h | h
      · rcases pairB_pair hB hoj ho h with ⟨e, he, hb, hon⟩ | hap
        · have := hdeps e he hb
          rw [hon] at this
          simp [h, this]
        · exact absurd ht ((Oper.apart_spec hap).1 t hdst)
      · subst h
        simp [hun']
      · rcases pairB_pair hB ho hoj h with ⟨e, he, hb, hon⟩ | hap
        · have : listed.getD j false = false := by
            cases hl : listed.getD j false with
            | false => rfl
            | true =>
              have := hcl j oj hoj hl e he hb
              rw [hon, hun'] at this
              cases this
          rw [this]
          simp
          omega
        · exact absurd ht ((Oper.apart_spec hap).2.2 t hdst)
    have hexec : execOp (acc ops vs (fun j => listed.getD j false) a0 ops.size).eval o = execOp (acc ops vs (fun _ => true) a0 i).eval o := by
      refine execOp_congr o (fun cs b => Region.noSelect_spec hsel i o cs b ho) fun x hx => ?_
      cases x with
      | tmp t =>
        have := agree t (List.mem_append_left _ (List.mem_filterMap.2 ⟨.tmp t, by simpa using hx, rfl⟩))
        exact getD_of this
      | _ => rfl
    have hwant : Region.wanted o (yielded ops (acc ops vs (fun j => listed.getD j false) a0 ops.size).tmps) = Region.wanted o (yielded ops (acc ops vs (fun _ => true) a0 i).tmps) := by
      unfold Region.wanted
      cases hg : o.guard with
      | none => rfl
      | some gw =>
        obtain ⟨g, want⟩ := gw
        have : yielded ops (acc ops vs (fun j => listed.getD j false) a0 ops.size).tmps g = yielded ops (acc ops vs (fun _ => true) a0 i).tmps g := by
          unfold yielded
          cases ht : (ops[g]?).bind (·.dst) with
          | none => rfl
          | some t =>
            have := agree t (List.mem_append_right _ (by simp [hg, ht]))
            exact yield_of this
        simp only [this]
    have hnext : (acc ops vs (fun j => listed.getD j false) a0 ops.size).put o.dst (vs i) = acc ops vs (fun j => (listed.setIfInBounds i true).getD j false) a0 ops.size := by
      rw [hmk]
      refine acc_mark ho hun' ops.size hlt (fun j oj h1 _ hl hoj t ht => ?_)
      rcases pairB_pair hB ho hoj h1 with ⟨e, he, hb, hon⟩ | hap
      · have := hcl j oj hoj hl e he hb
        rw [hon, hun'] at this
        cases this
      · exact (Oper.apart_spec hap).2.1 t ht
    have hcl' : ∀ j oj, ops[j]? = some oj → (listed.setIfInBounds i true).getD j false = true → ∀ e ∈ oj.after, Region.binds .any e = true → (listed.setIfInBounds i true).getD e.on false = true := by
      intro j oj hj hl e he hb
      by_cases hji : i = j
      · subst hji
        have : oj = o := Option.some.inj (hj.symm.trans ho)
        subst this
        exact getD_set_true (hdeps e he hb)
      · rw [getD_set_ne false hji] at hl
        exact getD_set_true (hcl j oj hj hl e he hb)
    have hcnt : (List.range ops.size).countP (fun j => !(listed.setIfInBounds i true).getD j true) ≤ fuel := by
      have : (List.range ops.size).countP (fun j => !(listed.setIfInBounds i true).getD j true) < (List.range ops.size).countP (fun j => !listed.getD j true) := by
        refine countP_lt (fun j _ hj => ?_) ⟨i, List.mem_range.2 hlt, by rw [hun]; rfl, by simp [hsz, hlt]⟩
        by_cases hji : i = j
        · subst hji
          simp [hsz, hlt] at hj
        · rw [getD_set_ne true hji] at hj
          exact hj
      omega
    have go : ∀ w', C (mark (fun j => listed.getD j false) i) w' → wpAny P .any ops Q fuel (listed.setIfInBounds i true) ((acc ops vs (fun j => listed.getD j false) a0 ops.size).put o.dst (vs i)) w' := by
      intro w' hC'
      rw [hnext]
      exact ih _ w' (by simp [hsz]) hcnt hcl' (by rw [hmk]; exact hC')
    unfold wpOp
    simp only [ho]
    rcases hy i o ho with ⟨hw, hv⟩ | ⟨hw, hv, hk⟩
    · rw [if_pos (by rw [hwant]; exact hw)]
      refine .inl ?_
      have h3 := hv (fun j => listed.getD j false) w hun' ⟨fun e he hb => hdeps e he hb, fun j oj hj hl e he hb => hcl j oj hj hl e he hb⟩ hC
      unfold Oper.wp
      rw [hexec]
      generalize (execOp (acc ops vs (fun _ => true) a0 i).eval o).run P w = r at *
      cases r with
      | ok n w' =>
        cases n <;> simp only [upIn] at h3 <;> simp only [Oper.upon]
        case value u =>
          obtain ⟨rfl, h4⟩ := h3
          exact go w' h4
        case skip =>
          obtain ⟨h5, h4⟩ := h3
          rw [← h5]
          exact go w' h4
        case enter f args => exact h3.mono fun e w'' ⟨he, hw''⟩ => by subst he; exact go w'' hw''
      | halt x w' => simp only [upIn] at h3
    · rw [if_neg (by rw [hwant, hw]; exact Bool.false_ne_true), ← hv]
      exact go w (hk _ w hun' hC)

/-- **One walk in the order of the text**, the class of worlds told for what has been done. -/
theorem wp_region_lex {id : Nat} {Q : Exit → Act → World → Prop} {a : Act} {w : World} {l : List Oper} (C : (Nat → Bool) → World → Prop) (hm : P.follows .mixedOrders = true) (hB : Region.pairB l.toArray = true)
    (h0 : C (fun _ => false) w.drew)
    (h : wpLex P l.toArray C (fun a' => ∀ d w', (∀ j, j < l.length → d j = true) → C d w' → Q .normal a' w') 0 l a) : (Code.region id l.toArray true).wp P Q a w := by
  obtain ⟨vs, _, h2, h3⟩ := wpLex_vals (ops := l.toArray) (a0 := a) l 0 (fun _ => undef) (fun j => by simp) h
  refine wp_region_any hm ?_
  have e0 : acc l.toArray vs (fun j => (Array.replicate l.toArray.size false).getD j false) a l.toArray.size = a := by
    rw [acc_stop (k := 0) l.toArray.size (by omega) (fun j _ _ => getD_replicate_false _ _)]
    rfl
  have := lex_main (Q := Q) hB (fun j o ho => h2 j o (Nat.zero_le _) ho) (fun d w' hd hC => by
    have := h3 d w' (by simpa using hd) hC
    simpa using this) l.toArray.size (Array.replicate l.toArray.size false) w.drew (by simp) (by
      refine Nat.le_trans (List.countP_le_length) ?_
      simp) (fun j oj _ hl => by rw [getD_replicate_false] at hl; cases hl) (by
      have : (fun j => (Array.replicate l.toArray.size false).getD j false) = (fun _ => false) := funext fun j => getD_replicate_false _ _
      rw [this]
      exact h0)
  rw [e0] at this
  exact this

end

/-! ### The steps of such a walk -/
section
variable {P : Program} {ops : Array Oper} {C : (Nat → Bool) → World → Prop} {Q : Act → Prop} {k : Nat} {o : Oper} {l : List Oper} {a : Act}
theorem lex_nil (h : Q a) : wpLex P ops C Q k [] a := h
theorem lex_skip (hw : Region.wanted o (yielded ops a.tmps) = false) (hk : ∀ d w, d k = false → C d w → C (mark d k) w) (h : wpLex P ops C Q (k + 1) l (a.put o.dst undef)) : wpLex P ops C Q k (o :: l) a :=
  ⟨_, .inr ⟨hw, rfl, hk⟩, h⟩
theorem lex_pure {v : Value} (hw : Region.wanted o (yielded ops a.tmps) = true) (hk : ∀ d w, d k = false → C d w → C (mark d k) w) (hr : ∀ d w, d k = false → (ReadyO o d ∧ Closed ops d) → C d w → (execOp a.eval o).run P w = .ok (.value v) w)
    (h : wpLex P ops C Q (k + 1) l (a.put o.dst v)) : wpLex P ops C Q k (o :: l) a :=
  ⟨v, .inl ⟨hw, fun d w h1 h2 h3 => by rw [hr d w h1 h2 h3]; exact ⟨rfl, hk d w h1 h3⟩⟩, h⟩
theorem lex_call {v : Value} {f : FuncId} {args : Array Value} (hw : Region.wanted o (yielded ops a.tmps) = true) (hk : ∀ d w, d k = false → C d w → C (mark d k) w) (hg : ∀ d w w', C d w → Grew w w' → C d w')
    (hr : ∀ d w, d k = false → (ReadyO o d ∧ Closed ops d) → C d w → (execOp a.eval o).run P w = .ok (.enter f args) w)
    (hc : ∀ d w, d k = false → (ReadyO o d ∧ Closed ops d) → C d w → Calls P f args w fun e w' => e = .returned v ∧ Grew w w')
    (h : wpLex P ops C Q (k + 1) l (a.put o.dst v)) : wpLex P ops C Q k (o :: l) a :=
  ⟨v, .inl ⟨hw, fun d w h1 h2 h3 => by rw [hr d w h1 h2 h3]; exact (hc d w h1 h2 h3).mono fun e w' ⟨he, hgr⟩ => ⟨he, hk d w' h1 (hg d w w' h3 hgr)⟩⟩, h⟩
theorem lex_store (hw : Region.wanted o (yielded ops a.tmps) = true)
    (hr : ∀ d w, d k = false → (ReadyO o d ∧ Closed ops d) → C d w → ∃ w', (execOp a.eval o).run P w = .ok .skip w' ∧ C (mark d k) w')
    (h : wpLex P ops C Q (k + 1) l (a.put o.dst undef)) : wpLex P ops C Q k (o :: l) a :=
  ⟨undef, .inl ⟨hw, fun d w h1 h2 h3 => by obtain ⟨w', h4, h5⟩ := hr d w h1 h2 h3; rw [h4]; exact ⟨rfl, h5⟩⟩, h⟩

/-- The class of the worlds that have grown out of W b, b telling whether operation s has been done. -/
def One (s : Nat) (W : Bool → World) (d : Nat → Bool) (w : World) : Prop := Grew (W (d s)) w
theorem One.keep {s : Nat} {W : Bool → World} {k : Nat} (h : s ≠ k) : ∀ d w, d k = false → One s W d w → One s W (mark d k) w := fun d w _ hC => by
  unfold One
  rw [mark_other _ h]
  exact hC
theorem One.grew {s : Nat} {W : Bool → World} : ∀ d w w', One s W d w → Grew w w' → One s W d w' := fun _ _ _ h k => Grew.trans h k
/-- The class of the worlds that have grown out of W b c, b and c telling whether operations s and t have been done. -/
def Two (s t : Nat) (W : Bool → Bool → World) (d : Nat → Bool) (w : World) : Prop := Grew (W (d s) (d t)) w
theorem Two.keep {s t : Nat} {W : Bool → Bool → World} {k : Nat} (h : s ≠ k) (h2 : t ≠ k) : ∀ d w, d k = false → Two s t W d w → Two s t W (mark d k) w := fun d w _ hC => by
  unfold Two
  rw [mark_other _ h, mark_other _ h2]
  exact hC
theorem ready_done {o : Oper} {d : Nat → Bool} {k : Nat} (h : ReadyO o d) (hk : (o.after.any fun e => Region.binds .any e && e.on == k) = true) : d k = true := by
  obtain ⟨e, he, hb⟩ := Array.any_eq_true'.1 hk
  simp only [Bool.and_eq_true, beq_iff_eq] at hb
  rw [← hb.2]
  exact h e he hb.1
end
end Go.Proofs.YtiihgpgpbgafiaaDoor

/- A region that draws its order and ends in a store: what its loads read is known till the store; so they are taken first. -/
namespace Go.Proofs.YtiihgpgpbgafiaaDoor
open Go.RowKit
section
variable {P : Program} {ops : Array Oper} {Q : Exit → Act → World → Prop} {md : Region.Mode} {S : World → Prop} {s : Nat}

/-- Whatever order is picked from here on, and S holds behind each operation but number s. -/
def wpAnyT (P : Program) (md : Region.Mode) (ops : Array Oper) (Q : Exit → Act → World → Prop) (S : World → Prop) (s : Nat) : Nat → Array Bool → Act → World → Prop
  | 0, listed, a, w => Region.ready md ops listed = [] ∧ Q .normal a w
  | fuel + 1, listed, a, w =>
    (Region.ready md ops listed = [] → Q .normal a w) ∧
    ∀ i ∈ Region.ready md ops listed, wpOp P ops Q i (fun a' w' => (i ≠ s → S w') ∧ wpAnyT P md ops Q S s fuel (listed.setIfInBounds i true) a' w') a w

theorem wpAny_of_T : ∀ (fuel : Nat) (listed : Array Bool) (a : Act) (w : World), wpAnyT P md ops Q S s fuel listed a w → wpAny P md ops Q fuel listed a w
  | 0, _, _, _, h => h
  | fuel + 1, _, _, _, h => ⟨h.1, fun i hi => wpOp_mono (fun a' w' h' => wpAny_of_T fuel _ a' w' h'.2) (h.2 i hi)⟩

theorem wpAnyT_first {i : Nat} {oi : Oper} {v : Value} (hi : ops[i]? = some oi) (hsel : ∀ (j : Nat) (o : Oper) cs b, ops[j]? = some o → o.op ≠ .select cs b)
    (hQ : ∀ c a w, Q (.panic c) (a.put oi.dst v) w → Q (.panic c) a w) (hs : ∀ listed, s ∈ Region.ready md ops listed → listed.getD i true = true) :
    ∀ (fuel : Nat) (listed : Array Bool) (a : Act) (w : World),
      (∀ j oj, ops[j]? = some oj → j ≠ i → listed.getD j true = false → (∀ e ∈ oj.after, Region.binds md e = true → e.on ≠ i) → oi.apart ops oj = true) →
      i ∈ Region.ready md ops listed → YieldsIf P ops S oi v a → S w →
      wpAnyT P md ops Q S s fuel (listed.setIfInBounds i true) (a.put oi.dst v) w → wpAnyT P md ops Q S s (fuel + 1) listed a w := by
  intro fuel
  induction fuel with
  | zero =>
    intro listed a w _ hr hy hS H
    refine ⟨fun h => (by rw [h] at hr; cases hr), fun j hj => ?_⟩
    by_cases hji : j = i
    · subst hji; exact hy.wpOp hi hS ⟨fun _ => hS, H⟩
    · have := ready_mono hj hji
      rw [H.1] at this
      cases this
  | succ fuel ih =>
    intro listed a w hfree hr hy hS H
    refine ⟨fun h => (by rw [h] at hr; cases hr), fun j hj => ?_⟩
    by_cases hji : j = i
    · subst hji; exact hy.wpOp hi hS ⟨fun _ => hS, H⟩
    · have hjs : j ≠ s := fun e => by
        have h1 := hs listed (e ▸ hj)
        have h0 := (mem_ready.1 hr).1
        rw [h0] at h1
        cases h1
      have h1 := H.2 j (ready_mono hj hji)
      obtain ⟨hjun, oj, hoj, hall⟩ := mem_ready.1 hj
      have hnot : ∀ e ∈ oj.after, Region.binds md e = true → e.on ≠ i := fun e he hb heq => by
        have h1 := hall e he hb
        have h0 := (mem_ready.1 hr).1
        rw [heq] at h1
        rcases Nat.lt_or_ge i listed.size with h' | h'
        · simp [h'] at h0 h1; rw [h0] at h1; cases h1
        · simp [Array.getElem?_eq_none h'] at h1
      have h2 := wpOp_putIf hoj (hfree j oj hoj hji hjun hnot) (fun cs b => hsel i oi cs b hi) (fun cs b => hsel j oj cs b hoj) hQ hy h1
      have hfree' : ∀ k ok, ops[k]? = some ok → k ≠ i → (listed.setIfInBounds j true).getD k true = false →
          (∀ e ∈ ok.after, Region.binds md e = true → e.on ≠ i) → oi.apart ops ok = true := fun k ok hk hki hun hno => by
        refine hfree k ok hk hki ?_ hno
        by_cases hjk : j = k
        · subst hjk; exact hjun
        · rw [getD_set_ne true hjk] at hun; exact hun
      refine wpOp_mono (fun a' w' h3 => ⟨h3.2.1, ih (listed.setIfInBounds j true) a' w' hfree' (ready_mono hr (Ne.symm hji)) h3.1 (h3.2.1 hjs) ?_⟩) h2
      rw [Array.setIfInBounds_comm _ _ hji]
      exact h3.2.2

/-- Operation s waits for operation i. -/
def waitsB (md : Region.Mode) (ops : Array Oper) (s i : Nat) : Bool := ((ops[s]?).map (·.after.any fun e => Region.binds md e && e.on == i)).getD false
theorem waitsB_spec {i : Nat} (h : waitsB md ops s i = true) : ∀ listed, s ∈ Region.ready md ops listed → listed.getD i true = true := by
  intro listed hr
  obtain ⟨_, os, hos, hall⟩ := mem_ready.1 hr
  unfold waitsB at h
  rw [hos] at h
  simp only [Option.map_some, Option.getD_some] at h
  obtain ⟨e, he, hb⟩ := Array.any_eq_true'.1 h
  simp only [Bool.and_eq_true, beq_iff_eq] at hb
  have h1 := hall e he hb.1
  rw [hb.2] at h1
  rcases Nat.lt_or_ge i listed.size with h' | h'
  · simp [h'] at h1 ⊢; exact h1
  · simp [Array.getElem?_eq_none h'] at h1

theorem wpAnyT_take {i : Nat} {oi : Oper} {v : Value} {fuel : Nat} {listed : Array Bool} {a : Act} {w : World} (hi : ops[i]? = some oi)
    (hn : Region.noSelect ops = true) (hf : Region.free md ops listed i = true) (hr : (Region.ready md ops listed).contains i = true) (hw : waitsB md ops s i = true)
    (hQ : ∀ c a w, Q (.panic c) (a.put oi.dst v) w → Q (.panic c) a w) (hy : YieldsIf P ops S oi v a) (hS : S w)
    (h : wpAnyT P md ops Q S s fuel (listed.setIfInBounds i true) (a.put oi.dst v) w) : wpAnyT P md ops Q S s (fuel + 1) listed a w :=
  wpAnyT_first hi (Region.noSelect_spec hn) hQ (waitsB_spec hw) fuel listed a w (Region.free_spec hi hf) (by simpa using hr) hy hS h

theorem wpAnyT_done {listed : Array Bool} {a : Act} {w : World} (hr : Region.ready md ops listed = []) (h : Q .normal a w) : ∀ fuel, wpAnyT P md ops Q S s fuel listed a w
  | 0 => ⟨hr, h⟩
  | _ + 1 => ⟨fun _ => h, by rw [hr]; simp⟩

/-- What comes next, one after the other. -/
def AllT (P : Program) (md : Region.Mode) (ops : Array Oper) (Q : Exit → Act → World → Prop) (S : World → Prop) (s fuel : Nat) (listed : Array Bool) (a : Act) (w : World) (rs : List Nat) : Prop :=
  ∀ i ∈ rs, wpOp P ops Q i (fun a' w' => (i ≠ s → S w') ∧ wpAnyT P md ops Q S s fuel (listed.setIfInBounds i true) a' w') a w
theorem wpAnyT_all {rs : List Nat} {fuel : Nat} {listed : Array Bool} {a : Act} {w : World} (hr : Region.ready md ops listed = rs) (hne : rs ≠ [])
    (h : AllT P md ops Q S s fuel listed a w rs) : wpAnyT P md ops Q S s (fuel + 1) listed a w :=
  ⟨fun h0 => absurd (hr ▸ h0) hne, hr ▸ h⟩
theorem AllT.nil {fuel : Nat} {listed : Array Bool} {a : Act} {w : World} : AllT P md ops Q S s fuel listed a w [] := fun _ h => by cases h
theorem AllT.cons {fuel : Nat} {listed : Array Bool} {a : Act} {w : World} {i : Nat} {o : Oper} {rs : List Nat} (ho : ops[i]? = some o)
    (h : ∀ K' : Act → World → Prop, Shut (∀ a w, S w → (S w → wpAnyT P md ops Q S s fuel (listed.setIfInBounds i true) a w) → K' a w) → if Region.wanted o (yielded ops a.tmps) = true then Oper.wp P o a w K' Q else K' (a.put o.dst undef) w)
    (hs : AllT P md ops Q S s fuel listed a w rs) : AllT P md ops Q S s fuel listed a w (i :: rs) := fun j hj => by
  rcases List.mem_cons.1 hj with rfl | hj
  · exact wpOp_step ho (fun K' hK => h K' (fun a w hS hW => hK a w ⟨fun _ => hS, hW hS⟩))
  · exact hs j hj
/-- The store itself. -/
theorem AllT.last {fuel : Nat} {listed : Array Bool} {a : Act} {w : World} {o : Oper} (ho : ops[s]? = some o)
    (h : ∀ K' : Act → World → Prop, Shut (∀ a w, wpAnyT P md ops Q S s fuel (listed.setIfInBounds s true) a w → K' a w) → if Region.wanted o (yielded ops a.tmps) = true then Oper.wp P o a w K' Q else K' (a.put o.dst undef) w) :
    AllT P md ops Q S s fuel listed a w [s] := fun j hj => by
  rcases List.mem_cons.1 hj with rfl | hj
  · exact wpOp_step ho (fun K' hK => h K' (fun a w hW => hK a w ⟨fun e => absurd rfl e, hW⟩))
  · cases hj

theorem AllT.consL {l : List Oper} {fuel : Nat} {listed : Array Bool} {a : Act} {w : World} {i : Nat} {o : Oper} {rs : List Nat} (ho : l[i]? = some o)
    (h : ∀ K' : Act → World → Prop, Shut (∀ a w, S w → (S w → wpAnyT P md l.toArray Q S s fuel (listed.setIfInBounds i true) a w) → K' a w) → if Region.wanted o (yielded l.toArray a.tmps) = true then Oper.wp P o a w K' Q else K' (a.put o.dst undef) w)
    (hs : AllT P md l.toArray Q S s fuel listed a w rs) : AllT P md l.toArray Q S s fuel listed a w (i :: rs) := AllT.cons (by simpa using ho) h hs
theorem AllT.lastL {l : List Oper} {fuel : Nat} {listed : Array Bool} {a : Act} {w : World} {o : Oper} (ho : l[s]? = some o)
    (h : ∀ K' : Act → World → Prop, Shut (∀ a w, wpAnyT P md l.toArray Q S s fuel (listed.setIfInBounds s true) a w → K' a w) → if Region.wanted o (yielded l.toArray a.tmps) = true then Oper.wp P o a w K' Q else K' (a.put o.dst undef) w) :
    AllT P md l.toArray Q S s fuel listed a w [s] := AllT.last (by simpa using ho) h
theorem wpAnyT_takeL {l : List Oper} {i : Nat} {oi : Oper} {v : Value} {fuel : Nat} {listed : Array Bool} {a : Act} {w : World} (hi : l[i]? = some oi)
    (hn : Region.noSelect l.toArray = true) (hf : Region.free md l.toArray listed i = true) (hr : (Region.ready md l.toArray listed).contains i = true) (hw : waitsB md l.toArray s i = true)
    (hQ : ∀ c a w, Q (.panic c) (a.put oi.dst v) w → Q (.panic c) a w) (hy : YieldsIf P l.toArray S oi v a) (hS : S w)
    (h : wpAnyT P md l.toArray Q S s fuel (listed.setIfInBounds i true) (a.put oi.dst v) w) : wpAnyT P md l.toArray Q S s (fuel + 1) listed a w :=
  wpAnyT_take (by simpa using hi) hn hf hr hw hQ hy hS h

theorem wp_region_T {id : Nat} {a : Act} {w : World} (s : Nat) (S : World → Prop) (hm : P.follows .mixedOrders = true) (hS : S w.drew)
    (h : S w.drew → wpAnyT P .any ops Q S s ops.size (Array.replicate ops.size false) a w.drew) : (Code.region id ops true).wp P Q a w :=
  wp_region_any hm (wpAny_of_T _ _ _ _ (h hS))
end
end Go.Proofs.YtiihgpgpbgafiaaDoor

/- Rotation systems in memory, and what is valid. -/
namespace Go.Proofs.YtiihgpgpbgafiaaDoor
open Go.RowKit
attribute [local go_sem ↓] Go.wp_at_zero Go.wp_at_succ

theorem Ints.cells {w : World} {p : Option Addr} {xs : List Int} (h : Ints w p xs) (h0 : 0 < xs.length) : ∃ b o, p = some ⟨b, o, none⟩ ∧ b < w.heap.size ∧ ∀ w' : World, Grew w w' → ∀ i, i < xs.length → w'.cell? ⟨b, o + i, none⟩ = some (.int .i64 (ge xs i)) := by
  obtain ⟨_, _, b, o, h3, h4⟩ := h
  obtain ⟨e, hb⟩ := h3 h0
  exact ⟨b, o, e, hb, fun w' hg i hi => hg.cellEq (h4 i hi)⟩
theorem Mat.rows {w : World} {p : Option Addr} {m : List (List Int)} (h : Mat w p m) (h0 : 0 < m.length) : ∃ b o, ∃ rp : Nat → Option Addr, ∃ rc : Nat → Nat, p = some ⟨b, o, none⟩ ∧ b < w.heap.size ∧
    ∀ w' : World, Grew w w' → ∀ u, u < m.length → w'.cell? ⟨b, o + u, none⟩ = some (.slice (rp u) (rowOf m u).length (rc u)) ∧ Ints w' (rp u) (rowOf m u) := by
  obtain ⟨_, b, o, rp, rc, h3, h4⟩ := h
  obtain ⟨e, hb⟩ := h3 h0
  exact ⟨b, o, rp, rc, e, hb, fun w' hg u hu => ⟨hg.cellEq (h4 u hu).1, (h4 u hu).2.grew hg⟩⟩

/-! ### Pairs -/
def pr (E : List (Int × Int)) (i : Nat) : Int × Int := E.getD i (0, 0)
theorem pr_eq (E : List (Int × Int)) {i : Nat} (h : i < E.length) : pr E i = E[i] := by simp [pr, h]
def Prs (w : World) (p : Option Addr) (E : List (Int × Int)) : Prop :=
  E.length ≤ 9223372036854775807 ∧ ∃ b o, (0 < E.length → p = some ⟨b, o, none⟩ ∧ b < w.heap.size) ∧ ∀ i, i < E.length → w.cell? ⟨b, o + i * 2, none⟩ = some (.int .i64 (pr E i).1) ∧ w.cell? ⟨b, o + i * 2 + 1, none⟩ = some (.int .i64 (pr E i).2)
theorem Prs.grew {w w' : World} {p : Option Addr} {E : List (Int × Int)} (h : Prs w p E) (hg : Grew w w') : Prs w' p E := by
  obtain ⟨h1, b, o, h3, h4⟩ := h
  exact ⟨h1, b, o, fun hp => ⟨(h3 hp).1, Nat.lt_of_lt_of_le (h3 hp).2 hg.below.size⟩, fun i hi => ⟨hg.cellEq (h4 i hi).1, hg.cellEq (h4 i hi).2⟩⟩
theorem Prs.cells {w : World} {p : Option Addr} {E : List (Int × Int)} (h : Prs w p E) (h0 : 0 < E.length) : ∃ b o, p = some ⟨b, o, none⟩ ∧ b < w.heap.size ∧
    ∀ w' : World, Grew w w' → ∀ i, i < E.length → w'.cell? ⟨b, o + i * 2, none⟩ = some (.int .i64 (pr E i).1) ∧ w'.cell? ⟨b, o + i * 2 + 1, none⟩ = some (.int .i64 (pr E i).2) := by
  obtain ⟨_, b, o, h3, h4⟩ := h
  obtain ⟨e, hb⟩ := h3 h0
  exact ⟨b, o, e, hb, fun w' hg i hi => ⟨hg.cellEq (h4 i hi).1, hg.cellEq (h4 i hi).2⟩⟩

/-- The program's limits. -/
def Lim (w : World) : Prop := w.cell? ⟨0, 0, none⟩ = some (.int .i64 16384) ∧ w.cell? ⟨0, 1, none⟩ = some (.int .i64 32768)
theorem Lim.grew {w w' : World} (h : Lim w) (hg : Grew w w') : Lim w' := ⟨hg.cellEq h.1, hg.cellEq h.2⟩
theorem Lim.pos {w : World} (h : Lim w) : 0 < w.heap.size := World.block_lt_of_cell? w _ h.1

/-- A rotation system in memory, with at most 100 of everything. -/
structure RotAt (w : World) (pE pA : Option Addr) (E : List (Int × Int)) (A : List (List Int)) : Prop where
  hE : Prs w pE E
  hA : Mat w pA A
  e1 : E.length ≤ 100
  a1 : A.length ≤ 100
  r1 : ∀ v, v < A.length → (rowOf A v).length ≤ 100
theorem RotAt.grew {w w' : World} {pE pA : Option Addr} {E : List (Int × Int)} {A : List (List Int)} (h : RotAt w pE pA E A) (hg : Grew w w') : RotAt w' pE pA E A := ⟨h.hE.grew hg, h.hA.grew hg, h.e1, h.a1, h.r1⟩

/-! ### Validity -/
/-- The tail of a dart. -/
def tailE (E : List (Int × Int)) (d : Int) : Int := if d % 2 = 0 then (pr E (d / 2).toNat).1 else (pr E (d / 2).toNat).2
/-- The darts of the first v vertices, with their vertices. -/
def pre (A : List (List Int)) (v : Nat) : List (Nat × Int) := (List.range v).flatMap fun u => (rowOf A u).map fun d => (u, d)
def okDart (E : List (Int × Int)) (q : Nat × Int) : Prop := 0 ≤ q.2 ∧ q.2 < 2 * E.length ∧ tailE E q.2 = q.1
def okEdge (N : Int) (a : Int × Int) : Prop := 0 ≤ a.1 ∧ a.1 < N ∧ 0 ≤ a.2 ∧ a.2 < N ∧ a.1 ≠ a.2
structure vRot (N : Int) (E : List (Int × Int)) (A : List (List Int)) : Prop where
  n0 : 0 ≤ N
  n1 : N ≤ 16384
  e1 : E.length ≤ 32768
  al : (A.length : Int) = N
  ed : ∀ i, i < E.length → okEdge N (pr E i)
  dr : ∀ q ∈ pre A A.length, okDart E q
  nd : ((pre A A.length).map (·.2)).Nodup
  ln : (pre A A.length).length = 2 * E.length
open Classical in
noncomputable def vRotB (N : Int) (E : List (Int × Int)) (A : List (List Int)) : Bool := decide (vRot N E A)
theorem vRotB_iff {N : Int} {E : List (Int × Int)} {A : List (List Int)} : vRotB N E A = true ↔ vRot N E A := by unfold vRotB; simp
theorem vRotB_no {N : Int} {E : List (Int × Int)} {A : List (List Int)} (h : ¬ vRot N E A) : vRotB N E A = false := by unfold vRotB; simp [h]

/-- The darts before number k of vertex v. -/
def preK (A : List (List Int)) (v k : Nat) : List (Nat × Int) := pre A v ++ ((rowOf A v).take k).map fun d => (v, d)
theorem preK_zero (A : List (List Int)) (v : Nat) : preK A v 0 = pre A v := by simp [preK]
theorem preK_succ (A : List (List Int)) (v : Nat) {k : Nat} (hk : k < (rowOf A v).length) : preK A v (k + 1) = preK A v k ++ [(v, ge (rowOf A v) k)] := by
  unfold preK
  rw [List.take_succ_eq_append_getElem hk, ge_eq _ hk]
  simp only [List.map_append, List.map_cons, List.map_nil, List.append_assoc]
theorem pre_succ (A : List (List Int)) (v : Nat) : pre A (v + 1) = pre A v ++ (rowOf A v).map fun d => (v, d) := by
  unfold pre
  rw [List.range_succ, List.flatMap_append]
  simp
theorem preK_all (A : List (List Int)) (v : Nat) : preK A v (rowOf A v).length = pre A (v + 1) := by rw [pre_succ]; simp [preK]
theorem pre_le (A : List (List Int)) {v n : Nat} (h : v ≤ n) : ∃ r, pre A n = pre A v ++ r := by
  induction n with
  | zero => have : v = 0 := by omega
            subst this; exact ⟨[], by simp⟩
  | succ n ih =>
    by_cases e : v = n + 1
    · subst e; exact ⟨[], by simp⟩
    · obtain ⟨r, hr⟩ := ih (by omega)
      exact ⟨r ++ (rowOf A n).map fun d => (n, d), by rw [pre_succ, hr, List.append_assoc]⟩
theorem preK_split (A : List (List Int)) {v k : Nat} (hv : v < A.length) (hk : k < (rowOf A v).length) : ∃ r, pre A A.length = preK A v k ++ (v, ge (rowOf A v) k) :: r := by
  obtain ⟨r, hr⟩ := pre_le A (show v + 1 ≤ A.length by omega)
  refine ⟨((rowOf A v).drop (k + 1)).map (fun d => (v, d)) ++ r, ?_⟩
  rw [hr, pre_succ]
  unfold preK
  have : rowOf A v = (rowOf A v).take k ++ ge (rowOf A v) k :: (rowOf A v).drop (k + 1) := by
    rw [ge_eq _ hk, ← List.drop_eq_getElem_cons hk, List.take_append_drop]
  conv => lhs; rw [this]
  simp

/-- What holds of the darts so far. -/
def Good (E : List (Int × Int)) (P : List (Nat × Int)) : Prop := (∀ q ∈ P, okDart E q) ∧ (P.map (·.2)).Nodup
theorem Good.nil (E : List (Int × Int)) : Good E [] := ⟨fun _ h => (by cases h), List.nodup_nil⟩
theorem Good.snoc {E : List (Int × Int)} {P : List (Nat × Int)} {v : Nat} {d : Int} (h : Good E P) (h1 : 0 ≤ d) (h2 : d < 2 * E.length) (h3 : tailE E d = v) (h4 : d ∉ P.map (·.2)) : Good E (P ++ [(v, d)]) := by
  refine ⟨fun q hq => ?_, ?_⟩
  · rcases List.mem_append.1 hq with hq | hq
    · exact h.1 q hq
    · rw [List.mem_singleton.1 hq]; exact ⟨h1, h2, h3⟩
  · rw [List.map_append, List.nodup_append]
    refine ⟨h.2, by simp, fun a ha b hb => ?_⟩
    simp at hb
    subst hb
    exact fun e => h4 (e ▸ ha)
theorem bad_dart {N : Int} {E : List (Int × Int)} {A : List (List Int)} {v k : Nat} (hv : v < A.length) (hk : k < (rowOf A v).length) (h : ¬ okDart E (v, ge (rowOf A v) k)) : vRotB N E A = false := by
  obtain ⟨r, hr⟩ := preK_split A hv hk
  exact vRotB_no fun hV => h (hV.dr _ (by rw [hr]; simp))
theorem bad_twice {N : Int} {E : List (Int × Int)} {A : List (List Int)} {v k : Nat} (hv : v < A.length) (hk : k < (rowOf A v).length) (h : ge (rowOf A v) k ∈ (preK A v k).map (·.2)) : vRotB N E A = false := by
  obtain ⟨r, hr⟩ := preK_split A hv hk
  refine vRotB_no fun hV => ?_
  have := hV.nd
  rw [hr, List.map_append, List.nodup_append] at this
  exact this.2.2 _ h _ (by simp) rfl
/-- A rotation system in memory, its rows of any length. -/
structure RotAw (w : World) (pE pA : Option Addr) (E : List (Int × Int)) (A : List (List Int)) : Prop where
  hE : Prs w pE E
  hA : Mat w pA A
  e1 : E.length ≤ 100
  a1 : A.length ≤ 100
theorem RotAw.grew {w w' : World} {pE pA : Option Addr} {E : List (Int × Int)} {A : List (List Int)} (h : RotAw w pE pA E A) (hg : Grew w w') : RotAw w' pE pA E A := ⟨h.hE.grew hg, h.hA.grew hg, h.e1, h.a1⟩
theorem RotAt.aw {w : World} {pE pA : Option Addr} {E : List (Int × Int)} {A : List (List Int)} (h : RotAt w pE pA E A) : RotAw w pE pA E A := ⟨h.hE, h.hA, h.e1, h.a1⟩
theorem int_nodup_len {M : Nat} {S : List Int} (h1 : S.Nodup) (h2 : ∀ x ∈ S, 0 ≤ x ∧ x < M) : S.length ≤ M := by
  have h2 : ∀ x ∈ S, x ∈ (List.range M).map Int.ofNat := fun x hx => by
    have := h2 x hx
    exact List.mem_map.2 ⟨x.toNat, List.mem_range.2 (by omega), by simp; omega⟩
  have := List.Nodup.length_le_of_subset h1 h2
  simpa using this
theorem Good.len {E : List (Int × Int)} {P : List (Nat × Int)} (h : Good E P) : P.length ≤ 2 * E.length := by
  have := int_nodup_len (M := 2 * E.length) h.2 (fun x hx => by
    obtain ⟨q, hq, rfl⟩ := List.mem_map.1 hx
    have := h.1 q hq
    exact ⟨this.1, by have := this.2.1; omega⟩)
  rwa [List.length_map] at this
/-- At most 50 edges, or rows of at most 100 darts. -/
def RB (E : List (Int × Int)) (A : List (List Int)) : Prop := E.length ≤ 50 ∨ ∀ v, v < A.length → (rowOf A v).length ≤ 100
theorem RotAw.at {N : Int} {w : World} {pE pA : Option Addr} {E : List (Int × Int)} {A : List (List Int)} (h : RotAw w pE pA E A) (he : RB E A) (hv : vRotB N E A = true) : RotAt w pE pA E A := by
  refine ⟨h.hE, h.hA, h.e1, h.a1, fun v hv' => ?_⟩
  have hV := vRotB_iff.1 hv
  rcases he with he | he
  case inr => exact he v hv'
  obtain ⟨r, hr⟩ := pre_le A (v := v + 1) (n := A.length) (by omega)
  have h1 : (pre A (v + 1)).length ≤ (pre A A.length).length := by rw [hr, List.length_append]; omega
  rw [pre_succ, List.length_append, List.length_map, hV.ln] at h1
  omega

/-- A list of bools in memory: which of the first M numbers are in S. -/
def bls (M : Nat) (S : List Int) : List Value := (List.range M).map fun d : Nat => Value.bool (decide ((d : Int) ∈ S))
theorem bls_get {M d : Nat} (S : List Int) (h : d < M) : (bls M S)[d]? = some (.bool (decide ((d : Int) ∈ S))) := by simp [bls, h]
theorem bls_nil (M : Nat) : bls M [] = List.replicate M (.bool false) := by
  refine List.ext_getElem (by simp [bls]) fun i h1 h2 => ?_
  simp [bls]
theorem bls_set {M d : Nat} (S : List Int) (h : d < M) : (bls M S).set d (.bool true) = bls M (S ++ [(d : Int)]) := by
  refine List.ext_getElem (by simp [bls]) fun i h1 h2 => ?_
  rw [List.getElem_set]
  by_cases e : d = i
  · subst e; simp [bls]
  · rw [if_neg e]
    have : ((i : Int) ∈ S ++ [(d : Int)]) ↔ (i : Int) ∈ S := by
      rw [List.mem_append, List.mem_singleton]
      exact ⟨fun h => h.resolve_right (by omega), Or.inl⟩
    simp only [bls, List.getElem_map, List.getElem_range, this]

theorem Tryd.infoBool : (Tryd.prog.info? 4).map (fun i => (i.zero, i.size, i.bytes)) = some (some (.bool false), 1, 1) := by kernel_rfl

theorem tail_p (a b d : Int) (w : World) (h0 : 0 ≤ d) : Calls Tryd.prog 52 #[.agg #[.int .i64 a, .int .i64 b], .int .i64 (d % 2)] w fun e w' => e = .returned (.int .i64 (if d % 2 = 0 then a else b)) ∧ Grew w w' := by
  by_cases h : d % 2 = 0
  · have h' : (d % 2 == 0) = true := beq_iff_eq.2 h
    rw [if_pos h]
    clear h
    go_enter Tryd.func52, Tryd.ntmps52
    go_wp2
    go_ret
    exact ⟨rfl, by (repeat (first | exact gR _ | refine gO ?_ _ | refine gA ?_ _ | refine gD ?_ | refine gN ?_ _))⟩
  · have h' : (d % 2 == 0) = false := beq_eq_false_iff_ne.2 h
    rw [if_neg h]
    clear h
    go_enter Tryd.func52, Tryd.ntmps52
    go_wp2
    go_ret
    exact ⟨rfl, by (repeat (first | exact gR _ | refine gO ?_ _ | refine gA ?_ _ | refine gD ?_ | refine gN ?_ _))⟩

theorem tail_e (E : List (Int × Int)) (m : Nat) (w : World) : Calls Tryd.prog 52 #[.agg #[.int .i64 (pr E (m / 2)).1, .int .i64 (pr E (m / 2)).2], .int .i64 ((m : Int) % 2)] w fun e w' => e = .returned (.int .i64 (tailE E m)) ∧ Grew w w' := by
  have e : tailE E m = if (m : Int) % 2 = 0 then (pr E (m / 2)).1 else (pr E (m / 2)).2 := by
    unfold tailE
    have : ((m : Int) / 2).toNat = m / 2 := by omega
    rw [this]
  rw [e]
  exact tail_p _ _ _ w (by omega)

end Go.Proofs.YtiihgpgpbgafiaaDoor

/- Valid of the program. -/
namespace Go.Proofs.YtiihgpgpbgafiaaDoor
open Go.RowKit
attribute [local go_sem ↓] Go.wp_at_zero Go.wp_at_succ

set_option maxRecDepth 8000 in
set_option maxHeartbeats 16000000 in
theorem valid_pw (N : Int) (pE pA : Option Addr) (nE nA cE cA : Nat) (E : List (Int × Int)) (A : List (List Int)) (w : World) (hR : RotAw w pE pA E A) (hL : Lim w) (hnE : E.length = nE) (hnA : A.length = nA) :
    Calls Tryd.prog 28 #[.agg #[.int .i64 N, .slice pE nE cE, .slice pA nA cA]] w fun e w' => e = .returned (.bool (vRotB N E A)) ∧ Grew w w' := by
  subst hnE hnA
  have he1 := hR.e1
  have ha1 := hR.a1
  obtain ⟨l0, l1⟩ := hL
  have hp0 : 0 < w.heap.size := World.block_lt_of_cell? w _ l0
  by_cases hN : 0 ≤ N ∧ N ≤ 16384 ∧ (A.length : Int) = N
  case neg =>
    have Hf : Hid (vRotB N E A = false) := Lib.hid (vRotB_no fun h => hN ⟨h.n0, h.n1, h.al⟩)
    by_cases h1 : N < 0
    · clear hN hR
      go_enter Tryd.func28, Tryd.ntmps28
      go_wp2
      go_ret
      exact ⟨by rw [Hf.out]; rfl, by (repeat (first | exact gR _ | refine gO ?_ _ | refine gA ?_ _ | refine gD ?_ | refine gN ?_ _))⟩
    · have h1' : 0 ≤ N := by omega
      by_cases h2 : 16384 < N
      · clear hN hR h1
        go_enter Tryd.func28, Tryd.ntmps28
        go_wp2
        go_ret
        exact ⟨by rw [Hf.out]; rfl, by (repeat (first | exact gR _ | refine gO ?_ _ | refine gA ?_ _ | refine gD ?_ | refine gN ?_ _))⟩
      · have h2' : N ≤ 16384 := by omega
        have h3 : ((A.length : Int) != N) = true := by rw [bne_iff_ne]; omega
        have h4 : (E.length : Int) ≤ 32768 := by omega
        clear hN hR h1 h2
        go_enter Tryd.func28, Tryd.ntmps28
        go_wp2
        go_ret
        exact ⟨by rw [Hf.out]; rfl, by (repeat (first | exact gR _ | refine gO ?_ _ | refine gA ?_ _ | refine gD ?_ | refine gN ?_ _))⟩
  case pos =>
  obtain ⟨hN1, hN2, rfl⟩ := hN
  have h4 : (E.length : Int) ≤ 32768 := by omega
  have hne : ((A.length : Int) != (A.length : Int)) = false := by simp
  have HR := Lib.hid hR
  clear hR
  go_enter Tryd.func28, Tryd.ntmps28
  go_wp2
  go_loopw [40] (fun i wr => ∃ j : Nat, j ≤ E.length ∧ i = .int .i64 j ∧ (∀ t, t < j → okEdge A.length (pr E t)) ∧ Grew (w.alloc (.cells #[.int .i64 A.length, .slice pE E.length cE, .slice pA A.length cA] 25)) wr) (fun i _ => E.length - (intOf i).toNat)
  case atStart => exact ⟨0, Nat.zero_le _, rfl, fun t ht => absurd ht (Nat.not_lt_zero _), Grew.refl _⟩
  case round =>
    obtain ⟨j, hj, rfl, hok, hg⟩ := hrel
    have Hok := Lib.hid hok
    have Hg := Lib.hid hg
    have hszr := hg.below.size
    simp at hszr
    have Hgw : Hid (Grew w wr) := Lib.hid (((Grew.refl w).alloc _).trans hg)
    have b0 : wr.cell? ⟨w.heap.size, 0, none⟩ = some (.int .i64 A.length) := hg.cellEq (by first | (go_simp; done) | (simp [go_sem, ↓IntWalk.iteOmega, *]; done))
    have b1 : wr.cell? ⟨w.heap.size, 1, none⟩ = some (.slice pE E.length cE) := hg.cellEq (by first | (go_simp; done) | (simp [go_sem, ↓IntWalk.iteOmega, *]; done))
    have b2 : wr.cell? ⟨w.heap.size, 2, none⟩ = some (.slice pA A.length cA) := hg.cellEq (by first | (go_simp; done) | (simp [go_sem, ↓IntWalk.iteOmega, *]; done))
    clear hok hg
    by_cases hlt : j < E.length
    · obtain ⟨bE, oE, rfl, lE, cE'⟩ := HR.out.hE.cells (by omega)
      obtain ⟨c1, c2⟩ := cE' wr Hgw.out j hlt
      clear cE'
      by_cases h1 : (pr E j).1 < 0
      · have Hf : Hid (vRotB A.length E A = false) := Lib.hid (vRotB_no fun h => by have := h.ed j hlt; unfold okEdge at this; omega)
        go_wp2
        go_ret
        exact ⟨by rw [Hf.out]; rfl, Hgw.out.trans (by (repeat (first | exact gR _ | refine gO ?_ _ | refine gA ?_ _ | refine gD ?_ | refine gN ?_ _)))⟩
      have h1' : 0 ≤ (pr E j).1 := by omega
      clear h1
      by_cases h2 : (A.length : Int) ≤ (pr E j).1
      · have Hf : Hid (vRotB A.length E A = false) := Lib.hid (vRotB_no fun h => by have := h.ed j hlt; unfold okEdge at this; omega)
        go_wp2
        go_ret
        exact ⟨by rw [Hf.out]; rfl, Hgw.out.trans (by (repeat (first | exact gR _ | refine gO ?_ _ | refine gA ?_ _ | refine gD ?_ | refine gN ?_ _)))⟩
      have h2' : (pr E j).1 < (A.length : Int) := by omega
      clear h2
      by_cases h3 : (pr E j).2 < 0
      · have Hf : Hid (vRotB A.length E A = false) := Lib.hid (vRotB_no fun h => by have := h.ed j hlt; unfold okEdge at this; omega)
        go_wp2
        go_ret
        exact ⟨by rw [Hf.out]; rfl, Hgw.out.trans (by (repeat (first | exact gR _ | refine gO ?_ _ | refine gA ?_ _ | refine gD ?_ | refine gN ?_ _)))⟩
      have h3' : 0 ≤ (pr E j).2 := by omega
      clear h3
      by_cases h4 : (A.length : Int) ≤ (pr E j).2
      · have Hf : Hid (vRotB A.length E A = false) := Lib.hid (vRotB_no fun h => by have := h.ed j hlt; unfold okEdge at this; omega)
        go_wp2
        go_ret
        exact ⟨by rw [Hf.out]; rfl, Hgw.out.trans (by (repeat (first | exact gR _ | refine gO ?_ _ | refine gA ?_ _ | refine gD ?_ | refine gN ?_ _)))⟩
      have h4' : (pr E j).2 < (A.length : Int) := by omega
      clear h4
      by_cases h5 : (pr E j).1 = (pr E j).2
      · have Hf : Hid (vRotB A.length E A = false) := Lib.hid (vRotB_no fun h => by have := h.ed j hlt; unfold okEdge at this; omega)
        have h5' : ((pr E j).1 == (pr E j).2) = true := beq_iff_eq.2 h5
        clear h5
        go_wp2
        go_ret
        exact ⟨by rw [Hf.out]; rfl, Hgw.out.trans (by (repeat (first | exact gR _ | refine gO ?_ _ | refine gA ?_ _ | refine gD ?_ | refine gN ?_ _)))⟩
      have Hnx : Hid (∀ t, t < j + 1 → okEdge A.length (pr E t)) := Lib.hid (fun t ht => by
        by_cases e : t = j
        · subst e; exact ⟨h1', h2', h3', h4', h5⟩
        · exact Hok.out t (by omega))
      have h5' : ((pr E j).1 == (pr E j).2) = false := beq_eq_false_iff_ne.2 h5
      clear h5
      go_wp2
      go_roundw
      case rel => exact ⟨j + 1, by omega, by go_num, Hnx.out, Hg.out.trans (by (repeat (first | exact gR _ | refine gO ?_ _ | refine gA ?_ _ | refine gD ?_ | refine gN ?_ _)))⟩
      case measure => simp [intOf]; omega
    · have HokA : Hid (∀ t, t < E.length → okEdge A.length (pr E t)) := Lib.hid (fun t ht => Hok.out t (by omega))
      have Hc0 := Lib.hid b0
      have Hc1 := Lib.hid b1
      have Hc2 := Lib.hid b2
      go_wp2_with (refine wp_make_owns rfl _ _ 74 rfl 4 1 (.bool false) Tryd.underlying74 Tryd.infoBool rfl .i64 .i64 _ _ (2 * E.length) rfl rfl (by push_cast; rfl) (by push_cast; rfl) (by omega) (by simp only [maxLen]; omega) wr.heap.size [] (Owns.nil _ _) (Nat.le_refl _) ?_; intro w4 hO hg4 hs4; have HO4 := Lib.hid hO; have Hg4 := Lib.hid hg4; have b0 := hg4.cellEq b0; have b1 := hg4.cellEq b1; have b2 := hg4.cellEq b2; clear hO hg4)
      obtain ⟨B, hB⟩ : ∃ B, wr.heap.size = B := ⟨_, rfl⟩
      have HB := Lib.hid hB
      rw [hB] at HO4 hs4 ⊢
      have hBw : w.heap.size < B := by omega
      have hsz4 := Hg4.out.below.size
      obtain ⟨wB, hwB⟩ : ∃ wB, wr = wB := ⟨_, rfl⟩
      rw [hwB] at Hg4 Hgw HB Hc0 Hc1 Hc2
      clear hwB b0 b1 b2
      go_loopw [6, 82] (fun n i wq => ∃ v : Nat, v ≤ A.length ∧ i = .int .i64 v ∧ n = .int .i64 ((pre A v).length : Nat) ∧ Good E (pre A v) ∧ Grew wB wq ∧ w4.heap.size ≤ wq.heap.size ∧ Owns wq B [⟨.slice (some ⟨B, 0, none⟩) (2 * E.length) (2 * E.length), 4, 1, 2 * E.length, bls (2 * E.length) ((pre A v).map (·.2))⟩]) (fun _ i _ => A.length - (intOf i).toNat)
      case atStart => exact ⟨0, Nat.zero_le _, rfl, rfl, Good.nil E, Hg4.out, Nat.le_refl _, by have := HO4.out; rw [← bls_nil] at this; exact this⟩
      case round =>
        obtain ⟨v, hv, rfl, rfl, hgood, hgq, hsq, hOq⟩ := hrel
        have Hgood := Lib.hid hgood
        have Hgq := Lib.hid hgq
        have q0 := hgq.cellEq Hc0.out
        have q1 := hgq.cellEq Hc1.out
        have q2 := hgq.cellEq Hc2.out
        have HOq := Lib.hid hOq
        have Hwq : Hid (Grew w wr) := Lib.hid (Hgw.out.trans hgq)
        have hpl := hgood.len
        clear hgood hgq hOq
        by_cases hlv : v < A.length
        · obtain ⟨bA, oA, rp, rc, rfl, lA, cA'⟩ := HR.out.hA.rows (by omega)
          obtain ⟨a1, _⟩ := cA' wr Hwq.out v hlv
          obtain ⟨_, a2⟩ := cA' w (Grew.refl _) v hlv
          obtain ⟨rv, hrv⟩ : ∃ rv, rp v = rv := ⟨_, rfl⟩
          rw [hrv] at a1 a2
          clear hrv
          have Ha2 := Lib.hid a2
          have hrl := a2.1
          clear cA' a2
          go_wp2
          clear q0 q1 q2
          go_loopw [6, 89] (fun n i wk => ∃ k : Nat, k ≤ (rowOf A v).length ∧ i = .int .i64 k ∧ n = .int .i64 ((preK A v k).length : Nat) ∧ Good E (preK A v k) ∧ Grew wB wk ∧ wr.heap.size ≤ wk.heap.size ∧ Owns wk B [⟨.slice (some ⟨B, 0, none⟩) (2 * E.length) (2 * E.length), 4, 1, 2 * E.length, bls (2 * E.length) ((preK A v k).map (·.2))⟩]) (fun _ i _ => (rowOf A v).length - (intOf i).toNat)
          case atStart => exact ⟨0, Nat.zero_le _, rfl, by rw [preK_zero], by rw [preK_zero]; exact Hgood.out, Hgq.out, Nat.le_refl _, by rw [preK_zero]; exact HOq.out⟩
          case round =>
            obtain ⟨k, hk, rfl, rfl, hgood, hgk, hgr, hOk⟩ := hrel
            have Hgood2 := Lib.hid hgood
            have Hgk := Lib.hid hgk
            have HOk := Lib.hid hOk
            have q0 := hgk.cellEq Hc0.out
            have q1 := hgk.cellEq Hc1.out
            have q2 := hgk.cellEq Hc2.out
            have Hwk : Hid (Grew w wr) := Lib.hid (Hgw.out.trans hgk)
            have hBk : B < wr.heap.size := by omega
            clear hgood hgk hOk
            by_cases hlk : k < (rowOf A v).length
            · obtain ⟨bR, oR, rfl, lR, cR⟩ := Ha2.out.cells (by omega)
              have e1 := cR wr Hwk.out k hlk
              obtain ⟨d, hd⟩ : ∃ d, ge (rowOf A v) k = d := ⟨_, rfl⟩
              rw [hd] at e1
              have Hd := Lib.hid hd
              clear cR
              by_cases h1 : d < 0
              · have Hf : Hid (vRotB A.length E A = false) := Lib.hid (bad_dart hlv hlk (fun h => by have := h.1; dsimp only at this; omega))
                clear hd
                go_wp2_with fail
                go_ret
                exact ⟨by rw [Hf.out]; rfl, Hwk.out.trans (by (repeat (first | exact gR _ | refine gO ?_ _ | refine gA ?_ _ | refine gD ?_ | refine gN ?_ _)))⟩
              obtain ⟨m, rfl⟩ := Int.eq_ofNat_of_zero_le (by omega : 0 ≤ d)
              clear h1
              by_cases h2 : 2 * E.length ≤ m
              · have Hf : Hid (vRotB A.length E A = false) := Lib.hid (bad_dart hlv hlk (fun h => by have := h.2.1; dsimp only at this; omega))
                clear hd
                go_wp2_with fail
                go_ret
                exact ⟨by rw [Hf.out]; rfl, Hwk.out.trans (by (repeat (first | exact gR _ | refine gO ?_ _ | refine gA ?_ _ | refine gD ?_ | refine gN ?_ _)))⟩
              have hm : m < 2 * E.length := by omega
              clear h2
              obtain ⟨gM, cM, eM, _, kM, _, _, nM, mM⟩ := HOk.out.some (k := 0) rfl (by omega)
              cases eM
              have x1 := mM m _ (bls_get _ hm)
              have x2 := nM m
              clear nM mM
              by_cases h3 : (m : Int) ∈ (preK A v k).map (·.2)
              · have Hf : Hid (vRotB A.length E A = false) := Lib.hid (bad_twice hlv hlk (by rw [hd]; exact h3))
                rw [decide_eq_true h3] at x1
                clear hd h3
                go_wp2_with fail
                go_ret
                exact ⟨by rw [Hf.out]; rfl, Hwk.out.trans (by (repeat (first | exact gR _ | refine gO ?_ _ | refine gA ?_ _ | refine gD ?_ | refine gN ?_ _)))⟩
              rw [decide_eq_false h3] at x1
              obtain ⟨bE, oE, rfl, lE, cE'⟩ := HR.out.hE.cells (by omega)
              obtain ⟨c1, c2⟩ := cE' wr Hwk.out (m / 2) (by omega)
              clear cE'
              have hm2 : m / 2 < E.length := by omega
              have Ht := Lib.hid (fun W1 : World => tail_e E m W1)
              obtain ⟨tl, htl⟩ : ∃ tl, tailE E m = tl := ⟨_, rfl⟩
              rw [htl] at Ht
              by_cases h4 : tl = (v : Int)
              case neg =>
                have Hf : Hid (vRotB A.length E A = false) := Lib.hid (bad_dart hlv hlk (fun h => h4 (by have := h.2.2; dsimp only at this; rw [hd, htl] at this; exact this)))
                have h4' : (tl != (v : Int)) = true := by rw [bne_iff_ne]; exact h4
                clear hd h3 h4 htl
                go_wp2_with (go_at_call 52; apply Calls.mono; (with_reducible exact Ht.out _); rintro e w' ⟨rfl, x, rfl⟩)
                go_ret
                exact ⟨by rw [Hf.out]; rfl, Hwk.out.trans (by (repeat (first | exact gR _ | refine gO ?_ _ | refine gA ?_ _ | refine gD ?_ | refine gN ?_ _)))⟩
              case pos =>
                have h4' : (tl != (v : Int)) = false := by rw [h4]; simp
                have Hn := Lib.hid (preK_succ A v hlk)
                have Hgn := Lib.hid (Hgood2.out.snoc (v := v) (d := (m : Int)) (by omega) (by omega) (by rw [htl]; exact h4) h3)
                have hpk : (preK A v k).length ≤ 20000 := by
                  have := Hgood2.out.len
                  omega
                clear h3 h4 htl
                go_wp2_with (go_at_call 52; apply Calls.mono; (with_reducible exact Ht.out _); rintro e w' ⟨rfl, x, rfl⟩)
                go_roundw
                case rel =>
                  have hlen : (preK A v (k + 1)).length = (preK A v k).length + 1 := by rw [Hn.out, List.length_append]; rfl
                  have hmap : (preK A v (k + 1)).map (·.2) = (preK A v k).map (·.2) ++ [(m : Int)] := by rw [Hn.out, List.map_append, Hd.out]; rfl
                  have h1 := HOk.out.set (k := 0) rfl m (.bool true)
                  rw [bls_set _ hm] at h1
                  refine ⟨k + 1, by omega, by go_num, ?_, ?_, ?_, ?_, ?_⟩
                  · rw [hlen]; go_num
                  · rw [Hn.out, Hd.out]; exact Hgn.out
                  · exact (Hgk.out.setCell (by have := HB.out; dsimp only; omega) _).over _
                  · simp; omega
                  · rw [hmap]; exact h1.grew (Grew.over' _ _)
                case measure => simp [intOf]; omega
            · have hke : k = (rowOf A v).length := by omega
              have Hp : Hid (preK A v k = pre A (v + 1)) := Lib.hid (by rw [hke, preK_all])
              go_wp2
              go_roundw
              case rel => exact ⟨v + 1, by omega, by go_num, by rw [← Hp.out], by rw [← Hp.out]; exact Hgood2.out, Hgk.out, by omega, by rw [← Hp.out]; exact HOk.out⟩
              case measure => simp [intOf]; omega
        · have hve : v = A.length := by omega
          subst hve
          have Hfin : Hid (((((pre A A.length).length : Nat) : Int) == ((2 * E.length : Nat) : Int)) = vRotB A.length E A) := Lib.hid (by
            rw [Bool.eq_iff_iff, beq_iff_eq, vRotB_iff]
            exact ⟨fun h => ⟨hN1, hN2, by omega, rfl, HokA.out, Hgood.out.1, Hgood.out.2, by omega⟩, fun h => by have := h.ln; omega⟩)
          go_wp2
          go_ret
          exact ⟨by rw [← Hfin.out]; simp, Hwq.out.trans (by (repeat (first | exact gR _ | refine gO ?_ _ | refine gA ?_ _ | refine gD ?_ | refine gN ?_ _)))⟩

theorem valid_p (N : Int) (pE pA : Option Addr) (nE nA cE cA : Nat) (E : List (Int × Int)) (A : List (List Int)) (w : World) (hR : RotAt w pE pA E A) (hL : Lim w) (hnE : E.length = nE) (hnA : A.length = nA) :
    Calls Tryd.prog 28 #[.agg #[.int .i64 N, .slice pE nE cE, .slice pA nA cA]] w fun e w' => e = .returned (.bool (vRotB N E A)) ∧ Grew w w' := valid_pw N pE pA nE nA cE cA E A w hR.aw hL hnE hnA

end Go.Proofs.YtiihgpgpbgafiaaDoor

/- The reference's Tails. -/
namespace Go.Proofs.YtiihgpgpbgafiaaDoor
open Go.RowKit
attribute [local go_sem ↓] Go.wp_at_zero Go.wp_at_succ

theorem two_news {w : World} {g : Nat} {x y : Value} (h0 : w.cell? ⟨g, 0, none⟩ = some x) (h1 : w.cell? ⟨g, 1, none⟩ = some y) : ∀ b : Addr, some (⟨g, 0, none⟩ : Addr) = some b → ∀ j u, [x, y][j]? = some u → w.cell? (b.add j) = some u := by
  intro b hb j u hu
  cases hb
  rw [Addr.add_lit, Nat.zero_add]
  match j, hu with
  | 0, hu => simp at hu; subst hu; exact h0
  | 1, hu => simp at hu; subst hu; exact h1
theorem intVs_app' (a b : List Int) : intVs (a ++ b) = intVs a ++ intVs b := by simp [intVs]
/-- A row's value and its cells. -/
theorem Owns.form {w : World} {B : Nat} {rs : List Row} (h : Owns w B rs) {k : Nat} {v : Value} {e : TypeId} {n : Nat} {vs : List Value} (hk : rs[k]? = Option.some ⟨v, e, 1, n, vs⟩) :
    ∃ p cap, v = .slice p n cap ∧ vs.length = n ∧ n ≤ cap ∧ cap ≤ maxLen ∧ (p = Option.none → n = 0 ∧ cap = 0) ∧ ∀ w' : World, Grew w w' → ∀ b, p = Option.some b → ∀ j u, vs[j]? = Option.some u → w'.cell? (b.add j) = Option.some u := by
  obtain ⟨h1, h2⟩ := h.get hk
  rw [Nat.mul_one] at h1
  rcases h2 with ⟨rfl, rfl⟩ | ⟨g, cap, rfl, _, _, h3, h4, _, h5⟩
  · exact ⟨Option.none, 0, rfl, h1, Nat.le_refl _, Nat.zero_le _, fun _ => ⟨rfl, rfl⟩, fun _ _ b hb => by cases hb⟩
  · refine ⟨Option.some ⟨g, 0, Option.none⟩, cap, rfl, h1, h3, h4, (fun h => by cases h), fun w' hg b hb j u hu => ?_⟩
    cases hb
    rw [Addr.add_lit, Nat.zero_add]
    exact hg.cellEq (h5 j u hu)
def tailsL (E : List (Int × Int)) : List Int := E.flatMap fun a => [a.1, a.2]
theorem tailsL_length (E : List (Int × Int)) : (tailsL E).length = 2 * E.length := by
  induction E with
  | nil => rfl
  | cons a E ih => simp only [tailsL, List.flatMap_cons, List.length_append] at ih ⊢; simp [ih]; omega
theorem tailsL_take (E : List (Int × Int)) {j : Nat} (hj : j < E.length) : tailsL (E.take (j + 1)) = tailsL (E.take j) ++ [(pr E j).1, (pr E j).2] := by
  rw [List.take_succ_eq_append_getElem hj, pr_eq E hj]
  simp only [tailsL, List.flatMap_append, List.flatMap_cons, List.flatMap_nil, List.append_nil]
theorem tailsL_get (E : List (Int × Int)) (d : Nat) : d < 2 * E.length → ge (tailsL E) d = tailE E d := by
  intro hd
  have key : ∀ (E : List (Int × Int)) (i : Nat), i < E.length → (tailsL E)[2 * i]? = some (pr E i).1 ∧ (tailsL E)[2 * i + 1]? = some (pr E i).2 := by
    intro E
    induction E with
    | nil => intro i hi; simp at hi
    | cons a E ih =>
      intro i hi
      cases i with
      | zero => exact ⟨rfl, rfl⟩
      | succ i =>
        have := ih i (by simpa using hi)
        have e1 : 2 * (i + 1) = 2 * i + 1 + 1 := by omega
        rw [e1]
        exact this
  obtain ⟨k1, k2⟩ := key E (d / 2) (by omega)
  unfold tailE ge
  rw [List.getD_eq_getElem?_getD]
  have hq : ((d : Int) / 2).toNat = d / 2 := by omega
  rw [hq]
  by_cases h : (d : Int) % 2 = 0
  · rw [if_pos h]
    have e : d = 2 * (d / 2) := by omega
    rw [e, k1, ← e]
    rfl
  · rw [if_neg h]
    have e : d = 2 * (d / 2) + 1 := by omega
    rw [e, k2, ← e]
    rfl

set_option maxRecDepth 8000 in
set_option maxHeartbeats 4000000 in
theorem tails_r (N : Int) (pE pA : Option Addr) (nE nA cE cA : Nat) (E : List (Int × Int)) (w : World) (hE : Prs w pE E) (he1 : E.length ≤ 100) (hnE : E.length = nE) (hw : ∀ a ∈ E, (0 ≤ a.1 ∧ a.1 ≤ 1000000) ∧ 0 ≤ a.2 ∧ a.2 ≤ 1000000) :
    Calls Tryd.prog 55 #[.agg #[.int .i64 N, .slice pE nE cE, .slice pA nA cA]] w fun e w' => Grew w w' ∧ ∃ q cap, e = .returned (.slice q (2 * E.length) cap) ∧ Ints w' q (tailsL E) := by
  subst hnE
  have HE := Lib.hid hE
  have Hw := Lib.hid hw
  clear hE hw
  go_enter Tryd.func55, Tryd.ntmps55
  go_wp2
  go_loopw [3, 4] (fun o i wr => ∃ j : Nat, j ≤ E.length ∧ i = .int .i64 j ∧ Grew (w.alloc (.cells #[.int .i64 N, .slice pE E.length cE, .slice pA nA cA] 25)) wr ∧ Owns wr (w.heap.size + 1) [⟨o, 3, 1, 2 * j, intVs (tailsL (E.take j))⟩]) (fun _ i _ => E.length - (intOf i).toNat)
  case atStart =>
    have h := (Owns.nil (w.alloc (.cells #[.int .i64 N, .slice pE E.length cE, .slice pA nA cA] 25)) (w.heap.size + 1)).made (by simp) #[] 3 1 0 (w.heap.size + 1) rfl (by decide) (by simp)
    exact ⟨0, Nat.zero_le _, rfl, by (repeat (first | exact gR _ | refine gO ?_ _ | refine gA ?_ _ | refine gD ?_ | refine gN ?_ _)), h⟩
  case round =>
    obtain ⟨j, hj, rfl, hg, hO⟩ := hrel
    have Hg := Lib.hid hg
    have HO := Lib.hid hO
    have hszr := hg.below.size
    simp at hszr
    have Hgw : Hid (Grew w wr) := Lib.hid (((Grew.refl w).alloc _).trans hg)
    have b1 : wr.cell? ⟨w.heap.size, 1, none⟩ = some (.slice pE E.length cE) := hg.cellEq (by first | (go_simp; done) | (simp [go_sem, ↓IntWalk.iteOmega, *]; done))
    obtain ⟨pO, cO, rfl, _, hc1, hc2, _, _⟩ := hO.form (k := 0) rfl
    clear hg hO
    by_cases hlt : j < E.length
    · obtain ⟨bE, oE, rfl, lE, cE'⟩ := HE.out.cells (by omega)
      obtain ⟨c1, c2⟩ := cE' wr Hgw.out j hlt
      have Hn := Lib.hid (tailsL_take E hlt)
      have CEq := Lib.hid cE'
      clear cE'
      go_upto_region 5 with fail
      refine wp_region_T (s := 15) (S := fun w' => w'.cell? ⟨w.heap.size, 1, none⟩ = some (.slice (some ⟨bE, oE, none⟩) E.length cE) ∧ w'.cell? ⟨bE, oE + j * 2, none⟩ = some (.int .i64 (pr E j).1) ∧ w'.cell? ⟨bE, oE + j * 2 + 1, none⟩ = some (.int .i64 (pr E j).2)) (by kernel_rfl) ⟨b1, c1, c2⟩ (fun hH => ?_)
      refine wpAnyT_takeL (i := 0) (v := ?_) rfl (by kernel_rfl) (by kernel_rfl) (by kernel_rfl) (by kernel_rfl) (fun _ _ _ h => h) (Or.inl ⟨by rfl, ?_⟩) (by assumption) ?_
      rotate_left
      · (intro w hSw; (try dsimp only at hSw); go_simp; (try with_reducible rfl))
      (try simp only [Act.put, List.setIfInBounds_toArray, List.set_cons_zero, List.set_cons_succ])
      refine wpAnyT_takeL (i := 1) (v := ?_) rfl (by kernel_rfl) (by kernel_rfl) (by kernel_rfl) (by kernel_rfl) (fun _ _ _ h => h) (Or.inl ⟨by rfl, ?_⟩) (by assumption) ?_
      rotate_left
      · (intro w hSw; (try dsimp only at hSw); go_simp; (try with_reducible rfl))
      (try simp only [Act.put, List.setIfInBounds_toArray, List.set_cons_zero, List.set_cons_succ])
      refine wpAnyT_takeL (i := 2) (v := ?_) rfl (by kernel_rfl) (by kernel_rfl) (by kernel_rfl) (by kernel_rfl) (fun _ _ _ h => h) (Or.inl ⟨by rfl, ?_⟩) (by assumption) ?_
      rotate_left
      · (intro w hSw; (try dsimp only at hSw); go_simp; (try with_reducible rfl))
      (try simp only [Act.put, List.setIfInBounds_toArray, List.set_cons_zero, List.set_cons_succ])
      refine wpAnyT_takeL (i := 3) (v := ?_) rfl (by kernel_rfl) (by kernel_rfl) (by kernel_rfl) (by kernel_rfl) (fun _ _ _ h => h) (Or.inl ⟨by rfl, ?_⟩) (by assumption) ?_
      rotate_left
      · (intro w hSw; (try dsimp only at hSw); go_simp; (try with_reducible rfl))
      (try simp only [Act.put, List.setIfInBounds_toArray, List.set_cons_zero, List.set_cons_succ])
      refine wpAnyT_takeL (i := 4) (v := ?_) rfl (by kernel_rfl) (by kernel_rfl) (by kernel_rfl) (by kernel_rfl) (fun _ _ _ h => h) (Or.inl ⟨by rfl, ?_⟩) (by assumption) ?_
      rotate_left
      · (intro w hSw; (try dsimp only at hSw); go_simp; (try with_reducible rfl))
      (try simp only [Act.put, List.setIfInBounds_toArray, List.set_cons_zero, List.set_cons_succ])
      refine wpAnyT_takeL (i := 5) (v := ?_) rfl (by kernel_rfl) (by kernel_rfl) (by kernel_rfl) (by kernel_rfl) (fun _ _ _ h => h) (Or.inl ⟨by rfl, ?_⟩) (by assumption) ?_
      rotate_left
      · (intro w hSw; (try dsimp only at hSw); go_simp; (try with_reducible rfl))
      (try simp only [Act.put, List.setIfInBounds_toArray, List.set_cons_zero, List.set_cons_succ])
      refine wpAnyT_takeL (i := 6) (v := ?_) rfl (by kernel_rfl) (by kernel_rfl) (by kernel_rfl) (by kernel_rfl) (fun _ _ _ h => h) (Or.inl ⟨by rfl, ?_⟩) (by assumption) ?_
      rotate_left
      · (intro w hSw; (try dsimp only at hSw); go_simp; (try with_reducible rfl))
      (try simp only [Act.put, List.setIfInBounds_toArray, List.set_cons_zero, List.set_cons_succ])
      refine wpAnyT_takeL (i := 7) (v := ?_) rfl (by kernel_rfl) (by kernel_rfl) (by kernel_rfl) (by kernel_rfl) (fun _ _ _ h => h) (Or.inl ⟨by rfl, ?_⟩) (by assumption) ?_
      rotate_left
      · (intro w hSw; (try dsimp only at hSw); go_simp; (try with_reducible rfl))
      (try simp only [Act.put, List.setIfInBounds_toArray, List.set_cons_zero, List.set_cons_succ])
      refine wpAnyT_takeL (i := 8) (v := ?_) rfl (by kernel_rfl) (by kernel_rfl) (by kernel_rfl) (by kernel_rfl) (fun _ _ _ h => h) (Or.inl ⟨by rfl, ?_⟩) (by assumption) ?_
      rotate_left
      · (intro w hSw; (try dsimp only at hSw); go_simp; (try with_reducible rfl))
      (try simp only [Act.put, List.setIfInBounds_toArray, List.set_cons_zero, List.set_cons_succ])
      refine wpAnyT_takeL (i := 9) (v := ?_) rfl (by kernel_rfl) (by kernel_rfl) (by kernel_rfl) (by kernel_rfl) (fun _ _ _ h => h) (Or.inl ⟨by rfl, ?_⟩) (by assumption) ?_
      rotate_left
      · (intro w hSw; (try dsimp only at hSw); go_simp; (try with_reducible rfl))
      (try simp only [Act.put, List.setIfInBounds_toArray, List.set_cons_zero, List.set_cons_succ])
      refine wpAnyT_takeL (i := 10) (v := ?_) rfl (by kernel_rfl) (by kernel_rfl) (by kernel_rfl) (by kernel_rfl) (fun _ _ _ h => h) (Or.inl ⟨by rfl, ?_⟩) (by assumption) ?_
      rotate_left
      · (intro w hSw; (try dsimp only at hSw); go_simp; (try with_reducible rfl))
      (try simp only [Act.put, List.setIfInBounds_toArray, List.set_cons_zero, List.set_cons_succ])
      refine wpAnyT_takeL (i := 11) (v := ?_) rfl (by kernel_rfl) (by kernel_rfl) (by kernel_rfl) (by kernel_rfl) (fun _ _ _ h => h) (Or.inl ⟨by rfl, ?_⟩) (by assumption) ?_
      rotate_left
      · (intro w hSw; (try dsimp only at hSw); go_simp; (try with_reducible rfl))
      (try simp only [Act.put, List.setIfInBounds_toArray, List.set_cons_zero, List.set_cons_succ])
      refine wpAnyT_takeL (i := 12) (v := ?_) rfl (by kernel_rfl) (by kernel_rfl) (by kernel_rfl) (by kernel_rfl) (fun _ _ _ h => h) (Or.inl ⟨by rfl, ?_⟩) (by assumption) ?_
      rotate_left
      · (intro w hSw; (try dsimp only at hSw); go_simp; (try with_reducible rfl))
      (try simp only [Act.put, List.setIfInBounds_toArray, List.set_cons_zero, List.set_cons_succ])
      refine wpAnyT_all (rs := [13]) (by kernel_rfl) (by simp) (AllT.consL (i := 13) rfl (fun K hK => ?_) AllT.nil)
      go_simp
      refine hK.out _ _ ?_ (fun hH => ?_)
      · (first | (simp [go_sem, ↓IntWalk.iteOmega, *]; done) | go_keep)
      clear hK K
      (try simp only [Act.put, List.setIfInBounds_toArray, List.set_cons_zero, List.set_cons_succ])
      refine wpAnyT_all (rs := [14]) (by kernel_rfl) (by simp) (AllT.consL (i := 14) rfl (fun K hK => ?_) AllT.nil)
      refine step_append_owns rfl _ _ 28 (by rfl) 3 1 8 (.int .i64 0) Tryd.underlying28 Tryd.infoInt rfl (by decide) (w.heap.size + 1) _ 0 _ _ _ (HO.out.grew (by (repeat (first | exact gR _ | refine gO ?_ _ | refine gA ?_ _ | refine gD ?_ | refine gN ?_ _)))) rfl (by rfl) _ 2 2 (by rfl) [.int .i64 (pr E j).1, .int .i64 (pr E j).2] rfl (fun h => by cases h) (two_news (by (simp [go_sem, ↓IntWalk.iteOmega])) (by (simp [go_sem, ↓IntWalk.iteOmega]))) (by simp [Value.oneCell']) (by simp only [maxLen]; omega) (by omega) (by first | rfl | omega | (simp <;> omega)) ?_
      intro v1 w1 hO1 hg1 hb1 _
      obtain ⟨pV1, cV1, rfl, _, _, _, _, _⟩ := hO1.form (k := 0) rfl
      have hG1 : Grew (w.alloc (.cells #[.int .i64 N, .slice (some ⟨bE, oE, none⟩) E.length cE, .slice pA nA cA] 25)) w1 := Grew.grownBy (Hg.out.trans (by (repeat (first | exact gR _ | refine gO ?_ _ | refine gA ?_ _ | refine gD ?_ | refine gN ?_ _)))) hg1 (fun g h => by have := hb1 g h; simp; omega)
      have q1 : w1.cell? ⟨w.heap.size, 1, none⟩ = some (.slice (some ⟨bE, oE, none⟩) E.length cE) := hG1.cellEq (by first | (go_simp; done) | (simp [go_sem, ↓IntWalk.iteOmega, *]; done))
      have Hw1 : Grew w w1 := ((Grew.refl w).alloc _).trans hG1
      obtain ⟨q2, q3⟩ := CEq.out w1 Hw1 j hlt
      have HO1 := Lib.hid hO1
      have HG1 := Lib.hid hG1
      refine hK.out _ _ ⟨q1, q2, q3⟩ (fun hH => ?_)
      clear hK K hO1 hg1 hG1 Hw1
      (try simp only [Act.put, List.setIfInBounds_toArray, List.set_cons_zero, List.set_cons_succ])
      refine wpAnyT_all (rs := [15]) (by kernel_rfl) (by simp) (AllT.lastL rfl (fun K hK => ?_))
      go_simp
      refine hK.out _ _ ?_
      clear hK K
      (try simp only [Act.put, List.setIfInBounds_toArray, List.set_cons_zero, List.set_cons_succ])
      refine wpAnyT_done (by kernel_rfl) ?_ _
      go_wp2
      go_roundw
      case rel =>
        refine ⟨j + 1, by omega, by go_num, HG1.out, ?_⟩
        rw [Hn.out, intVs_app', show 2 * (j + 1) = 2 * j + 2 by omega]
        exact HO1.out
      case measure => simp [intOf]; omega
    · have hje : j = E.length := by omega
      subst hje
      go_wp2
      go_ret
      rw [List.take_length] at HO
      refine ⟨Hgw.out, pO, cO, rfl, ?_⟩
      obtain ⟨p', cap', e, h2, _⟩ := HO.out.ints (k := 0) rfl (tailsL_length E) (fun x hx => by
        obtain ⟨a, ha, hxa⟩ := List.mem_flatMap.1 hx
        have := Hw.out a ha
        simp at hxa
        rcases hxa with rfl | rfl <;> omega)
      cases e
      exact h2

end Go.Proofs.YtiihgpgpbgafiaaDoor

/- Valid of the reference. -/
namespace Go.Proofs.YtiihgpgpbgafiaaDoor
open Go.RowKit
attribute [local go_sem ↓] Go.wp_at_zero Go.wp_at_succ

set_option maxRecDepth 8000 in
set_option maxHeartbeats 16000000 in
theorem valid_rw (N : Int) (pE pA : Option Addr) (nE nA cE cA : Nat) (E : List (Int × Int)) (A : List (List Int)) (w : World) (hR : RotAw w pE pA E A) (hnE : E.length = nE) (hnA : A.length = nA) :
    Calls Tryd.prog 40 #[.agg #[.int .i64 N, .slice pE nE cE, .slice pA nA cA]] w fun e w' => e = .returned (.bool (vRotB N E A)) ∧ Grew w w' := by
  subst hnE hnA
  have he1 := hR.e1
  have ha1 := hR.a1
  by_cases hN : 0 ≤ N ∧ N ≤ 16384 ∧ (A.length : Int) = N
  case neg =>
    have Hf : Hid (vRotB N E A = false) := Lib.hid (vRotB_no fun h => hN ⟨h.n0, h.n1, h.al⟩)
    by_cases h1 : N < 0
    · clear hN hR
      go_enter Tryd.func40, Tryd.ntmps40
      go_wp2
      go_ret
      exact ⟨by rw [Hf.out]; rfl, by (repeat (first | exact gR _ | refine gO ?_ _ | refine gA ?_ _ | refine gD ?_ | refine gN ?_ _))⟩
    · have h1' : 0 ≤ N := by omega
      by_cases h2 : 16384 < N
      · clear hN hR h1
        go_enter Tryd.func40, Tryd.ntmps40
        go_wp2
        go_ret
        exact ⟨by rw [Hf.out]; rfl, by (repeat (first | exact gR _ | refine gO ?_ _ | refine gA ?_ _ | refine gD ?_ | refine gN ?_ _))⟩
      · have h2' : N ≤ 16384 := by omega
        have h3 : ((A.length : Int) != N) = true := by rw [bne_iff_ne]; omega
        have h4 : (E.length : Int) ≤ 32768 := by omega
        clear hN hR h1 h2
        go_enter Tryd.func40, Tryd.ntmps40
        go_wp2
        go_ret
        exact ⟨by rw [Hf.out]; rfl, by (repeat (first | exact gR _ | refine gO ?_ _ | refine gA ?_ _ | refine gD ?_ | refine gN ?_ _))⟩
  case pos =>
  obtain ⟨hN1, hN2, rfl⟩ := hN
  have h4 : (E.length : Int) ≤ 32768 := by omega
  have hne : ((A.length : Int) != (A.length : Int)) = false := by simp
  have HR := Lib.hid hR
  clear hR
  go_enter Tryd.func40, Tryd.ntmps40
  go_wp2
  go_loopw [3] (fun i wr => ∃ j : Nat, j ≤ E.length ∧ i = .int .i64 j ∧ (∀ t, t < j → okEdge A.length (pr E t)) ∧ Grew (w.alloc (.cells #[.int .i64 A.length, .slice pE E.length cE, .slice pA A.length cA] 25)) wr) (fun i _ => E.length - (intOf i).toNat)
  case atStart => exact ⟨0, Nat.zero_le _, rfl, fun t ht => absurd ht (Nat.not_lt_zero _), Grew.refl _⟩
  case round =>
    obtain ⟨j, hj, rfl, hok, hg⟩ := hrel
    have Hok := Lib.hid hok
    have Hg := Lib.hid hg
    have hszr := hg.below.size
    simp at hszr
    have Hgw : Hid (Grew w wr) := Lib.hid (((Grew.refl w).alloc _).trans hg)
    have b0 : wr.cell? ⟨w.heap.size, 0, none⟩ = some (.int .i64 A.length) := hg.cellEq (by first | (go_simp; done) | (simp [go_sem, ↓IntWalk.iteOmega, *]; done))
    have b1 : wr.cell? ⟨w.heap.size, 1, none⟩ = some (.slice pE E.length cE) := hg.cellEq (by first | (go_simp; done) | (simp [go_sem, ↓IntWalk.iteOmega, *]; done))
    have b2 : wr.cell? ⟨w.heap.size, 2, none⟩ = some (.slice pA A.length cA) := hg.cellEq (by first | (go_simp; done) | (simp [go_sem, ↓IntWalk.iteOmega, *]; done))
    clear hok hg
    by_cases hlt : j < E.length
    · obtain ⟨bE, oE, rfl, lE, cE'⟩ := HR.out.hE.cells (by omega)
      obtain ⟨c1, c2⟩ := cE' wr Hgw.out j hlt
      clear cE'
      by_cases h1 : (pr E j).1 < 0
      · have Hf : Hid (vRotB A.length E A = false) := Lib.hid (vRotB_no fun h => by have := h.ed j hlt; unfold okEdge at this; omega)
        go_wp2
        go_ret
        exact ⟨by rw [Hf.out]; rfl, Hgw.out.trans (by (repeat (first | exact gR _ | refine gO ?_ _ | refine gA ?_ _ | refine gD ?_ | refine gN ?_ _)))⟩
      have h1' : 0 ≤ (pr E j).1 := by omega
      clear h1
      by_cases h2 : (A.length : Int) ≤ (pr E j).1
      · have Hf : Hid (vRotB A.length E A = false) := Lib.hid (vRotB_no fun h => by have := h.ed j hlt; unfold okEdge at this; omega)
        go_wp2
        go_ret
        exact ⟨by rw [Hf.out]; rfl, Hgw.out.trans (by (repeat (first | exact gR _ | refine gO ?_ _ | refine gA ?_ _ | refine gD ?_ | refine gN ?_ _)))⟩
      have h2' : (pr E j).1 < (A.length : Int) := by omega
      clear h2
      by_cases h3 : (pr E j).2 < 0
      · have Hf : Hid (vRotB A.length E A = false) := Lib.hid (vRotB_no fun h => by have := h.ed j hlt; unfold okEdge at this; omega)
        go_wp2
        go_ret
        exact ⟨by rw [Hf.out]; rfl, Hgw.out.trans (by (repeat (first | exact gR _ | refine gO ?_ _ | refine gA ?_ _ | refine gD ?_ | refine gN ?_ _)))⟩
      have h3' : 0 ≤ (pr E j).2 := by omega
      clear h3
      by_cases h4 : (A.length : Int) ≤ (pr E j).2
      · have Hf : Hid (vRotB A.length E A = false) := Lib.hid (vRotB_no fun h => by have := h.ed j hlt; unfold okEdge at this; omega)
        go_wp2
        go_ret
        exact ⟨by rw [Hf.out]; rfl, Hgw.out.trans (by (repeat (first | exact gR _ | refine gO ?_ _ | refine gA ?_ _ | refine gD ?_ | refine gN ?_ _)))⟩
      have h4' : (pr E j).2 < (A.length : Int) := by omega
      clear h4
      by_cases h5 : (pr E j).1 = (pr E j).2
      · have Hf : Hid (vRotB A.length E A = false) := Lib.hid (vRotB_no fun h => by have := h.ed j hlt; unfold okEdge at this; omega)
        have h5' : ((pr E j).1 == (pr E j).2) = true := beq_iff_eq.2 h5
        clear h5
        go_wp2
        go_ret
        exact ⟨by rw [Hf.out]; rfl, Hgw.out.trans (by (repeat (first | exact gR _ | refine gO ?_ _ | refine gA ?_ _ | refine gD ?_ | refine gN ?_ _)))⟩
      have Hnx : Hid (∀ t, t < j + 1 → okEdge A.length (pr E t)) := Lib.hid (fun t ht => by
        by_cases e : t = j
        · subst e; exact ⟨h1', h2', h3', h4', h5⟩
        · exact Hok.out t (by omega))
      have h5' : ((pr E j).1 == (pr E j).2) = false := beq_eq_false_iff_ne.2 h5
      clear h5
      go_wp2
      go_roundw
      case rel => exact ⟨j + 1, by omega, by go_num, Hnx.out, Hg.out.trans (by (repeat (first | exact gR _ | refine gO ?_ _ | refine gA ?_ _ | refine gD ?_ | refine gN ?_ _)))⟩
      case measure => simp [intOf]; omega
    · have HokA : Hid (∀ t, t < E.length → okEdge A.length (pr E t)) := Lib.hid (fun t ht => Hok.out t (by omega))
      have hwE : ∀ a ∈ E, (0 ≤ a.1 ∧ a.1 ≤ 1000000) ∧ 0 ≤ a.2 ∧ a.2 ≤ 1000000 := fun a ha => by
        obtain ⟨t, ht, rfl⟩ := List.getElem_of_mem ha
        have := HokA.out t ht
        unfold okEdge at this
        rw [pr_eq E ht] at this
        omega
      have HTl := Lib.hid (fun W1 (hg1 : Grew w W1) => tails_r A.length pE pA E.length A.length cE cA E W1 (HR.out.hE.grew hg1) he1 rfl hwE)
      clear hwE
      go_upto_region 10 with (go_at_call 55; apply Calls.mono; (with_reducible exact HTl.out _ (Hgw.out.trans (by (repeat (first | exact gR _ | refine gO ?_ _ | refine gA ?_ _ | refine gD ?_ | refine gN ?_ _))))); rintro e w3 ⟨hg3, pT, cT, rfl, hT⟩; have HT := Lib.hid hT; have Hg3 := Lib.hid hg3; have b0 := hg3.cellEq b0; have b1 := hg3.cellEq b1; have b2 := hg3.cellEq b2; clear hT hg3)
      have Hgw3 : Hid (Grew w w3) := Lib.hid (Hgw.out.trans Hg3.out)
      have Hc0 := Lib.hid b0
      have Hc1 := Lib.hid b1
      have Hc2 := Lib.hid b2
      have hsz3 := Hg3.out.below.size
      go_wp2_with (refine wp_make_owns rfl _ _ 74 rfl 4 1 (.bool false) Tryd.underlying74 Tryd.infoBool rfl .i64 .i64 _ _ (2 * E.length) rfl rfl (by push_cast; rfl) (by push_cast; rfl) (by omega) (by simp only [maxLen]; omega) w3.heap.size [] (Owns.nil _ _) (Nat.le_refl _) ?_; intro w4 hO hg4 hs4; have HO4 := Lib.hid hO; have Hg4 := Lib.hid hg4; have b0 := hg4.cellEq b0; have b1 := hg4.cellEq b1; have b2 := hg4.cellEq b2; clear hO hg4)
      obtain ⟨B, hB⟩ : ∃ B, w3.heap.size = B := ⟨_, rfl⟩
      have HB := Lib.hid hB
      rw [hB] at HO4 hs4 ⊢
      have hBw : w.heap.size < B := by omega
      have hsz4 := Hg4.out.below.size
      obtain ⟨wB, hwB⟩ : ∃ wB, w3 = wB := ⟨_, rfl⟩
      rw [hwB] at Hg4 Hgw3 HB Hc0 Hc1 Hc2 HT
      clear hwB b0 b1 b2
      go_loopw [7, 8] (fun n i wq => ∃ v : Nat, v ≤ A.length ∧ i = .int .i64 v ∧ n = .int .i64 ((pre A v).length : Nat) ∧ Good E (pre A v) ∧ Grew wB wq ∧ w4.heap.size ≤ wq.heap.size ∧ Owns wq B [⟨.slice (some ⟨B, 0, none⟩) (2 * E.length) (2 * E.length), 4, 1, 2 * E.length, bls (2 * E.length) ((pre A v).map (·.2))⟩]) (fun _ i _ => A.length - (intOf i).toNat)
      case atStart => exact ⟨0, Nat.zero_le _, rfl, rfl, Good.nil E, Hg4.out, Nat.le_refl _, by have := HO4.out; rw [← bls_nil] at this; exact this⟩
      case round =>
        obtain ⟨v, hv, rfl, rfl, hgood, hgq, hsq, hOq⟩ := hrel
        have Hgood := Lib.hid hgood
        have Hgq := Lib.hid hgq
        have q0 := hgq.cellEq Hc0.out
        have q1 := hgq.cellEq Hc1.out
        have q2 := hgq.cellEq Hc2.out
        have HOq := Lib.hid hOq
        have Hwq : Hid (Grew w wr) := Lib.hid (Hgw3.out.trans hgq)
        have hpl := hgood.len
        clear hgood hgq hOq
        by_cases hlv : v < A.length
        · obtain ⟨bA, oA, rp, rc, rfl, lA, cA'⟩ := HR.out.hA.rows (by omega)
          have CA := Lib.hid (fun (W1 : World) (hg : Grew w W1) => (cA' W1 hg v hlv).1)
          obtain ⟨a1, _⟩ := cA' wr Hwq.out v hlv
          obtain ⟨_, a2⟩ := cA' w (Grew.refl _) v hlv
          obtain ⟨rv, hrv⟩ : ∃ rv, rp v = rv := ⟨_, rfl⟩
          rw [hrv] at a1 a2 CA
          clear hrv
          have Ha2 := Lib.hid a2
          have hrl := a2.1
          clear cA' a2
          go_wp2
          clear q0 q1 q2
          go_loopw [7, 9] (fun n i wk => ∃ k : Nat, k ≤ (rowOf A v).length ∧ i = .int .i64 k ∧ n = .int .i64 ((preK A v k).length : Nat) ∧ Good E (preK A v k) ∧ Grew wB wk ∧ wr.heap.size ≤ wk.heap.size ∧ Owns wk B [⟨.slice (some ⟨B, 0, none⟩) (2 * E.length) (2 * E.length), 4, 1, 2 * E.length, bls (2 * E.length) ((preK A v k).map (·.2))⟩]) (fun _ i _ => (rowOf A v).length - (intOf i).toNat)
          case atStart => exact ⟨0, Nat.zero_le _, rfl, by rw [preK_zero], by rw [preK_zero]; exact Hgood.out, Hgq.out, Nat.le_refl _, by rw [preK_zero]; exact HOq.out⟩
          case round =>
            obtain ⟨k, hk, rfl, rfl, hgood, hgk, hgr, hOk⟩ := hrel
            have Hgood2 := Lib.hid hgood
            have Hgk := Lib.hid hgk
            have HOk := Lib.hid hOk
            have q0 := hgk.cellEq Hc0.out
            have q1 := hgk.cellEq Hc1.out
            have q2 := hgk.cellEq Hc2.out
            have Hwk : Hid (Grew w wr) := Lib.hid (Hgw3.out.trans hgk)
            have hBk : B < wr.heap.size := by omega
            have a1 := CA.out wr Hwk.out
            clear hgood hgk hOk
            by_cases hlk : k < (rowOf A v).length
            · obtain ⟨bR, oR, rfl, lR, cR⟩ := Ha2.out.cells (by omega)
              have e1 := cR wr Hwk.out k hlk
              obtain ⟨d, hd⟩ : ∃ d, ge (rowOf A v) k = d := ⟨_, rfl⟩
              rw [hd] at e1
              have Hd := Lib.hid hd
              clear cR
              by_cases h1 : d < 0
              · have Hf : Hid (vRotB A.length E A = false) := Lib.hid (bad_dart hlv hlk (fun h => by have := h.1; dsimp only at this; omega))
                clear hd
                go_wp2_with fail
                go_ret
                exact ⟨by rw [Hf.out]; rfl, Hwk.out.trans (by (repeat (first | exact gR _ | refine gO ?_ _ | refine gA ?_ _ | refine gD ?_ | refine gN ?_ _)))⟩
              obtain ⟨m, rfl⟩ := Int.eq_ofNat_of_zero_le (by omega : 0 ≤ d)
              clear h1
              by_cases h2 : 2 * E.length ≤ m
              · have Hf : Hid (vRotB A.length E A = false) := Lib.hid (bad_dart hlv hlk (fun h => by have := h.2.1; dsimp only at this; omega))
                clear hd
                go_wp2_with fail
                go_ret
                exact ⟨by rw [Hf.out]; rfl, Hwk.out.trans (by (repeat (first | exact gR _ | refine gO ?_ _ | refine gA ?_ _ | refine gD ?_ | refine gN ?_ _)))⟩
              have hm : m < 2 * E.length := by omega
              clear h2
              obtain ⟨gM, cM, eM, _, kM, _, _, nM, mM⟩ := HOk.out.some (k := 0) rfl (by omega)
              cases eM
              have x1 := mM m _ (bls_get _ hm)
              have x2 := nM m
              clear nM mM
              by_cases h3 : (m : Int) ∈ (preK A v k).map (·.2)
              · have Hf : Hid (vRotB A.length E A = false) := Lib.hid (bad_twice hlv hlk (by rw [hd]; exact h3))
                rw [decide_eq_true h3] at x1
                clear hd h3
                go_wp2_with fail
                go_ret
                exact ⟨by rw [Hf.out]; rfl, Hwk.out.trans (by (repeat (first | exact gR _ | refine gO ?_ _ | refine gA ?_ _ | refine gD ?_ | refine gN ?_ _)))⟩
              rw [decide_eq_false h3] at x1
              obtain ⟨bT, oT, rfl, lT, cT'⟩ := HT.out.cells (by rw [tailsL_length]; omega)
              have c1 := cT' wr Hgk.out m (by rw [tailsL_length]; exact hm)
              rw [tailsL_get E m hm] at c1
              clear cT'
              obtain ⟨tl, htl⟩ : ∃ tl, tailE E m = tl := ⟨_, rfl⟩
              rw [htl] at c1
              by_cases h4 : tl = (v : Int)
              case neg =>
                have Hf : Hid (vRotB A.length E A = false) := Lib.hid (bad_dart hlv hlk (fun h => h4 (by have := h.2.2; dsimp only at this; rw [hd, htl] at this; exact this)))
                have h4' : (tl != (v : Int)) = true := by rw [bne_iff_ne]; exact h4
                clear hd h3 h4 htl
                go_wp2_with fail
                go_ret
                exact ⟨by rw [Hf.out]; rfl, Hwk.out.trans (by (repeat (first | exact gR _ | refine gO ?_ _ | refine gA ?_ _ | refine gD ?_ | refine gN ?_ _)))⟩
              case pos =>
                have h4' : (tl != (v : Int)) = false := by rw [h4]; simp
                have Hn := Lib.hid (preK_succ A v hlk)
                have Hgn := Lib.hid (Hgood2.out.snoc (v := v) (d := (m : Int)) (by omega) (by omega) (by rw [htl]; exact h4) h3)
                have hpk : (preK A v k).length ≤ 20000 := by
                  have := Hgood2.out.len
                  omega
                clear h3 h4 htl
                go_wp2_with fail
                go_roundw
                case rel =>
                  have hlen : (preK A v (k + 1)).length = (preK A v k).length + 1 := by rw [Hn.out, List.length_append]; rfl
                  have hmap : (preK A v (k + 1)).map (·.2) = (preK A v k).map (·.2) ++ [(m : Int)] := by rw [Hn.out, List.map_append, Hd.out]; rfl
                  have h1 := HOk.out.set (k := 0) rfl m (.bool true)
                  rw [bls_set _ hm] at h1
                  refine ⟨k + 1, by omega, by go_num, ?_, ?_, ?_, ?_, ?_⟩
                  · rw [hlen]; go_num
                  · rw [Hn.out, Hd.out]; exact Hgn.out
                  · exact Hgk.out.setCell (by have := HB.out; dsimp only; omega) _
                  · simp; omega
                  · rw [hmap]; exact h1
                case measure => simp [intOf]; omega
            · have hke : k = (rowOf A v).length := by omega
              have Hp : Hid (preK A v k = pre A (v + 1)) := Lib.hid (by rw [hke, preK_all])
              go_wp2
              go_roundw
              case rel => exact ⟨v + 1, by omega, by go_num, by rw [← Hp.out], by rw [← Hp.out]; exact Hgood2.out, Hgk.out, by omega, by rw [← Hp.out]; exact HOk.out⟩
              case measure => simp [intOf]; omega
        · have hve : v = A.length := by omega
          subst hve
          have Hfin : Hid (((((pre A A.length).length : Nat) : Int) == ((2 * E.length : Nat) : Int)) = vRotB A.length E A) := Lib.hid (by
            rw [Bool.eq_iff_iff, beq_iff_eq, vRotB_iff]
            exact ⟨fun h => ⟨hN1, hN2, by omega, rfl, HokA.out, Hgood.out.1, Hgood.out.2, by omega⟩, fun h => by have := h.ln; omega⟩)
          go_wp2
          go_ret
          exact ⟨by rw [← Hfin.out]; simp, Hwq.out.trans (by (repeat (first | exact gR _ | refine gO ?_ _ | refine gA ?_ _ | refine gD ?_ | refine gN ?_ _)))⟩

theorem valid_r (N : Int) (pE pA : Option Addr) (nE nA cE cA : Nat) (E : List (Int × Int)) (A : List (List Int)) (w : World) (hR : RotAt w pE pA E A) (hnE : E.length = nE) (hnA : A.length = nA) :
    Calls Tryd.prog 40 #[.agg #[.int .i64 N, .slice pE nE cE, .slice pA nA cA]] w fun e w' => e = .returned (.bool (vRotB N E A)) ∧ Grew w w' := valid_rw N pE pA nE nA cE cA E A w hR.aw hnE hnA

end Go.Proofs.YtiihgpgpbgafiaaDoor

/- Few, Tail. -/
namespace Go.Proofs.YtiihgpgpbgafiaaDoor
open Go.RowKit
attribute [local go_sem ↓] Go.wp_at_zero Go.wp_at_succ

noncomputable def tailF (N : Int) (E : List (Int × Int)) (A : List (List Int)) (d : Int) : Int := if vRotB N E A = true ∧ 0 ≤ d ∧ d < 2 * E.length then tailE E d else -1

theorem valid_pe {N : Int} {pE pA : Option Addr} {nE nA cE cA : Nat} {E : List (Int × Int)} {A : List (List Int)} {w : World} {b : Bool} (h : vRotB N E A = b) (hR : RotAt w pE pA E A) (hL : Lim w) (hnE : E.length = nE) (hnA : A.length = nA) :
    Calls Tryd.prog 28 #[.agg #[.int .i64 N, .slice pE nE cE, .slice pA nA cA]] w fun e w' => e = .returned (.bool b) ∧ Grew w w' := h ▸ valid_p N pE pA nE nA cE cA E A w hR hL hnE hnA
theorem valid_re {N : Int} {pE pA : Option Addr} {nE nA cE cA : Nat} {E : List (Int × Int)} {A : List (List Int)} {w : World} {b : Bool} (h : vRotB N E A = b) (hR : RotAt w pE pA E A) (hnE : E.length = nE) (hnA : A.length = nA) :
    Calls Tryd.prog 40 #[.agg #[.int .i64 N, .slice pE nE cE, .slice pA nA cA]] w fun e w' => e = .returned (.bool b) ∧ Grew w w' := h ▸ valid_r N pE pA nE nA cE cA E A w hR hnE hnA

set_option maxHeartbeats 2000000 in
theorem tailr_l (N : Int) (pE pA : Option Addr) (nE nA cE cA : Nat) (E : List (Int × Int)) (A : List (List Int)) (d : Int) (w : World) (hR : RotAt w pE pA E A) (hnE : E.length = nE) (hnA : A.length = nA) :
    Calls Tryd.prog 33 #[.agg #[.int .i64 N, .slice pE nE cE, .slice pA nA cA], .int .i64 d] w fun e w' => e = .returned (.int .i64 (tailF N E A d)) ∧ Grew w w' := by
  subst hnE hnA
  have he1 := hR.e1
  have ha1 := hR.a1
  have HR := Lib.hid hR
  cases hv : vRotB N E A
  case false =>
    have Hf : Hid (tailF N E A d = -1) := Lib.hid (by unfold tailF; simp [hv])
    have Hv := Lib.hid hv
    clear hv hR
    go_enter Tryd.func33, Tryd.ntmps33
    go_wp2_with (go_at_call 40; apply Calls.mono; (with_reducible exact valid_re Hv.out (HR.out.grew (by (repeat (first | exact gR _ | refine gO ?_ _ | refine gA ?_ _ | refine gD ?_ | refine gN ?_ _)))) rfl rfl); rintro e w' ⟨rfl, x, rfl⟩)
    go_ret
    exact ⟨by rw [Hf.out]; rfl, by (repeat (first | exact gR _ | refine gO ?_ _ | refine gA ?_ _ | refine gD ?_ | refine gN ?_ _))⟩
  case true =>
    have Hv := Lib.hid hv
    by_cases h1 : d < 0
    · have Hf : Hid (tailF N E A d = -1) := Lib.hid (by unfold tailF; rw [if_neg (by omega)])
      clear hv hR
      go_enter Tryd.func33, Tryd.ntmps33
      go_wp2_with (go_at_call 40; apply Calls.mono; (with_reducible exact valid_re Hv.out (HR.out.grew (by (repeat (first | exact gR _ | refine gO ?_ _ | refine gA ?_ _ | refine gD ?_ | refine gN ?_ _)))) rfl rfl); rintro e w' ⟨rfl, x, rfl⟩)
      go_ret
      exact ⟨by rw [Hf.out]; rfl, by (repeat (first | exact gR _ | refine gO ?_ _ | refine gA ?_ _ | refine gD ?_ | refine gN ?_ _))⟩
    obtain ⟨m, rfl⟩ := Int.eq_ofNat_of_zero_le (by omega : 0 ≤ d)
    clear h1
    by_cases h2 : 2 * E.length ≤ m
    · have Hf : Hid (tailF N E A m = -1) := Lib.hid (by unfold tailF; rw [if_neg (by omega)])
      clear hv hR
      go_enter Tryd.func33, Tryd.ntmps33
      go_wp2_with (go_at_call 40; apply Calls.mono; (with_reducible exact valid_re Hv.out (HR.out.grew (by (repeat (first | exact gR _ | refine gO ?_ _ | refine gA ?_ _ | refine gD ?_ | refine gN ?_ _)))) rfl rfl); rintro e w' ⟨rfl, x, rfl⟩)
      go_ret
      exact ⟨by rw [Hf.out]; rfl, by (repeat (first | exact gR _ | refine gO ?_ _ | refine gA ?_ _ | refine gD ?_ | refine gN ?_ _))⟩
    have hm : m < 2 * E.length := by omega
    have Hf : Hid (tailF N E A m = tailE E m) := Lib.hid (by unfold tailF; rw [if_pos ⟨hv, by omega, by omega⟩])
    have HTl := Lib.hid (fun W1 (hg1 : Grew w W1) => tails_r N pE pA E.length A.length cE cA E W1 (hR.hE.grew hg1) he1 rfl (fun a ha => by
      have hV := vRotB_iff.1 hv
      obtain ⟨t, ht, rfl⟩ := List.getElem_of_mem ha
      have := hV.ed t ht
      have := hV.al
      unfold okEdge at *
      rw [pr_eq E ht] at *
      omega))
    clear h2 hv hR
    go_enter Tryd.func33, Tryd.ntmps33
    go_wp2_with (first
      | (go_at_call 40; apply Calls.mono; (with_reducible exact valid_re Hv.out (HR.out.grew (by (repeat (first | exact gR _ | refine gO ?_ _ | refine gA ?_ _ | refine gD ?_ | refine gN ?_ _)))) rfl rfl); rintro e w' ⟨rfl, x, rfl⟩)
      | (go_at_call 55; apply Calls.mono; (with_reducible exact HTl.out _ (by (repeat (first | exact gR _ | refine gO ?_ _ | refine gA ?_ _ | refine gD ?_ | refine gN ?_ _)))); rintro e w3 ⟨hg3, pT, cT, rfl, hT⟩; obtain ⟨bT, oT, rfl, lT, cT'⟩ := hT.cells (by rw [tailsL_length]; omega); have c1 := cT' w3 (Grew.refl _) m (by rw [tailsL_length]; exact hm); rw [tailsL_get E m hm] at c1; have Hg3 : Hid (Grew w w3) := Lib.hid (Grew.trans (by (repeat (first | exact gR _ | refine gO ?_ _ | refine gA ?_ _ | refine gD ?_ | refine gN ?_ _))) hg3); clear hT hg3 cT'))
    go_ret
    exact ⟨by rw [Hf.out]; rfl, Hg3.out⟩

end Go.Proofs.YtiihgpgpbgafiaaDoor

/- The next dart: what it is; slices.Index; Other. -/
namespace Go.Proofs.YtiihgpgpbgafiaaDoor
open Go.RowKit
attribute [local go_sem ↓] Go.wp_at_zero Go.wp_at_succ

def sucP (A : List (List Int)) : List (Int × Int) := (List.range A.length).flatMap fun v => (List.range (rowOf A v).length).map fun k => (ge (rowOf A v) k, ge (rowOf A v) ((k + 1) % (rowOf A v).length))
/-- The dart behind e in the list that has it. -/
def sucF (A : List (List Int)) (e : Int) : Int := match (sucP A).find? (fun q => q.1 == e) with | some q => q.2 | none => 0
/-- The other dart of the edge. -/
def oth (d : Int) : Int := if d % 2 = 0 then d + 1 else d - 1
theorem oth_oth (d : Int) : oth (oth d) = d := by unfold oth; split <;> split <;> omega
theorem oth_in {d : Int} {M : Nat} (h0 : 0 ≤ d) (h1 : d < 2 * M) : 0 ≤ oth d ∧ oth d < 2 * M := by unfold oth; split <;> omega

theorem range_ge (xs : List Int) : (List.range xs.length).map (fun k => ge xs k) = xs := by
  refine List.ext_getElem (by simp) fun i h1 h2 => ?_
  simp [ge, h2]
theorem sucP_keys (A : List (List Int)) : (sucP A).map (·.1) = (pre A A.length).map (·.2) := by
  unfold sucP pre
  rw [List.map_flatMap, List.map_flatMap]
  congr 1
  funext v
  rw [List.map_map, List.map_map]
  show (List.range (rowOf A v).length).map (fun k => ge (rowOf A v) k) = (rowOf A v).map (fun d => d)
  rw [range_ge, List.map_id']
theorem find_key : ∀ {L : List (Int × Int)} {a b : Int}, (L.map (·.1)).Nodup → (a, b) ∈ L → L.find? (fun q => q.1 == a) = some (a, b)
  | [], _, _, _, h => by cases h
  | q :: L, a, b, hn, h => by
    rw [List.map_cons, List.nodup_cons] at hn
    rcases List.mem_cons.1 h with h | h
    · subst h; simp
    · have hne : q.1 ≠ a := fun e => hn.1 (by rw [e]; exact List.mem_map.2 ⟨_, h, rfl⟩)
      rw [List.find?_cons_of_neg (by simpa using hne)]
      exact find_key hn.2 h
theorem suc_of {N : Int} {E : List (Int × Int)} {A : List (List Int)} (hV : vRot N E A) {v k : Nat} (hv : v < A.length) (hk : k < (rowOf A v).length) : sucF A (ge (rowOf A v) k) = ge (rowOf A v) ((k + 1) % (rowOf A v).length) := by
  have h := find_key (L := sucP A) (a := ge (rowOf A v) k) (b := ge (rowOf A v) ((k + 1) % (rowOf A v).length)) (by rw [sucP_keys]; exact hV.nd)
    (List.mem_flatMap.2 ⟨v, List.mem_range.2 hv, List.mem_map.2 ⟨k, List.mem_range.2 hk, rfl⟩⟩)
  unfold sucF
  rw [h]

theorem mem_pre {A : List (List Int)} {q : Nat × Int} : q ∈ pre A A.length ↔ ∃ k, q.1 < A.length ∧ k < (rowOf A q.1).length ∧ ge (rowOf A q.1) k = q.2 := by
  unfold pre
  rw [List.mem_flatMap]
  constructor
  · rintro ⟨v, hv, hq⟩
    obtain ⟨d, hd, rfl⟩ := List.mem_map.1 hq
    obtain ⟨k, hk, rfl⟩ := List.getElem_of_mem hd
    exact ⟨k, List.mem_range.1 hv, hk, ge_eq _ hk⟩
  · rintro ⟨k, h1, h2, h3⟩
    exact ⟨q.1, List.mem_range.2 h1, List.mem_map.2 ⟨q.2, by rw [← h3]; exact ge_mem h2, rfl⟩⟩
theorem perm_of_nodup {L : List Nat} (hL : L.Nodup) : ∀ {l : List Nat}, l.Nodup → (∀ x ∈ l, x ∈ L) → l.length = L.length → ∀ y ∈ L, y ∈ l := by
  intro l hl hs he y hy
  refine Classical.byContradiction fun hn => ?_
  have h1 : (y :: l).Nodup := List.nodup_cons.2 ⟨hn, hl⟩
  have h2 : ∀ x ∈ y :: l, x ∈ L := fun x hx => (List.mem_cons.1 hx).elim (fun e => e ▸ hy) (hs x)
  have h3 := List.Nodup.length_le_of_subset h1 h2
  rw [List.length_cons] at h3
  omega
/-- Every dart lies in exactly the list of its tail. -/
theorem dart_pos {N : Int} {E : List (Int × Int)} {A : List (List Int)} (hV : vRot N E A) {e : Int} (h0 : 0 ≤ e) (h1 : e < 2 * E.length) : ∃ v k, v < A.length ∧ k < (rowOf A v).length ∧ ge (rowOf A v) k = e ∧ tailE E e = v := by
  have key : ∀ y ∈ List.range (2 * E.length), y ∈ ((pre A A.length).map (·.2)).map Int.toNat := by
    refine perm_of_nodup List.nodup_range ?_ (fun x hx => ?_) (by simp [hV.ln])
    · unfold List.Nodup
      rw [List.pairwise_map]
      refine List.Pairwise.imp_of_mem ?_ hV.nd
      intro a b ha hb hne e
      obtain ⟨q, hq, rfl⟩ := List.mem_map.1 ha
      obtain ⟨r, hr, rfl⟩ := List.mem_map.1 hb
      have := (hV.dr q hq).1
      have := (hV.dr r hr).1
      exact hne (by omega)
    · obtain ⟨a, ha, rfl⟩ := List.mem_map.1 hx
      obtain ⟨q, hq, rfl⟩ := List.mem_map.1 ha
      have h := hV.dr q hq
      have := h.1
      have := h.2.1
      rw [List.mem_range]
      omega
  obtain ⟨a, ha, hae⟩ := List.mem_map.1 (key e.toNat (by rw [List.mem_range]; omega))
  obtain ⟨q, hq, rfl⟩ := List.mem_map.1 ha
  have hd := hV.dr q hq
  have hqe : q.2 = e := by have := hd.1; omega
  obtain ⟨k, hk1, hk2, hk3⟩ := mem_pre.1 hq
  exact ⟨q.1, k, hk1, hk2, by rw [hk3, hqe], by rw [← hqe]; exact hd.2.2⟩
/-- A list of a valid system has no element twice. -/
theorem row_inj {N : Int} {E : List (Int × Int)} {A : List (List Int)} (hV : vRot N E A) {v : Nat} (hv : v < A.length) {i j : Nat} (hij : i < j) (hj : j < (rowOf A v).length) : ge (rowOf A v) i ≠ ge (rowOf A v) j := by
  obtain ⟨r, hr⟩ := preK_split A hv hj
  intro e
  have := hV.nd
  rw [hr, List.map_append, List.nodup_append] at this
  refine this.2.2 (ge (rowOf A v) i) ?_ _ (by simp) e
  unfold preK
  rw [List.map_append, List.map_map]
  refine List.mem_append_right _ (List.mem_map.2 ⟨ge (rowOf A v) i, ?_, rfl⟩)
  rw [List.mem_take_iff_getElem]
  exact ⟨i, by omega, (ge_eq _ (by omega)).symm⟩

theorem other_r (m : Nat) (w : World) (hm : m ≤ 1000000) : Calls Tryd.prog 51 #[.int .i64 m] w fun e w' => e = .returned (.int .i64 (oth m)) ∧ w = w' := by
  by_cases h : (m : Int) % 2 = 0
  · have Hf : Hid (oth m = m + 1) := Lib.hid (by unfold oth; rw [if_pos h])
    have h' : ((m : Int) % 2 == 0) = true := beq_iff_eq.2 h
    clear h
    go_enter Tryd.func51, Tryd.ntmps51
    go_wp2
    go_ret
    exact ⟨by rw [Hf.out]; rfl, rfl⟩
  · have Hf : Hid (oth m = m - 1) := Lib.hid (by unfold oth; rw [if_neg h])
    have h' : ((m : Int) % 2 == 0) = false := beq_eq_false_iff_ne.2 h
    have h1 : 1 ≤ m := by omega
    clear h
    go_enter Tryd.func51, Tryd.ntmps51
    go_wp2
    go_ret
    exact ⟨by rw [Hf.out]; rfl, rfl⟩

end Go.Proofs.YtiihgpgpbgafiaaDoor

/- Follow, and Next of the reference. -/
namespace Go.Proofs.YtiihgpgpbgafiaaDoor
open Go.RowKit
attribute [local go_sem ↓] Go.wp_at_zero Go.wp_at_succ

/-- What is written when the darts of S have been met: at place g e the dart behind e. -/
def folL (A : List (List Int)) (M : Nat) (S : List Int) : List Int := tab M fun e : Nat => if (e : Int) ∈ S then sucF A e else 0
theorem folL_length (A : List (List Int)) (M : Nat) (S : List Int) : (folL A M S).length = M := tab_length _ _
theorem folL_set {A : List (List Int)} {M d : Nat} {S : List Int} (hd : d < M) : (folL A M S).set d (sucF A d) = folL A M (S ++ [(d : Int)]) := by
  unfold folL
  rw [tab_set M _ hd]
  refine tab_congr fun u hu => ?_
  by_cases e : u = d
  · subst e; rw [if_pos rfl, if_pos (List.mem_append_right _ (List.mem_singleton.2 rfl))]
  · rw [if_neg e]
    have : ((u : Int) ∈ S ++ [(d : Int)]) ↔ (u : Int) ∈ S := by
      rw [List.mem_append, List.mem_singleton]
      exact ⟨fun h => h.resolve_right (by omega), Or.inl⟩
    simp only [this]
/-- The list of the darts that come next around a vertex. -/
def folA (A : List (List Int)) (M : Nat) : List Int := tab M fun e : Nat => sucF A e
theorem folL_all {N : Int} {E : List (Int × Int)} {A : List (List Int)} (hV : vRot N E A) : folL A (2 * E.length) ((pre A A.length).map (·.2)) = folA A (2 * E.length) := by
  unfold folL folA
  refine tab_congr fun u hu => if_pos ?_
  obtain ⟨v, k, h1, h2, h3, _⟩ := dart_pos hV (e := (u : Int)) (by omega) (by omega)
  exact List.mem_map.2 ⟨(v, (u : Int)), mem_pre.2 ⟨k, h1, h2, h3⟩, rfl⟩
theorem sucF_in {N : Int} {E : List (Int × Int)} {A : List (List Int)} (hV : vRot N E A) {e : Int} (h0 : 0 ≤ e) (h1 : e < 2 * E.length) : 0 ≤ sucF A e ∧ sucF A e < 2 * E.length := by
  obtain ⟨v, k, hv, hk, he, _⟩ := dart_pos hV h0 h1
  rw [← he, suc_of hV hv hk]
  have hm : (k + 1) % (rowOf A v).length < (rowOf A v).length := Nat.mod_lt _ (by omega)
  have := hV.dr (v, ge (rowOf A v) ((k + 1) % (rowOf A v).length)) (mem_pre.2 ⟨_, hv, hm, rfl⟩)
  exact ⟨this.1, this.2.1⟩

set_option maxRecDepth 8000 in
set_option maxHeartbeats 8000000 in
theorem follow_r (N : Int) (pE pA : Option Addr) (nE nA cE cA : Nat) (E : List (Int × Int)) (A : List (List Int)) (w : World) (hR : RotAt w pE pA E A) (hV : vRot N E A) (hnE : E.length = nE) (hnA : A.length = nA) :
    Calls Tryd.prog 50 #[.agg #[.int .i64 N, .slice pE nE cE, .slice pA nA cA]] w fun e w' => Grew w w' ∧ ∃ q cap, e = .returned (.slice q (2 * E.length) cap) ∧ Ints w' q (folA A (2 * E.length)) ∧ Owns w' w.heap.size [⟨.slice q (2 * E.length) cap, 3, 1, 2 * E.length, intVs (folA A (2 * E.length))⟩] := by
  subst hnE hnA
  have he1 := hR.e1
  have ha1 := hR.a1
  have hN : N = A.length := hV.al.symm
  subst hN
  have HR := Lib.hid hR
  have HL := Lib.hid hR.r1
  have HV := Lib.hid hV
  clear hR hV
  go_enter Tryd.func50, Tryd.ntmps50
  go_wp2_with (refine wp_make_owns rfl _ _ 28 rfl 3 8 (.int .i64 0) Tryd.underlying28 Tryd.infoInt rfl .i64 .i64 _ _ (2 * E.length) rfl rfl (by push_cast; rfl) (by push_cast; rfl) (by omega) (by simp only [maxLen]; omega) (w.heap.size + 1) [] (Owns.nil _ _) (by simp) ?_; intro w4 hO hg4 hs4; have HO4 := Lib.hid hO; have Hg4 := Lib.hid hg4; have hsz4 := hg4.below.size; clear hO hg4)
  simp at hs4 hsz4
  have HwB : Hid (Grew w (w.alloc (.cells #[.int .i64 A.length, .slice pE E.length cE, .slice pA A.length cA] 25))) := Lib.hid ((Grew.refl w).alloc _)
  have Hc0 : Hid ((w.alloc (.cells #[.int .i64 A.length, .slice pE E.length cE, .slice pA A.length cA] 25)).cell? ⟨w.heap.size, 0, none⟩ = some (.int .i64 A.length)) := Lib.hid (by simp [go_sem])
  have Hc2 : Hid ((w.alloc (.cells #[.int .i64 A.length, .slice pE E.length cE, .slice pA A.length cA] 25)).cell? ⟨w.heap.size, 2, none⟩ = some (.slice pA A.length cA)) := Lib.hid (by simp [go_sem])
  have hsB : (w.alloc (.cells #[.int .i64 A.length, .slice pE E.length cE, .slice pA A.length cA] 25)).heap.size = w.heap.size + 1 := by simp
  obtain ⟨wB, hwB⟩ : ∃ wB, w.alloc (.cells #[.int .i64 A.length, .slice pE E.length cE, .slice pA A.length cA] 25) = wB := ⟨_, rfl⟩
  rw [hwB] at Hg4 HwB Hc0 Hc2 hsB HO4
  clear hwB
  have HO5 : Hid (Owns w4 (w.heap.size + 1) [⟨.slice (some ⟨w.heap.size + 1, 0, none⟩) (2 * E.length) (2 * E.length), 3, 1, 2 * E.length, intVs (folL A (2 * E.length) [])⟩]) := Lib.hid (by
    have := HO4.out
    rw [hsB] at this
    have e : folL A (2 * E.length) [] = tab (2 * E.length) (fun _ => 0) := tab_congr fun u hu => if_neg (by simp)
    rw [e, ← intVs_rep]
    exact this)
  clear HO4
  go_loopw [4] (fun i wq => ∃ v : Nat, v ≤ A.length ∧ i = .int .i64 v ∧ Grew wB wq ∧ w4.heap.size ≤ wq.heap.size ∧ Owns wq (w.heap.size + 1) [⟨.slice (some ⟨w.heap.size + 1, 0, none⟩) (2 * E.length) (2 * E.length), 3, 1, 2 * E.length, intVs (folL A (2 * E.length) ((pre A v).map (·.2)))⟩]) (fun i _ => A.length - (intOf i).toNat)
  case atStart => exact ⟨0, Nat.zero_le _, rfl, Hg4.out, Nat.le_refl _, HO5.out⟩
  case round =>
    obtain ⟨v, hv, rfl, hgq, hsq, hOq⟩ := hrel
    have Hgq := Lib.hid hgq
    have HOq := Lib.hid hOq
    have q0 := hgq.cellEq Hc0.out
    have q2 := hgq.cellEq Hc2.out
    have Hwq : Hid (Grew w wr) := Lib.hid (HwB.out.trans hgq)
    clear hgq hOq
    by_cases hlv : v < A.length
    · obtain ⟨bA, oA, rp, rc, rfl, lA, cA'⟩ := HR.out.hA.rows (by omega)
      obtain ⟨a1, _⟩ := cA' wr Hwq.out v hlv
      obtain ⟨_, a2⟩ := cA' w (Grew.refl _) v hlv
      obtain ⟨rv, hrv⟩ : ∃ rv, rp v = rv := ⟨_, rfl⟩
      rw [hrv] at a1 a2
      have Ha2 := Lib.hid a2
      have hrl := HL.out v hlv
      clear cA' a2 hrv
      go_wp2
      clear q0 q2
      go_loopw [6] (fun i wk => ∃ k : Nat, k ≤ (rowOf A v).length ∧ i = .int .i64 k ∧ Grew wB wk ∧ wr.heap.size ≤ wk.heap.size ∧ Owns wk (w.heap.size + 1) [⟨.slice (some ⟨w.heap.size + 1, 0, none⟩) (2 * E.length) (2 * E.length), 3, 1, 2 * E.length, intVs (folL A (2 * E.length) ((preK A v k).map (·.2)))⟩]) (fun i _ => (rowOf A v).length - (intOf i).toNat)
      case atStart => exact ⟨0, Nat.zero_le _, rfl, Hgq.out, Nat.le_refl _, by rw [preK_zero]; exact HOq.out⟩
      case round =>
        obtain ⟨k, hk, rfl, hgk, hgr, hOk⟩ := hrel
        have Hgk := Lib.hid hgk
        have HOk := Lib.hid hOk
        have Hwk : Hid (Grew w wr) := Lib.hid (HwB.out.trans hgk)
        clear hgk hOk
        by_cases hlk : k < (rowOf A v).length
        · obtain ⟨bR, oR, rfl, lR, cR⟩ := Ha2.out.cells (by omega)
          obtain ⟨j2, hj2⟩ : ∃ j2, (k + 1) % (rowOf A v).length = j2 := ⟨_, rfl⟩
          have hj2l : j2 < (rowOf A v).length := by rw [← hj2]; exact Nat.mod_lt _ (by omega)
          have e1 := cR wr Hwk.out k hlk
          have e2 := cR wr Hwk.out j2 hj2l
          have hem : ((k : Int) + 1) % ((rowOf A v).length : Int) = (j2 : Int) := by rw [← hj2]; push_cast; rfl
          have het : ((k : Int) + 1).tmod ((rowOf A v).length : Int) = (j2 : Int) := by rw [Int.tmod_eq_emod_of_nonneg (by omega)]; exact hem
          have hln0 : ¬ rowOf A v = [] := fun e => by rw [e] at hlk; simp at hlk
          have hwk1 : IntKind.i64.wrap ((k : Int) + 1) = (k : Int) + 1 := IntWalk.i64_in _ ⟨by omega, by omega⟩
          have hok := HV.out.dr (v, ge (rowOf A v) k) (mem_pre.2 ⟨k, hlv, hlk, rfl⟩)
          obtain ⟨m, hm0⟩ : ∃ m : Nat, ge (rowOf A v) k = (m : Int) := ⟨(ge (rowOf A v) k).toNat, by have := hok.1; dsimp only at this; omega⟩
          have hm : m < 2 * E.length := by have := hok.2.1; dsimp only at this; omega
          have hmi : (m : Int) < 2 * (E.length : Int) := by omega
          have hsuc := suc_of HV.out hlv hlk
          rw [hm0, hj2] at hsuc
          rw [hm0] at e1
          rw [← hsuc] at e2
          obtain ⟨gM, cM, eM, _, kM, _, _, nM, mM⟩ := HOk.out.some (k := 0) rfl (by omega)
          cases eM
          have x1 := mM m _ (intVs_get _ (by rw [folL_length]; exact hm))
          have x2 := nM m
          have Hn := Lib.hid (preK_succ A v hlk)
          have Hm0 := Lib.hid hm0
          clear cR hok hm0 hsuc nM mM hj2
          go_upto_region 9 with fail
          refine wp_region_T (s := 14) (S := fun w' => w'.cell? ⟨bR, oR + k, none⟩ = some (.int .i64 m) ∧ w'.cell? ⟨bR, oR + j2, none⟩ = some (.int .i64 (sucF A m))) (by kernel_rfl) ⟨e1, e2⟩ (fun hH => ?_)
          refine wpAnyT_takeL (i := 0) (v := ?_) rfl (by kernel_rfl) (by kernel_rfl) (by kernel_rfl) (by kernel_rfl) (fun _ _ _ h => h) (Or.inl ⟨by rfl, ?_⟩) (by assumption) ?_
          rotate_left
          · (intro w hSw; (try dsimp only at hSw); go_simp; (try with_reducible rfl))
          (try simp only [Act.put, List.setIfInBounds_toArray, List.set_cons_zero, List.set_cons_succ])
          refine wpAnyT_takeL (i := 1) (v := ?_) rfl (by kernel_rfl) (by kernel_rfl) (by kernel_rfl) (by kernel_rfl) (fun _ _ _ h => h) (Or.inl ⟨by rfl, ?_⟩) (by assumption) ?_
          rotate_left
          · (intro w hSw; (try dsimp only at hSw); go_simp; (try with_reducible rfl))
          (try simp only [Act.put, List.setIfInBounds_toArray, List.set_cons_zero, List.set_cons_succ])
          refine wpAnyT_takeL (i := 2) (v := ?_) rfl (by kernel_rfl) (by kernel_rfl) (by kernel_rfl) (by kernel_rfl) (fun _ _ _ h => h) (Or.inl ⟨by rfl, ?_⟩) (by assumption) ?_
          rotate_left
          · (intro w hSw; (try dsimp only at hSw); go_simp; (try with_reducible rfl))
          (try simp only [Act.put, List.setIfInBounds_toArray, List.set_cons_zero, List.set_cons_succ])
          refine wpAnyT_takeL (i := 3) (v := ?_) rfl (by kernel_rfl) (by kernel_rfl) (by kernel_rfl) (by kernel_rfl) (fun _ _ _ h => h) (Or.inl ⟨by rfl, ?_⟩) (by assumption) ?_
          rotate_left
          · (intro w hSw; (try dsimp only at hSw); go_simp; (try with_reducible rfl))
          (try simp only [Act.put, List.setIfInBounds_toArray, List.set_cons_zero, List.set_cons_succ])
          refine wpAnyT_takeL (i := 4) (v := ?_) rfl (by kernel_rfl) (by kernel_rfl) (by kernel_rfl) (by kernel_rfl) (fun _ _ _ h => h) (Or.inl ⟨by rfl, ?_⟩) (by assumption) ?_
          rotate_left
          · (intro w hSw; (try dsimp only at hSw); go_simp; (try with_reducible rfl))
          (try simp only [Act.put, List.setIfInBounds_toArray, List.set_cons_zero, List.set_cons_succ])
          refine wpAnyT_takeL (i := 5) (v := ?_) rfl (by kernel_rfl) (by kernel_rfl) (by kernel_rfl) (by kernel_rfl) (fun _ _ _ h => h) (Or.inl ⟨by rfl, ?_⟩) (by assumption) ?_
          rotate_left
          · (intro w hSw; (try dsimp only at hSw); go_simp; (try with_reducible rfl))
          (try simp only [Act.put, List.setIfInBounds_toArray, List.set_cons_zero, List.set_cons_succ])
          refine wpAnyT_takeL (i := 6) (v := ?_) rfl (by kernel_rfl) (by kernel_rfl) (by kernel_rfl) (by kernel_rfl) (fun _ _ _ h => h) (Or.inl ⟨by rfl, ?_⟩) (by assumption) ?_
          rotate_left
          · (intro w hSw; (try dsimp only at hSw); go_simp; (try with_reducible rfl))
          (try simp only [Act.put, List.setIfInBounds_toArray, List.set_cons_zero, List.set_cons_succ])
          refine wpAnyT_takeL (i := 7) (v := ?_) rfl (by kernel_rfl) (by kernel_rfl) (by kernel_rfl) (by kernel_rfl) (fun _ _ _ h => h) (Or.inl ⟨by rfl, ?_⟩) (by assumption) ?_
          rotate_left
          · (intro w hSw; (try dsimp only at hSw); go_simp; (try with_reducible rfl))
          (try simp only [Act.put, List.setIfInBounds_toArray, List.set_cons_zero, List.set_cons_succ])
          refine wpAnyT_takeL (i := 8) (v := ?_) rfl (by kernel_rfl) (by kernel_rfl) (by kernel_rfl) (by kernel_rfl) (fun _ _ _ h => h) (Or.inl ⟨by rfl, ?_⟩) (by assumption) ?_
          rotate_left
          · (intro w hSw; (try dsimp only at hSw); go_simp; (try with_reducible rfl))
          (try simp only [Act.put, List.setIfInBounds_toArray, List.set_cons_zero, List.set_cons_succ])
          refine wpAnyT_takeL (i := 9) (v := ?_) rfl (by kernel_rfl) (by kernel_rfl) (by kernel_rfl) (by kernel_rfl) (fun _ _ _ h => h) (Or.inl ⟨by rfl, ?_⟩) (by assumption) ?_
          rotate_left
          · (intro w hSw; (try dsimp only at hSw); go_simp; (try with_reducible rfl))
          (try simp only [Act.put, List.setIfInBounds_toArray, List.set_cons_zero, List.set_cons_succ])
          refine wpAnyT_takeL (i := 10) (v := ?_) rfl (by kernel_rfl) (by kernel_rfl) (by kernel_rfl) (by kernel_rfl) (fun _ _ _ h => h) (Or.inl ⟨by rfl, ?_⟩) (by assumption) ?_
          rotate_left
          · (intro w hSw; (try dsimp only at hSw); go_simp; (try with_reducible rfl))
          (try simp only [Act.put, List.setIfInBounds_toArray, List.set_cons_zero, List.set_cons_succ])
          refine wpAnyT_takeL (i := 11) (v := ?_) rfl (by kernel_rfl) (by kernel_rfl) (by kernel_rfl) (by kernel_rfl) (fun _ _ _ h => h) (Or.inl ⟨by rfl, ?_⟩) (by assumption) ?_
          rotate_left
          · (intro w hSw; (try dsimp only at hSw); go_simp; (try with_reducible rfl))
          (try simp only [Act.put, List.setIfInBounds_toArray, List.set_cons_zero, List.set_cons_succ])
          refine wpAnyT_takeL (i := 12) (v := ?_) rfl (by kernel_rfl) (by kernel_rfl) (by kernel_rfl) (by kernel_rfl) (fun _ _ _ h => h) (Or.inl ⟨by rfl, ?_⟩) (by assumption) ?_
          rotate_left
          · (intro w hSw; (try dsimp only at hSw); go_simp; (try with_reducible rfl))
          (try simp only [Act.put, List.setIfInBounds_toArray, List.set_cons_zero, List.set_cons_succ])
          refine wpAnyT_takeL (i := 13) (v := ?_) rfl (by kernel_rfl) (by kernel_rfl) (by kernel_rfl) (by kernel_rfl) (fun _ _ _ h => h) (Or.inl ⟨by rfl, ?_⟩) (by assumption) ?_
          rotate_left
          · (intro w hSw; (try dsimp only at hSw); go_simp; (try with_reducible rfl))
          (try simp only [Act.put, List.setIfInBounds_toArray, List.set_cons_zero, List.set_cons_succ])
          refine wpAnyT_all (rs := [14]) (by kernel_rfl) (by simp) (AllT.lastL rfl (fun K hK => ?_))
          go_simp
          refine hK.out _ _ ?_
          clear hK K
          (try simp only [Act.put, List.setIfInBounds_toArray, List.set_cons_zero, List.set_cons_succ])
          refine wpAnyT_done (by kernel_rfl) ?_ _
          go_wp2
          go_roundw
          case rel =>
            have hmap : (preK A v (k + 1)).map (·.2) = (preK A v k).map (·.2) ++ [(m : Int)] := by rw [Hn.out, List.map_append, Hm0.out]; rfl
            have h1 := (HOk.out.grew (Grew.drew (Grew.refl wr))).set (k := 0) rfl m (.int .i64 (sucF A m))
            rw [intVs_set, folL_set hm] at h1
            refine ⟨k + 1, by omega, by go_num, (Hgk.out.trans (Grew.drew (Grew.refl wr))).setCell (show wB.heap.size ≤ w.heap.size + 1 by omega) _, by simp; omega, ?_⟩
            rw [hmap]
            exact h1
          case measure => simp [intOf]; omega
        · have hke : k = (rowOf A v).length := by omega
          have Hp : Hid (preK A v k = pre A (v + 1)) := Lib.hid (by rw [hke, preK_all])
          go_wp2
          go_roundw
          case rel => exact ⟨v + 1, by omega, by go_num, Hgk.out, by omega, by rw [← Hp.out]; exact HOk.out⟩
          case measure => simp [intOf]; omega
    · have hve : v = A.length := by omega
      subst hve
      go_wp2
      go_ret
      have h := HOq.out
      rw [folL_all HV.out] at h
      obtain ⟨p', cap', e, h2, _⟩ := h.ints (k := 0) rfl (tab_length _ _) (fun x hx => by
        obtain ⟨u, hu, rfl⟩ := List.mem_map.1 hx
        have := sucF_in HV.out (e := (u : Int)) (by omega) (by have := List.mem_range.1 hu; omega)
        omega)
      cases e
      exact ⟨Hwq.out, _, _, rfl, h2, h.base (by omega)⟩

end Go.Proofs.YtiihgpgpbgafiaaDoor

/- Next. -/
namespace Go.Proofs.YtiihgpgpbgafiaaDoor
open Go.RowKit
attribute [local go_sem ↓] Go.wp_at_zero Go.wp_at_succ

theorem xor_small : ∀ m : Nat, m < 200 → bits BinOp.xor IntKind.i64 (m : Int) 1 = oth m := by decide +kernel
theorem xor_two : ∀ m : Nat, m < 200 → bits BinOp.xor IntKind.i64 ((m : Int) % 2) 1 = oth m % 2 := by decide +kernel
end Go.Proofs.YtiihgpgpbgafiaaDoor

/- follow of the program. -/
namespace Go.Proofs.YtiihgpgpbgafiaaDoor
open Go.RowKit
attribute [local go_sem ↓] Go.wp_at_zero Go.wp_at_succ

/-- The dart that comes next on the face. -/
def nxF (A : List (List Int)) (x : Int) : Int := sucF A (oth x)
def fopL (A : List (List Int)) (M : Nat) (S : List Int) : List Int := tab M fun e : Nat => if oth e ∈ S then nxF A e else 0
theorem fopL_length (A : List (List Int)) (M : Nat) (S : List Int) : (fopL A M S).length = M := tab_length _ _
theorem fopL_set {A : List (List Int)} {M o : Nat} {d : Int} {S : List Int} (ho : o < M) (hd : oth d = (o : Int)) : (fopL A M S).set o (sucF A d) = fopL A M (S ++ [d]) := by
  have hd2 : oth (o : Int) = d := by rw [← hd, oth_oth]
  unfold fopL
  rw [tab_set M _ ho]
  refine tab_congr fun u hu => ?_
  by_cases e : u = o
  · subst e
    rw [if_pos rfl, hd2, if_pos (List.mem_append_right _ (List.mem_singleton.2 rfl)), nxF, hd2]
  · rw [if_neg e]
    have : (oth (u : Int) ∈ S ++ [d]) ↔ oth (u : Int) ∈ S := by
      rw [List.mem_append, List.mem_singleton]
      refine ⟨fun h => h.resolve_right (fun h => e ?_), Or.inl⟩
      have := congrArg oth h
      rw [oth_oth, hd] at this
      omega
    simp only [this]
/-- The list of the darts that come next on the faces. -/
def nxL (A : List (List Int)) (M : Nat) : List Int := tab M fun e : Nat => nxF A e
theorem fopL_all {N : Int} {E : List (Int × Int)} {A : List (List Int)} (hV : vRot N E A) : fopL A (2 * E.length) ((pre A A.length).map (·.2)) = nxL A (2 * E.length) := by
  unfold fopL nxL
  refine tab_congr fun u hu => if_pos ?_
  obtain ⟨h0, h1⟩ := oth_in (d := (u : Int)) (M := E.length) (by omega) (by omega)
  obtain ⟨v, k, h1, h2, h3, _⟩ := dart_pos hV h0 h1
  exact List.mem_map.2 ⟨(v, oth u), mem_pre.2 ⟨k, h1, h2, h3⟩, rfl⟩
theorem nxF_in {N : Int} {E : List (Int × Int)} {A : List (List Int)} (hV : vRot N E A) {e : Int} (h0 : 0 ≤ e) (h1 : e < 2 * E.length) : 0 ≤ nxF A e ∧ nxF A e < 2 * E.length := by
  obtain ⟨h2, h3⟩ := oth_in (d := e) (M := E.length) h0 h1
  exact sucF_in hV h2 h3

set_option maxRecDepth 8000 in
set_option maxHeartbeats 8000000 in
theorem follow_p (N : Int) (pE pA : Option Addr) (nE nA cE cA : Nat) (E : List (Int × Int)) (A : List (List Int)) (w : World) (hR : RotAt w pE pA E A) (hV : vRot N E A) (hnE : E.length = nE) (hnA : A.length = nA) :
    Calls Tryd.prog 54 #[.agg #[.int .i64 N, .slice pE nE cE, .slice pA nA cA]] w fun e w' => Grew w w' ∧ ∃ q cap, e = .returned (.slice q (2 * E.length) cap) ∧ Ints w' q (nxL A (2 * E.length)) := by
  subst hnE hnA
  have he1 := hR.e1
  have ha1 := hR.a1
  have hN : N = A.length := hV.al.symm
  subst hN
  have HR := Lib.hid hR
  have HL := Lib.hid hR.r1
  have HV := Lib.hid hV
  clear hR hV
  go_enter Tryd.func54, Tryd.ntmps54
  go_wp2_with (refine wp_make_owns rfl _ _ 28 rfl 3 8 (.int .i64 0) Tryd.underlying28 Tryd.infoInt rfl .i64 .i64 _ _ (2 * E.length) rfl rfl (by push_cast; rfl) (by push_cast; rfl) (by omega) (by simp only [maxLen]; omega) (w.heap.size + 1) [] (Owns.nil _ _) (by simp) ?_; intro w4 hO hg4 hs4; have HO4 := Lib.hid hO; have Hg4 := Lib.hid hg4; have hsz4 := hg4.below.size; have b2 := hg4.cellEq (b := w.heap.size) (i := 2) (v := .slice pA A.length cA) (by first | (go_simp; done) | (simp [go_sem, ↓IntWalk.iteOmega, *]; done)); clear hO hg4)
  simp at hs4 hsz4
  have HwB : Hid (Grew w (w.alloc (.cells #[.int .i64 A.length, .slice pE E.length cE, .slice pA A.length cA] 25))) := Lib.hid ((Grew.refl w).alloc _)
  have Hc0 : Hid ((w.alloc (.cells #[.int .i64 A.length, .slice pE E.length cE, .slice pA A.length cA] 25)).cell? ⟨w.heap.size, 0, none⟩ = some (.int .i64 A.length)) := Lib.hid (by simp [go_sem])
  have Hc2 : Hid ((w.alloc (.cells #[.int .i64 A.length, .slice pE E.length cE, .slice pA A.length cA] 25)).cell? ⟨w.heap.size, 2, none⟩ = some (.slice pA A.length cA)) := Lib.hid (by simp [go_sem])
  have hsB : (w.alloc (.cells #[.int .i64 A.length, .slice pE E.length cE, .slice pA A.length cA] 25)).heap.size = w.heap.size + 1 := by simp
  obtain ⟨wB, hwB⟩ : ∃ wB, w.alloc (.cells #[.int .i64 A.length, .slice pE E.length cE, .slice pA A.length cA] 25) = wB := ⟨_, rfl⟩
  rw [hwB] at Hg4 HwB Hc0 Hc2 hsB HO4
  clear hwB
  have HO5 : Hid (Owns w4 (w.heap.size + 1) [⟨.slice (some ⟨w.heap.size + 1, 0, none⟩) (2 * E.length) (2 * E.length), 3, 1, 2 * E.length, intVs (fopL A (2 * E.length) [])⟩]) := Lib.hid (by
    have := HO4.out
    rw [hsB] at this
    have e : fopL A (2 * E.length) [] = tab (2 * E.length) (fun _ => 0) := tab_congr fun u hu => if_neg (by simp)
    rw [e, ← intVs_rep]
    exact this)
  clear HO4
  go_loopw [16] (fun i wq => ∃ v : Nat, v ≤ A.length ∧ i = .int .i64 v ∧ Grew wB wq ∧ w4.heap.size ≤ wq.heap.size ∧ Owns wq (w.heap.size + 1) [⟨.slice (some ⟨w.heap.size + 1, 0, none⟩) (2 * E.length) (2 * E.length), 3, 1, 2 * E.length, intVs (fopL A (2 * E.length) ((pre A v).map (·.2)))⟩]) (fun i _ => A.length - (intOf i).toNat)
  case atStart => exact ⟨0, Nat.zero_le _, rfl, Hg4.out, Nat.le_refl _, HO5.out⟩
  case round =>
    obtain ⟨v, hv, rfl, hgq, hsq, hOq⟩ := hrel
    have Hgq := Lib.hid hgq
    have HOq := Lib.hid hOq
    have q0 := hgq.cellEq Hc0.out
    have q2 := hgq.cellEq Hc2.out
    have Hwq : Hid (Grew w wr) := Lib.hid (HwB.out.trans hgq)
    clear hgq hOq
    by_cases hlv : v < A.length
    · obtain ⟨bA, oA, rp, rc, rfl, lA, cA'⟩ := HR.out.hA.rows (by omega)
      obtain ⟨a1, _⟩ := cA' wr Hwq.out v hlv
      obtain ⟨_, a2⟩ := cA' w (Grew.refl _) v hlv
      obtain ⟨rv, hrv⟩ : ∃ rv, rp v = rv := ⟨_, rfl⟩
      rw [hrv] at a1 a2
      have Ha2 := Lib.hid a2
      have hrl := HL.out v hlv
      clear cA' a2 hrv
      go_wp2
      clear q0 q2
      go_loopw [22] (fun i wk => ∃ k : Nat, k ≤ (rowOf A v).length ∧ i = .int .i64 k ∧ Grew wB wk ∧ wr.heap.size ≤ wk.heap.size ∧ Owns wk (w.heap.size + 1) [⟨.slice (some ⟨w.heap.size + 1, 0, none⟩) (2 * E.length) (2 * E.length), 3, 1, 2 * E.length, intVs (fopL A (2 * E.length) ((preK A v k).map (·.2)))⟩]) (fun i _ => (rowOf A v).length - (intOf i).toNat)
      case atStart => exact ⟨0, Nat.zero_le _, rfl, Hgq.out, Nat.le_refl _, by rw [preK_zero]; exact HOq.out⟩
      case round =>
        obtain ⟨k, hk, rfl, hgk, hgr, hOk⟩ := hrel
        have Hgk := Lib.hid hgk
        have HOk := Lib.hid hOk
        have Hwk : Hid (Grew w wr) := Lib.hid (HwB.out.trans hgk)
        clear hgk hOk
        by_cases hlk : k < (rowOf A v).length
        · obtain ⟨bR, oR, rfl, lR, cR⟩ := Ha2.out.cells (by omega)
          obtain ⟨j2, hj2⟩ : ∃ j2, (k + 1) % (rowOf A v).length = j2 := ⟨_, rfl⟩
          have hj2l : j2 < (rowOf A v).length := by rw [← hj2]; exact Nat.mod_lt _ (by omega)
          have e1 := cR wr Hwk.out k hlk
          have e2 := cR wr Hwk.out j2 hj2l
          have hem : ((k : Int) + 1) % ((rowOf A v).length : Int) = (j2 : Int) := by rw [← hj2]; push_cast; rfl
          have het : ((k : Int) + 1).tmod ((rowOf A v).length : Int) = (j2 : Int) := by rw [Int.tmod_eq_emod_of_nonneg (by omega)]; exact hem
          have hln0 : ¬ rowOf A v = [] := fun e => by rw [e] at hlk; simp at hlk
          have hwk1 : IntKind.i64.wrap ((k : Int) + 1) = (k : Int) + 1 := IntWalk.i64_in _ ⟨by omega, by omega⟩
          have hok := HV.out.dr (v, ge (rowOf A v) k) (mem_pre.2 ⟨k, hlv, hlk, rfl⟩)
          obtain ⟨m, hm0⟩ : ∃ m : Nat, ge (rowOf A v) k = (m : Int) := ⟨(ge (rowOf A v) k).toNat, by have := hok.1; dsimp only at this; omega⟩
          have hm : m < 2 * E.length := by have := hok.2.1; dsimp only at this; omega
          have hmi : (m : Int) < 2 * (E.length : Int) := by omega
          have hsuc := suc_of HV.out hlv hlk
          rw [hm0, hj2] at hsuc
          rw [hm0] at e1
          rw [← hsuc] at e2
          obtain ⟨gM, cM, eM, _, kM, _, _, nM, mM⟩ := HOk.out.some (k := 0) rfl (by omega)
          cases eM
          obtain ⟨ho1, ho2⟩ := oth_in (d := (m : Int)) (M := E.length) (by omega) (by omega)
          obtain ⟨o, hoe⟩ : ∃ o : Nat, oth m = (o : Int) := ⟨(oth m).toNat, by omega⟩
          have hol : o < 2 * E.length := by omega
          have hoi : (o : Int) < 2 * (E.length : Int) := by omega
          have hx2 : bits BinOp.xor IntKind.i64 (m : Int) 1 = (o : Int) := by rw [← hoe]; exact xor_small m (by omega)
          have x1 := mM o _ (intVs_get _ (by rw [fopL_length]; exact hol))
          have x2 := nM o
          have Hoe := Lib.hid hoe
          clear ho1 ho2 hoe
          have Hn := Lib.hid (preK_succ A v hlk)
          have Hm0 := Lib.hid hm0
          clear cR hok hm0 hsuc nM mM hj2
          go_wp2
          go_roundw
          case rel =>
            have hmap : (preK A v (k + 1)).map (·.2) = (preK A v k).map (·.2) ++ [(m : Int)] := by rw [Hn.out, List.map_append, Hm0.out]; rfl
            have h1 := HOk.out.set (k := 0) rfl o (.int .i64 (sucF A m))
            rw [intVs_set, fopL_set hol Hoe.out] at h1
            refine ⟨k + 1, by omega, by go_num, Hgk.out.setCell (show wB.heap.size ≤ w.heap.size + 1 by omega) _, by simp; omega, ?_⟩
            rw [hmap]
            exact h1
          case measure => simp [intOf]; omega
        · have hke : k = (rowOf A v).length := by omega
          have Hp : Hid (preK A v k = pre A (v + 1)) := Lib.hid (by rw [hke, preK_all])
          go_wp2
          go_roundw
          case rel => exact ⟨v + 1, by omega, by go_num, Hgk.out, by omega, by rw [← Hp.out]; exact HOk.out⟩
          case measure => simp [intOf]; omega
    · have hve : v = A.length := by omega
      subst hve
      go_wp2
      go_ret
      have h := HOq.out
      rw [fopL_all HV.out] at h
      obtain ⟨p', cap', e, h2, _⟩ := h.ints (k := 0) rfl (tab_length _ _) (fun x hx => by
        obtain ⟨u, hu, rfl⟩ := List.mem_map.1 hx
        have := nxF_in HV.out (e := (u : Int)) (by omega) (by have := List.mem_range.1 hu; omega)
        omega)
      cases e
      exact ⟨Hwq.out, _, _, rfl, h2⟩

end Go.Proofs.YtiihgpgpbgafiaaDoor

/- Faces of the program. -/
namespace Go.Proofs.YtiihgpgpbgafiaaDoor
open Go.RowKit
attribute [local go_sem ↓] Go.wp_at_zero Go.wp_at_succ

/-- The face that begins at x, S having been met: at most n darts. -/
def faceN (f : Int → Int) : Nat → List Int → Int → List Int
  | 0, _, _ => []
  | n + 1, S, x => if x ∈ S then [] else x :: faceN f n (S ++ [x]) (f x)
/-- What has been met, and the faces, when the first d darts have been asked. -/
def facesN (f : Int → Int) (M : Nat) : Nat → List Int × List (List Int)
  | 0 => ([], [])
  | d + 1 => ((facesN f M d).1 ++ faceN f M (facesN f M d).1 d, if faceN f M (facesN f M d).1 d = [] then (facesN f M d).2 else (facesN f M d).2 ++ [faceN f M (facesN f M d).1 d])
def facesF (A : List (List Int)) (M : Nat) : List (List Int) := (facesN (nxF A) M M).2

/-- The darts met are darts, none twice. -/
def Met (M : Nat) (S : List Int) : Prop := S.Nodup ∧ ∀ x ∈ S, 0 ≤ x ∧ x < M
theorem Met.snoc {M : Nat} {S : List Int} {x : Int} (h : Met M S) (h0 : 0 ≤ x) (h1 : x < M) (hn : x ∉ S) : Met M (S ++ [x]) := by
  refine ⟨?_, fun y hy => ?_⟩
  · rw [List.nodup_append]
    refine ⟨h.1, by simp, fun a ha b hb => ?_⟩
    rw [List.mem_singleton.1 hb]
    exact fun e => hn (e ▸ ha)
  · rcases List.mem_append.1 hy with hy | hy
    · exact h.2 y hy
    · rw [List.mem_singleton.1 hy]; exact ⟨h0, h1⟩
theorem Met.len {M : Nat} {S : List Int} (h : Met M S) : S.length ≤ M := by
  have h2 : ∀ x ∈ S, x ∈ (List.range M).map Int.ofNat := fun x hx => by
    have := h.2 x hx
    exact List.mem_map.2 ⟨x.toNat, List.mem_range.2 (by omega), by simp; omega⟩
  have := List.Nodup.length_le_of_subset h.1 h2
  simpa using this
/-- The darts of a face are darts, and none of them has been met before. -/
theorem faceN_met {M : Nat} {f : Int → Int} (hf : ∀ x : Int, 0 ≤ x → x < M → 0 ≤ f x ∧ f x < M) : ∀ (n : Nat) (S : List Int) (x : Int), Met M S → 0 ≤ x → x < M → Met M (S ++ faceN f n S x)
  | 0, S, x, h, _, _ => by simpa [faceN] using h
  | n + 1, S, x, h, h0, h1 => by
    rw [faceN]
    by_cases hx : x ∈ S
    · rw [if_pos hx]; simpa using h
    · rw [if_neg hx]
      have := faceN_met hf n (S ++ [x]) (f x) (h.snoc h0 h1 hx) (hf x h0 h1).1 (hf x h0 h1).2
      rw [List.append_assoc] at this
      exact this
theorem facesN_met {M : Nat} {f : Int → Int} (hf : ∀ x : Int, 0 ≤ x → x < M → 0 ≤ f x ∧ f x < M) : ∀ d, d ≤ M → Met M (facesN f M d).1
  | 0, _ => ⟨List.nodup_nil, fun _ h => by cases h⟩
  | d + 1, h => faceN_met hf M _ _ (facesN_met hf d (by omega)) (by omega) (by omega)
theorem facesN_in {M : Nat} {f : Int → Int} : ∀ d, ∀ l ∈ (facesN f M d).2, ∀ x ∈ l, x ∈ (facesN f M d).1
  | 0, l, h => by cases h
  | d + 1, l, h => fun x hx => by
    have ih := facesN_in (M := M) (f := f) d
    simp only [facesN] at h ⊢
    split at h
    · exact List.mem_append_left _ (ih l h x hx)
    · rcases List.mem_append.1 h with h | h
      · exact List.mem_append_left _ (ih l h x hx)
      · rw [List.mem_singleton.1 h] at hx
        exact List.mem_append_right _ hx
theorem facesN_len {M : Nat} {f : Int → Int} : ∀ d, (facesN f M d).2.length ≤ d
  | 0 => Nat.le_refl _
  | d + 1 => by
    have := facesN_len (M := M) (f := f) d
    simp only [facesN]
    split
    · omega
    · rw [List.length_append]; simp; omega

def matRow (v : Value) (xs : List Int) : Row := ⟨v, 3, 1, xs.length, intVs xs⟩
def matRows (vals : List Value) (m : List (List Int)) : List Row := List.zipWith matRow vals m
theorem matRows_snoc {vals : List Value} {m : List (List Int)} (hl : vals.length = m.length) (v : Value) (xs : List Int) : matRows (vals ++ [v]) (m ++ [xs]) = matRows vals m ++ [matRow v xs] := by
  unfold matRows
  rw [List.zipWith_append hl]
  rfl
theorem matRows_get {vals : List Value} {m : List (List Int)} (hl : vals.length = m.length) {u : Nat} (hu : u < m.length) : (matRows vals m)[u]? = some (matRow (vals[u]'(by omega)) (rowOf m u)) := by
  unfold matRows
  rw [List.getElem?_zipWith, List.getElem?_eq_getElem (by omega), List.getElem?_eq_getElem hu, rowOf_eq m hu]
/-- A matrix of the call's own, read. -/
theorem mat_of_owns {w : World} {B : Nat} {v : Value} {vals : List Value} {m : List (List Int)} {rs : List Row} (hl : vals.length = m.length) (hb : ∀ l ∈ m, ∀ x ∈ l, -9223372036854775808 ≤ x ∧ x ≤ 9223372036854775807)
    (hO : Owns w B (⟨v, 28, 1, m.length, vals⟩ :: (matRows vals m ++ rs))) : ∃ q cap, v = .slice q m.length cap ∧ Mat w q m := by
  have hm : m.length ≤ 9223372036854775807 := by
    obtain ⟨_, _, _, _, h1, h2, _⟩ := hO.form (k := 0) rfl
    simp only [maxLen] at h2
    omega
  rcases (hO.get (k := 0) rfl).2 with ⟨rfl, h0⟩ | ⟨g, cap, rfl, hB, hg, hle, hmx, _, hc⟩
  · have : m = [] := List.length_eq_zero_iff.1 h0
    subst this
    exact ⟨none, 0, rfl, by simp, 0, 0, fun _ => none, fun _ => 0, fun h => by simp at h, fun u hu => by simp at hu⟩
  · refine ⟨some ⟨g, 0, none⟩, cap, rfl, hm, ?_⟩
    have key : ∀ u, ∃ pc : Option Addr × Nat, u < m.length → w.cell? ⟨g, 0 + u, none⟩ = some (.slice pc.1 (rowOf m u).length pc.2) ∧ Ints w pc.1 (rowOf m u) := by
      intro u
      by_cases hu : u < m.length
      · have hr : (⟨.slice (some ⟨g, 0, none⟩) m.length cap, 28, 1, m.length, vals⟩ :: (matRows vals m ++ rs) : List Row)[u + 1]? = some ⟨vals[u]'(by omega), 3, 1, (rowOf m u).length, intVs (rowOf m u)⟩ := by
          rw [List.getElem?_cons_succ, List.getElem?_append_left (by unfold matRows; rw [List.length_zipWith]; omega), matRows_get hl hu]
          rfl
        obtain ⟨p', c', e, h2, _⟩ := hO.ints hr rfl (fun x hx => hb (rowOf m u) (by rw [rowOf_eq m hu]; exact List.getElem_mem hu) x hx)
        refine ⟨(p', c'), fun _ => ⟨?_, h2⟩⟩
        have := hc u (vals[u]'(by omega)) (List.getElem?_eq_getElem (by omega))
        rw [Nat.zero_add, this, e]
      · exact ⟨(none, 0), fun h => absurd h hu⟩
    exact ⟨g, 0, fun u => (Classical.choose (key u)).1, fun u => (Classical.choose (key u)).2, fun _ => ⟨rfl, hg⟩, fun u hu => Classical.choose_spec (key u) hu⟩

theorem Tryd.infoInts : (Tryd.prog.info? 28).map (fun i => (i.zero, i.size, i.bytes)) = some (some (.slice none 0 0), 1, 24) := by kernel_rfl
def lenOf : Value → Nat
  | .slice _ n _ => n
  | _ => 0

end Go.Proofs.YtiihgpgpbgafiaaDoor
