/- A region that draws its order: one walk in the order of the text serves every order, where each operation yields one value and leads from the class of worlds of what was done before to that of what is done then. -/
import Derived.Test.YtdacnkjmimhcaaaDoorBase
import Derived.StillTail
namespace Go.Proofs.YtdacnkjmimhcaaaDoor
open Go.RowKit

def upIn (P : Program) (D : World → Prop) (v : Value) : Result Next → Prop
  | .ok (.value u) w' => u = v ∧ D w'
  | .ok .skip w' => v = undef ∧ D w'
  | .ok (.enter f args) w' => Calls P f args w' fun e w'' => e = .returned v ∧ D w''
  | _ => False

/-- What has been done, with one operation more. -/
def mark (d : Nat → Bool) (k : Nat) : Nat → Bool := fun j => if j = k then true else d j
theorem mark_same (d : Nat → Bool) (k : Nat) : mark d k k = true := by simp [mark]
theorem mark_other (d : Nat → Bool) {k j : Nat} (h : j ≠ k) : mark d k j = d j := by simp [mark, h]

def ReadyO (o : Oper) (d : Nat → Bool) : Prop := ∀ e ∈ o.after, Region.binds .any e = true → d e.on = true
/-- Of each operation that is done, what it waits for is done. -/
def Closed (ops : Array Oper) (d : Nat → Bool) : Prop := ∀ j oj, ops[j]? = some oj → d j = true → ReadyO oj d
theorem closed_undone {ops : Array Oper} {d : Nat → Bool} {s k : Nat} {o : Oper} (h : Closed ops d) (ho : ops[s]? = some o) (hk : (o.after.any fun e => Region.binds .any e && e.on == k) = true) (hd : d k = false) : d s = false := by
  cases hs : d s with
  | false => rfl
  | true =>
    obtain ⟨e, he, hb⟩ := Array.any_eq_true'.1 hk
    simp only [Bool.and_eq_true, beq_iff_eq] at hb
    have := h s o ho hs e he hb.1
    rw [hb.2, hd] at this
    cases this

section
variable (P : Program) (ops : Array Oper) (C : (Nat → Bool) → World → Prop)

def YieldsL (k : Nat) (o : Oper) (v : Value) (a : Act) : Prop :=
  (Region.wanted o (yielded ops a.tmps) = true ∧ ∀ d w, d k = false → (ReadyO o d ∧ Closed ops d) → C d w → upIn P (C (mark d k)) v ((execOp a.eval o).run P w)) ∨
  (Region.wanted o (yielded ops a.tmps) = false ∧ v = undef ∧ ∀ d w, d k = false → C d w → C (mark d k) w)

def wpLex (Q : Act → Prop) : Nat → List Oper → Act → Prop
  | _, [], a => Q a
  | k, o :: l, a => ∃ v, YieldsL P ops C k o v a ∧ wpLex Q (k + 1) l (a.put o.dst v)

def Region.pairB : Bool :=
  Region.noSelect ops &&
  (List.range ops.size).all fun j => match ops[j]? with
    | none => true
    | some oj => (oj.after.all fun e => !Region.binds .any e || decide (e.on < j)) &&
      (List.range j).all fun i => match ops[i]? with
        | none => true
        | some oi => (oj.after.any fun e => Region.binds .any e && e.on == i) || oi.apart ops oj

end

section
variable {P : Program} {ops : Array Oper} {C : (Nat → Bool) → World → Prop}

theorem pairB_dep (h : Region.pairB ops = true) {j : Nat} {oj : Oper} (hj : ops[j]? = some oj) : ∀ e ∈ oj.after, Region.binds .any e = true → e.on < j := by
  simp only [Region.pairB, Bool.and_eq_true] at h
  have h1 := List.all_eq_true.1 h.2 j (List.mem_range.2 (Array.getElem?_eq_some_iff.1 hj).1)
  rw [hj] at h1
  simp only [Bool.and_eq_true] at h1
  intro e he hb
  have h2 := Array.all_eq_true_iff_forall_mem.1 h1.1 e he
  simpa [hb] using h2

theorem pairB_pair (h : Region.pairB ops = true) {i j : Nat} {oi oj : Oper} (hi : ops[i]? = some oi) (hj : ops[j]? = some oj) (hij : i < j) :
    (∃ e ∈ oj.after, Region.binds .any e = true ∧ e.on = i) ∨ oi.apart ops oj = true := by
  simp only [Region.pairB, Bool.and_eq_true] at h
  have h1 := List.all_eq_true.1 h.2 j (List.mem_range.2 (Array.getElem?_eq_some_iff.1 hj).1)
  rw [hj] at h1
  simp only [Bool.and_eq_true] at h1
  have h2 := List.all_eq_true.1 h1.2 i (List.mem_range.2 hij)
  rw [hi] at h2
  simp only [Bool.or_eq_true] at h2
  refine h2.imp (fun h3 => ?_) id
  obtain ⟨e, he, hb⟩ := Array.any_eq_true'.1 h3
  simp only [Bool.and_eq_true, beq_iff_eq] at hb
  exact ⟨e, he, hb.1, hb.2⟩

/-- The frame behind those of the first n operations that are done. -/
def acc (ops : Array Oper) (vs : Nat → Value) (d : Nat → Bool) (a : Act) : Nat → Act
  | 0 => a
  | n + 1 => match d n, ops[n]? with
    | true, some o => (acc ops vs d a n).put o.dst (vs n)
    | _, _ => acc ops vs d a n

theorem acc_congr {vs : Nat → Value} {d d' : Nat → Bool} {a : Act} : ∀ (n : Nat), (∀ j, j < n → d j = d' j) → acc ops vs d a n = acc ops vs d' a n
  | 0, _ => rfl
  | n + 1, h => by
    simp only [acc, h n (Nat.lt_succ_self n), acc_congr n (fun j hj => h j (Nat.lt_succ_of_lt hj))]

theorem acc_stop {vs : Nat → Value} {d : Nat → Bool} {a : Act} {k : Nat} : ∀ (n : Nat), k ≤ n → (∀ j, k ≤ j → j < n → d j = false) → acc ops vs d a n = acc ops vs d a k
  | 0, h, _ => by have : k = 0 := by omega
                  rw [this]
  | n + 1, h, hd => by
    by_cases hk : k = n + 1
    · rw [hk]
    · rw [acc, hd n (by omega) (Nat.lt_succ_self n)]
      exact acc_stop n (by omega) (fun j h1 h2 => hd j h1 (Nat.lt_succ_of_lt h2))

theorem put_slot (a : Act) (x : Option Tmp) (v : Value) (t : Tmp) (h : x ≠ some t) : (a.put x v).tmps[t]? = a.tmps[t]? := by
  cases x with
  | none => rfl
  | some d =>
    have hne : d ≠ t := fun e => h (by rw [e])
    simp [Act.put, Array.getElem?_setIfInBounds_ne hne]

theorem acc_slot {vs : Nat → Value} {d d' : Nat → Bool} {a : Act} {t : Tmp} : ∀ (n : Nat), (∀ j o, j < n → ops[j]? = some o → o.dst = some t → d j = d' j) →
    (acc ops vs d a n).tmps[t]? = (acc ops vs d' a n).tmps[t]? ∧ (acc ops vs d a n).tmps.size = (acc ops vs d' a n).tmps.size
  | 0, _ => ⟨rfl, rfl⟩
  | n + 1, h => by
    obtain ⟨ih, ihs⟩ := acc_slot (d := d) (d' := d') n (fun j o hj ho he => h j o (Nat.lt_succ_of_lt hj) ho he)
    have psz : ∀ (b : Act) (x : Option Tmp) (v : Value), (b.put x v).tmps.size = b.tmps.size := fun b x v => by cases x <;> simp [Act.put]
    simp only [acc]
    cases ho : ops[n]? with
    | none => cases d n <;> cases d' n <;> exact ⟨ih, ihs⟩
    | some o =>
      by_cases ht : o.dst = some t
      · have e := h n o (Nat.lt_succ_self n) ho ht
        rw [← e]
        cases d n
        · exact ⟨ih, ihs⟩
        · refine ⟨?_, by simp only [psz]; exact ihs⟩
          simp only [ht, Act.put, Array.getElem?_setIfInBounds, ihs, ih]
      · cases d n <;> cases d' n <;> (refine ⟨?_, ?_⟩) <;> simp only [psz, put_slot _ _ _ _ ht] <;> first | exact ih | exact ihs

theorem acc_mark {vs : Nat → Value} {d : Nat → Bool} {a : Act} {k : Nat} {o : Oper} (ho : ops[k]? = some o) (hd : d k = false) : ∀ (n : Nat), k < n →
    (∀ j o', k < j → j < n → d j = true → ops[j]? = some o' → ∀ t, o.dst = some t → o'.dst ≠ some t) → (acc ops vs d a n).put o.dst (vs k) = acc ops vs (mark d k) a n
  | 0, h, _ => by omega
  | n + 1, h, hne => by
    by_cases hk : k = n
    · subst hk
      simp only [acc, hd, mark_same, ho]
      rw [acc_congr (d := mark d k) (d' := d) k (fun j hj => mark_other d (by omega))]
    · have ih := acc_mark (a := a) (vs := vs) ho hd n (by omega) (fun j o' h1 h2 h3 h4 => hne j o' h1 (Nat.lt_succ_of_lt h2) h3 h4)
      simp only [acc, mark_other d (show n ≠ k by omega)]
      cases hdn : d n with
      | false => exact ih
      | true =>
        cases hn : ops[n]? with
        | none => exact ih
        | some o' =>
          simp only []
          rw [← ih]
          exact (Act.put_comm _ _ _ (fun t ht => hne n o' (by omega) (Nat.lt_succ_self n) hdn hn t ht)).symm

theorem wpLex_vals {Q : Act → Prop} {a0 : Act} : ∀ (l : List Oper) (k : Nat) (vs0 : Nat → Value), (∀ j, l[j]? = ops[k + j]?) →
    wpLex P ops C Q k l (acc ops vs0 (fun _ => true) a0 k) →
    ∃ vs : Nat → Value, (∀ j, j < k → vs j = vs0 j) ∧ (∀ j o, k ≤ j → ops[j]? = some o → YieldsL P ops C j o (vs j) (acc ops vs (fun _ => true) a0 j)) ∧ Q (acc ops vs (fun _ => true) a0 (k + l.length))
  | [], k, vs0, hl, h => ⟨vs0, fun _ _ => rfl, fun j o hj ho => by
      have := hl (j - k)
      rw [show k + (j - k) = j by omega, ho] at this
      simp at this, h⟩
  | o :: l, k, vs0, hl, h => by
    obtain ⟨v, hy, hr⟩ := h
    have hk : ops[k]? = some o := by simpa using (hl 0).symm
    have vcong : ∀ (vs vs' : Nat → Value) (n : Nat), (∀ j, j < n → vs j = vs' j) → acc ops vs (fun _ => true) a0 n = acc ops vs' (fun _ => true) a0 n := by
      intro vs vs' n
      induction n with
      | zero => intro _; rfl
      | succ n ih =>
        intro hh
        simp only [acc, ih (fun j hj => hh j (Nat.lt_succ_of_lt hj)), hh n (Nat.lt_succ_self n)]
    let vs1 : Nat → Value := fun j => if j = k then v else vs0 j
    have e1 : acc ops vs1 (fun _ => true) a0 k = acc ops vs0 (fun _ => true) a0 k := vcong _ _ _ (fun j hj => by simp [vs1]; omega)
    have e2 : acc ops vs1 (fun _ => true) a0 (k + 1) = (acc ops vs0 (fun _ => true) a0 k).put o.dst v := by
      simp only [acc, hk, e1]
      simp [vs1]
    rw [← e2] at hr
    obtain ⟨vs, h1, h2, h3⟩ := wpLex_vals l (k + 1) vs1 (fun j => by have := hl (j + 1); simpa [Nat.add_assoc, Nat.add_comm 1 j] using this) hr
    have hvk : vs k = v := by rw [h1 k (Nat.lt_succ_self k)]; simp [vs1]
    refine ⟨vs, fun j hj => by rw [h1 j (by omega)]; simp [vs1]; omega, fun j oj hj ho => ?_, by rw [List.length_cons, show k + (l.length + 1) = k + 1 + l.length by omega]; exact h3⟩
    by_cases hjk : j = k
    · subst hjk
      have : oj = o := Option.some.inj (ho.symm.trans hk)
      subst this
      rw [hvk, vcong vs vs0 j (fun i hi => by rw [h1 i (by omega)]; simp [vs1]; omega)]
      exact hy
    · exact h2 j oj (by omega) ho

theorem getD_of {x y : Act} {t : Tmp} (h : x.tmps[t]? = y.tmps[t]?) : x.tmps.getD t undef = y.tmps.getD t undef := by
  rw [Array.getD_eq_getD_getElem?, Array.getD_eq_getD_getElem?, h]
theorem yield_of {x y : Act} {t : Tmp} (h : x.tmps[t]? = y.tmps[t]?) : (match (some t).bind fun s => x.tmps[s]? with | some (Value.bool b) => some b | _ => none) = (match (some t).bind fun s => y.tmps[s]? with | some (Value.bool b) => some b | _ => none) := by
  rw [Option.bind_some, Option.bind_some, h]

theorem countP_lt {α : Type} {p q : α → Bool} : ∀ {l : List α}, (∀ x ∈ l, q x = true → p x = true) → (∃ x ∈ l, p x = true ∧ q x = false) → l.countP q < l.countP p
  | [], _, ⟨_, h, _⟩ => by simp at h
  | y :: l, hs, ⟨x, hx, h1, h2⟩ => by
    have hle : ∀ {l : List α}, (∀ x ∈ l, q x = true → p x = true) → l.countP q ≤ l.countP p := fun h => List.countP_mono_left h
    rw [List.countP_cons, List.countP_cons]
    rcases List.mem_cons.1 hx with rfl | hx
    · have := hle (l := l) (fun z hz => hs z (List.mem_cons_of_mem _ hz))
      simp [h1, h2]
      omega
    · have := countP_lt (fun z hz => hs z (List.mem_cons_of_mem _ hz)) ⟨x, hx, h1, h2⟩
      have := hs y (List.mem_cons_self)
      cases hq : q y <;> simp_all <;> (split <;> omega)

theorem lex_main {Q : Exit → Act → World → Prop} {vs : Nat → Value} {a0 : Act} (hB : Region.pairB ops = true)
    (hy : ∀ j o, ops[j]? = some o → YieldsL P ops C j o (vs j) (acc ops vs (fun _ => true) a0 j))
    (hQ : ∀ d w, (∀ j, j < ops.size → d j = true) → C d w → Q .normal (acc ops vs (fun _ => true) a0 ops.size) w) :
    ∀ (fuel : Nat) (listed : Array Bool) (w : World), listed.size = ops.size → (List.range ops.size).countP (fun j => !listed.getD j true) ≤ fuel →
      (∀ j oj, ops[j]? = some oj → listed.getD j false = true → ∀ e ∈ oj.after, Region.binds .any e = true → listed.getD e.on false = true) →
      C (fun j => listed.getD j false) w → wpAny P .any ops Q fuel listed (acc ops vs (fun j => listed.getD j false) a0 ops.size) w := by
  have hsel : Region.noSelect ops = true := by
    simp only [Region.pairB, Bool.and_eq_true] at hB
    exact hB.1
  -- nothing may come up: all is done
  have hdone : ∀ (listed : Array Bool), listed.size = ops.size → Region.ready .any ops listed = [] → ∀ j, j < ops.size → listed.getD j false = true := by
    intro listed hsz hr
    intro j
    induction j using Nat.strongRecOn with
    | _ j ih =>
      intro hj
      cases hl : listed.getD j false with
      | true => rfl
      | false =>
        exfalso
        have : j ∈ Region.ready .any ops listed := by
          rw [mem_ready]
          refine ⟨by simp [hsz, hj] at hl ⊢; exact hl, ops[j], by simp [hj], fun e he hb => ?_⟩
          have hlt := pairB_dep hB (show ops[j]? = some ops[j] by simp [hj]) e he hb
          exact ih e.on hlt (by omega)
        rw [hr] at this
        cases this
  have hfin : ∀ (listed : Array Bool) (w : World), listed.size = ops.size → Region.ready .any ops listed = [] → C (fun j => listed.getD j false) w →
      Q .normal (acc ops vs (fun j => listed.getD j false) a0 ops.size) w := by
    intro listed w hsz hr hC
    have hd := hdone listed hsz hr
    rw [acc_congr (d := fun j => listed.getD j false) (d' := fun _ => true) ops.size hd]
    exact hQ _ w hd hC
  intro fuel
  induction fuel with
  | zero =>
    intro listed w hsz hc hcl hC
    have hr : Region.ready .any ops listed = [] := by
      cases h : Region.ready .any ops listed with
      | nil => rfl
      | cons i r =>
        exfalso
        have hi : i ∈ Region.ready .any ops listed := by rw [h]; exact List.mem_cons_self
        obtain ⟨h1, o, h2, _⟩ := mem_ready.1 hi
        have hlt : i < ops.size := (Array.getElem?_eq_some_iff.1 h2).1
        have : 0 < (List.range ops.size).countP (fun j => !listed.getD j true) := List.countP_pos_iff.2 ⟨i, List.mem_range.2 hlt, by rw [h1]; rfl⟩
        omega
    exact ⟨hr, hfin listed w hsz hr hC⟩
  | succ fuel ih =>
    intro listed w hsz hc hcl hC
    refine ⟨fun hr => hfin listed w hsz hr hC, fun i hi => ?_⟩
    obtain ⟨hun, o, ho, hdeps⟩ := mem_ready.1 hi
    have hlt : i < ops.size := (Array.getElem?_eq_some_iff.1 ho).1
    have hun' : listed.getD i false = false := by simp [hsz, hlt] at hun ⊢; exact hun
    have hmk : (fun j => (listed.setIfInBounds i true).getD j false) = mark (fun j => listed.getD j false) i := by
      funext j
      by_cases hj : j = i
      · subst hj
        rw [mark_same]
        simp [hsz, hlt]
      · rw [mark_other _ hj, getD_set_ne false (Ne.symm hj)]
    -- the operation sees the same slots as in the order of the text
    have agree : ∀ t, t ∈ o.looksAt ops → (acc ops vs (fun j => listed.getD j false) a0 ops.size).tmps[t]? = (acc ops vs (fun _ => true) a0 i).tmps[t]? := by
      intro t ht
      rw [← acc_congr (d := fun j => decide (j < i)) (d' := fun _ => true) i (fun j hj => by simp [hj]),
        ← acc_stop (d := fun j => decide (j < i)) ops.size (by omega) (fun j h1 _ => by simp; omega)]
      refine (acc_slot ops.size (fun j oj hj hoj hdst => ?_)).1
      rcases Nat.lt_trichotomy j i with h | h | h
      · rcases pairB_pair hB hoj ho h with ⟨e, he, hb, hon⟩ | hap
        · have := hdeps e he hb
          rw [hon] at this
          simp [h, this]
        · exact absurd ht ((Oper.apart_spec hap).1 t hdst)
      · subst h
        simp [hun']
      · rcases pairB_pair hB ho hoj h with ⟨e, he, hb, hon⟩ | hap
        · have : listed.getD j false = false := by
            cases hl : listed.getD j false with
            | false => rfl
            | true =>
              have := hcl j oj hoj hl e he hb
              rw [hon, hun'] at this
              cases this
          rw [this]
          simp
          omega
        · exact absurd ht ((Oper.apart_spec hap).2.2 t hdst)
    have hexec : execOp (acc ops vs (fun j => listed.getD j false) a0 ops.size).eval o = execOp (acc ops vs (fun _ => true) a0 i).eval o := by
      refine execOp_congr o (fun cs b => Region.noSelect_spec hsel i o cs b ho) fun x hx => ?_
      cases x with
      | tmp t =>
        have := agree t (List.mem_append_left _ (List.mem_filterMap.2 ⟨.tmp t, by simpa using hx, rfl⟩))
        exact getD_of this
      | _ => rfl
    have hwant : Region.wanted o (yielded ops (acc ops vs (fun j => listed.getD j false) a0 ops.size).tmps) = Region.wanted o (yielded ops (acc ops vs (fun _ => true) a0 i).tmps) := by
      unfold Region.wanted
      cases hg : o.guard with
      | none => rfl
      | some gw =>
        obtain ⟨g, want⟩ := gw
        have : yielded ops (acc ops vs (fun j => listed.getD j false) a0 ops.size).tmps g = yielded ops (acc ops vs (fun _ => true) a0 i).tmps g := by
          unfold yielded
          cases ht : (ops[g]?).bind (·.dst) with
          | none => rfl
          | some t =>
            have := agree t (List.mem_append_right _ (by simp [hg, ht]))
            exact yield_of this
        simp only [this]
    have hnext : (acc ops vs (fun j => listed.getD j false) a0 ops.size).put o.dst (vs i) = acc ops vs (fun j => (listed.setIfInBounds i true).getD j false) a0 ops.size := by
      rw [hmk]
      refine acc_mark ho hun' ops.size hlt (fun j oj h1 _ hl hoj t ht => ?_)
      rcases pairB_pair hB ho hoj h1 with ⟨e, he, hb, hon⟩ | hap
      · have := hcl j oj hoj hl e he hb
        rw [hon, hun'] at this
        cases this
      · exact (Oper.apart_spec hap).2.1 t ht
    have hcl' : ∀ j oj, ops[j]? = some oj → (listed.setIfInBounds i true).getD j false = true → ∀ e ∈ oj.after, Region.binds .any e = true → (listed.setIfInBounds i true).getD e.on false = true := by
      intro j oj hj hl e he hb
      by_cases hji : i = j
      · subst hji
        have : oj = o := Option.some.inj (hj.symm.trans ho)
        subst this
        exact getD_set_true (hdeps e he hb)
      · rw [getD_set_ne false hji] at hl
        exact getD_set_true (hcl j oj hj hl e he hb)
    have hcnt : (List.range ops.size).countP (fun j => !(listed.setIfInBounds i true).getD j true) ≤ fuel := by
      have : (List.range ops.size).countP (fun j => !(listed.setIfInBounds i true).getD j true) < (List.range ops.size).countP (fun j => !listed.getD j true) := by
        refine countP_lt (fun j _ hj => ?_) ⟨i, List.mem_range.2 hlt, by rw [hun]; rfl, by simp [hsz, hlt]⟩
        by_cases hji : i = j
        · subst hji
          simp [hsz, hlt] at hj
        · rw [getD_set_ne true hji] at hj
          exact hj
      omega
    have go : ∀ w', C (mark (fun j => listed.getD j false) i) w' → wpAny P .any ops Q fuel (listed.setIfInBounds i true) ((acc ops vs (fun j => listed.getD j false) a0 ops.size).put o.dst (vs i)) w' := by
      intro w' hC'
      rw [hnext]
      exact ih _ w' (by simp [hsz]) hcnt hcl' (by rw [hmk]; exact hC')
    unfold wpOp
    simp only [ho]
    rcases hy i o ho with ⟨hw, hv⟩ | ⟨hw, hv, hk⟩
    · rw [if_pos (by rw [hwant]; exact hw)]
      refine .inl ?_
      have h3 := hv (fun j => listed.getD j false) w hun' ⟨fun e he hb => hdeps e he hb, fun j oj hj hl e he hb => hcl j oj hj hl e he hb⟩ hC
      unfold Oper.wp
      rw [hexec]
      generalize (execOp (acc ops vs (fun _ => true) a0 i).eval o).run P w = r at *
      cases r with
      | ok n w' =>
        cases n <;> simp only [upIn] at h3 <;> simp only [Oper.upon]
        case value u =>
          obtain ⟨rfl, h4⟩ := h3
          exact go w' h4
        case skip =>
          obtain ⟨h5, h4⟩ := h3
          rw [← h5]
          exact go w' h4
        case enter f args => exact h3.mono fun e w'' ⟨he, hw''⟩ => by subst he; exact go w'' hw''
      | halt x w' => simp only [upIn] at h3
    · rw [if_neg (by rw [hwant, hw]; exact Bool.false_ne_true), ← hv]
      exact go w (hk _ w hun' hC)

/-- **One walk in the order of the text**, the class of worlds told for what has been done. -/
theorem wp_region_lex {id : Nat} {Q : Exit → Act → World → Prop} {a : Act} {w : World} {l : List Oper} (C : (Nat → Bool) → World → Prop) (hm : P.follows .mixedOrders = true) (hB : Region.pairB l.toArray = true)
    (h0 : C (fun _ => false) w.drew)
    (h : wpLex P l.toArray C (fun a' => ∀ d w', (∀ j, j < l.length → d j = true) → C d w' → Q .normal a' w') 0 l a) : (Code.region id l.toArray true).wp P Q a w := by
  obtain ⟨vs, _, h2, h3⟩ := wpLex_vals (ops := l.toArray) (a0 := a) l 0 (fun _ => undef) (fun j => by simp) h
  refine wp_region_any hm ?_
  have e0 : acc l.toArray vs (fun j => (Array.replicate l.toArray.size false).getD j false) a l.toArray.size = a := by
    rw [acc_stop (k := 0) l.toArray.size (by omega) (fun j _ _ => getD_replicate_false _ _)]
    rfl
  have := lex_main (Q := Q) hB (fun j o ho => h2 j o (Nat.zero_le _) ho) (fun d w' hd hC => by
    have := h3 d w' (by simpa using hd) hC
    simpa using this) l.toArray.size (Array.replicate l.toArray.size false) w.drew (by simp) (by
      refine Nat.le_trans (List.countP_le_length) ?_
      simp) (fun j oj _ hl => by rw [getD_replicate_false] at hl; cases hl) (by
      have : (fun j => (Array.replicate l.toArray.size false).getD j false) = (fun _ => false) := funext fun j => getD_replicate_false _ _
      rw [this]
      exact h0)
  rw [e0] at this
  exact this

end

/-! ### The steps of such a walk -/
section
variable {P : Program} {ops : Array Oper} {C : (Nat → Bool) → World → Prop} {Q : Act → Prop} {k : Nat} {o : Oper} {l : List Oper} {a : Act}
theorem lex_nil (h : Q a) : wpLex P ops C Q k [] a := h
theorem lex_skip (hw : Region.wanted o (yielded ops a.tmps) = false) (hk : ∀ d w, d k = false → C d w → C (mark d k) w) (h : wpLex P ops C Q (k + 1) l (a.put o.dst undef)) : wpLex P ops C Q k (o :: l) a :=
  ⟨_, .inr ⟨hw, rfl, hk⟩, h⟩
theorem lex_pure {v : Value} (hw : Region.wanted o (yielded ops a.tmps) = true) (hk : ∀ d w, d k = false → C d w → C (mark d k) w) (hr : ∀ d w, d k = false → (ReadyO o d ∧ Closed ops d) → C d w → (execOp a.eval o).run P w = .ok (.value v) w)
    (h : wpLex P ops C Q (k + 1) l (a.put o.dst v)) : wpLex P ops C Q k (o :: l) a :=
  ⟨v, .inl ⟨hw, fun d w h1 h2 h3 => by rw [hr d w h1 h2 h3]; exact ⟨rfl, hk d w h1 h3⟩⟩, h⟩
theorem lex_call {v : Value} {f : FuncId} {args : Array Value} (hw : Region.wanted o (yielded ops a.tmps) = true) (hk : ∀ d w, d k = false → C d w → C (mark d k) w) (hg : ∀ d w w', C d w → Grew w w' → C d w')
    (hr : ∀ d w, d k = false → (ReadyO o d ∧ Closed ops d) → C d w → (execOp a.eval o).run P w = .ok (.enter f args) w)
    (hc : ∀ d w, d k = false → (ReadyO o d ∧ Closed ops d) → C d w → Calls P f args w fun e w' => e = .returned v ∧ Grew w w')
    (h : wpLex P ops C Q (k + 1) l (a.put o.dst v)) : wpLex P ops C Q k (o :: l) a :=
  ⟨v, .inl ⟨hw, fun d w h1 h2 h3 => by rw [hr d w h1 h2 h3]; exact (hc d w h1 h2 h3).mono fun e w' ⟨he, hgr⟩ => ⟨he, hk d w' h1 (hg d w w' h3 hgr)⟩⟩, h⟩
theorem lex_store (hw : Region.wanted o (yielded ops a.tmps) = true)
    (hr : ∀ d w, d k = false → (ReadyO o d ∧ Closed ops d) → C d w → ∃ w', (execOp a.eval o).run P w = .ok .skip w' ∧ C (mark d k) w')
    (h : wpLex P ops C Q (k + 1) l (a.put o.dst undef)) : wpLex P ops C Q k (o :: l) a :=
  ⟨undef, .inl ⟨hw, fun d w h1 h2 h3 => by obtain ⟨w', h4, h5⟩ := hr d w h1 h2 h3; rw [h4]; exact ⟨rfl, h5⟩⟩, h⟩

/-- The class of the worlds that have grown out of W b, b telling whether operation s has been done. -/
def One (s : Nat) (W : Bool → World) (d : Nat → Bool) (w : World) : Prop := Grew (W (d s)) w
theorem One.keep {s : Nat} {W : Bool → World} {k : Nat} (h : s ≠ k) : ∀ d w, d k = false → One s W d w → One s W (mark d k) w := fun d w _ hC => by
  unfold One
  rw [mark_other _ h]
  exact hC
theorem One.grew {s : Nat} {W : Bool → World} : ∀ d w w', One s W d w → Grew w w' → One s W d w' := fun _ _ _ h k => Grew.trans h k
/-- The class of the worlds that have grown out of W b c, b and c telling whether operations s and t have been done. -/
def Two (s t : Nat) (W : Bool → Bool → World) (d : Nat → Bool) (w : World) : Prop := Grew (W (d s) (d t)) w
theorem Two.keep {s t : Nat} {W : Bool → Bool → World} {k : Nat} (h : s ≠ k) (h2 : t ≠ k) : ∀ d w, d k = false → Two s t W d w → Two s t W (mark d k) w := fun d w _ hC => by
  unfold Two
  rw [mark_other _ h, mark_other _ h2]
  exact hC
theorem ready_done {o : Oper} {d : Nat → Bool} {k : Nat} (h : ReadyO o d) (hk : (o.after.any fun e => Region.binds .any e && e.on == k) = true) : d k = true := by
  obtain ⟨e, he, hb⟩ := Array.any_eq_true'.1 hk
  simp only [Bool.and_eq_true, beq_iff_eq] at hb
  rw [← hb.2]
  exact h e he hb.1
end
end Go.Proofs.YtdacnkjmimhcaaaDoor
