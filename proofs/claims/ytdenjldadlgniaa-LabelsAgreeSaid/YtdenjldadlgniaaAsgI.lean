/- best and Solve of the reference. -/
import Derived.Test.YtdenjldadlgniaaAsgH
set_option linter.unusedSimpArgs false
set_option linter.unusedVariables false
namespace Go.Proofs.Ytdenjldadlgniaa
open Go.RowKit

structure BestP (m : List (List Int)) (l a : List Nat) : Prop where
  asg : Asg m a
  pre : Pre l a
  le : ∀ b, Asg m b → Pre l b → costN m a ≤ costN m b ∧ (costN m b = costN m a → b = a ∨ lexN m.length a b)
structure BestQ (m : List (List Int)) (l : List Nat) (c : Nat) (a : List Nat) : Prop where
  asg : Asg m a
  pre : Pre l a
  lt : gn a l.length < c
  le : ∀ b, Asg m b → Pre l b → gn b l.length < c → costN m a ≤ costN m b ∧ (costN m b = costN m a → b = a ∨ lexN m.length a b)
def NoC (m : List (List Int)) (l : List Nat) (c : Nat) : Prop := ∀ b, Asg m b → Pre l b → gn b l.length ≠ c
def NoL (m : List (List Int)) (l : List Nat) (c : Nat) : Prop := ∀ b, Asg m b → Pre l b → ¬ gn b l.length < c
theorem NoC.neg {m : List (List Int)} {l : List Nat} {c : Nat} (hl : l.length < m.length) (hn : at2 m l.length c < 0) : NoC m l c := fun b h1 _ e => by
  have := h1.ok l.length hl
  rw [e] at this
  omega
theorem NoC.used {m : List (List Int)} {l : List Nat} {c : Nat} (hl : l.length < m.length) (hc : c ∈ l) : NoC m l c := fun b h1 h3 h4 => by
  obtain ⟨u, hu, e⟩ := gn_mem hc
  have := h1.nd u l.length (by omega) hl (by rw [h3 u hu, e, h4])
  omega
theorem NoC.pre {m : List (List Int)} {l : List Nat} {c : Nat} (h : ∀ b, Asg m b → ¬ Pre (l ++ [c]) b) : NoC m l c := fun b h1 h2 e => h b h1 (pre_snoc.2 ⟨h2, e⟩)
theorem NoL.skip {m : List (List Int)} {l : List Nat} {c : Nat} (h : NoL m l c) (hn : NoC m l c) : NoL m l (c + 1) := fun b h1 h2 hlt => by
  have g1 := h b h1 h2
  have g2 := hn b h1 h2
  omega
theorem BestQ.skip {m : List (List Int)} {l a : List Nat} {c : Nat} (h : BestQ m l c a) (hn : NoC m l c) : BestQ m l (c + 1) a :=
  ⟨h.asg, h.pre, by have := h.lt; omega, fun b h1 h2 h3 => h.le b h1 h2 (by have := hn b h1 h2; omega)⟩
theorem BestQ.first {m : List (List Int)} {l a : List Nat} {c : Nat} (h : NoL m l c) (hp : BestP m (l ++ [c]) a) : BestQ m l (c + 1) a := by
  obtain ⟨p1, p2⟩ := pre_snoc.1 hp.pre
  refine ⟨hp.asg, p1, by omega, fun b h1 h2 h3 => hp.le b h1 (pre_snoc.2 ⟨h2, ?_⟩)⟩
  have := h b h1 h2
  omega
theorem BestQ.better {m : List (List Int)} {l a a' : List Nat} {c : Nat} (h : BestQ m l c a) (hp : BestP m (l ++ [c]) a') (hlt : costN m a' < costN m a) : BestQ m l (c + 1) a' := by
  obtain ⟨p1, p2⟩ := pre_snoc.1 hp.pre
  refine ⟨hp.asg, p1, by omega, fun b h1 h2 h3 => ?_⟩
  by_cases e : gn b l.length = c
  · exact hp.le b h1 (pre_snoc.2 ⟨h2, e⟩)
  · have := (h.le b h1 h2 (by omega)).1
    exact ⟨by omega, fun e => by omega⟩
theorem BestQ.keep {m : List (List Int)} {l a a' : List Nat} {c : Nat} (hl : l.length < m.length) (h : BestQ m l c a) (hp : BestP m (l ++ [c]) a') (hle : costN m a ≤ costN m a') : BestQ m l (c + 1) a := by
  refine ⟨h.asg, h.pre, by have := h.lt; omega, fun b h1 h2 h3 => ?_⟩
  by_cases e : gn b l.length = c
  · have g := (hp.le b h1 (pre_snoc.2 ⟨h2, e⟩)).1
    refine ⟨by omega, fun _ => Or.inr ⟨l.length, hl, fun t ht => ?_, ?_⟩⟩
    · rw [h.pre t ht, h2 t ht]
    · rw [e]; exact h.lt
  · exact h.le b h1 h2 (by omega)
theorem BestQ.done {m : List (List Int)} {l a : List Nat} (hl : l.length < m.length) (h : BestQ m l (kO m) a) : BestP m l a :=
  ⟨h.asg, h.pre, fun b h1 h2 => h.le b h1 h2 (h1.lt _ hl)⟩
theorem NoL.done {m : List (List Int)} {l : List Nat} (hl : l.length < m.length) (h : NoL m l (kO m)) : ∀ b, Asg m b → ¬ Pre l b := fun b h1 h2 => h b h1 h2 (h1.lt _ hl)
theorem nodup_gn {l : List Nat} (h : l.Nodup) {i j : Nat} (hi : i < l.length) (hj : j < l.length) (he : gn l i = gn l j) : i = j := by
  unfold gn at he
  simp [hi, hj] at he
  exact (List.getElem_inj h).1 he
theorem asg_full {m : List (List Int)} {l : List Nat} (hL : LOK m l) (hn : l.Nodup) (hl : l.length = m.length) : Asg m l :=
  ⟨hl, fun i j hi hj he => nodup_gn hn (by omega) (by omega) he, fun i hi => hL.lt i (by omega), fun i hi => hL.ok i (by omega)⟩
theorem BestP.full {m : List (List Int)} {l : List Nat} (hL : LOK m l) (hn : l.Nodup) (hl : l.length = m.length) : BestP m l l := by
  have hA := asg_full hL hn hl
  refine ⟨hA, fun u hu => rfl, fun b h1 h2 => ?_⟩
  have e : b = l := gn_ext (by rw [h1.l, hl]) fun i hi => h2 i (by rw [h1.l] at hi; omega)
  subst e
  exact ⟨Int.le_refl _, fun _ => Or.inl rfl⟩
theorem BestP.best {m : List (List Int)} {a : List Nat} (h : BestP m [] a) : BestA m a :=
  ⟨h.asg, fun b hb => (h.le b hb (fun u hu => by simp at hu)).1, fun b hb => (h.le b hb (fun u hu => by simp at hu)).2⟩

theorem natL_intL (l : List Nat) : natL (intL l) = l := by
  unfold natL intL
  rw [List.map_map]
  conv => rhs; rw [← List.map_id l]
  exact List.map_congr_left fun x _ => by simp
theorem ge_intL (l : List Nat) (i : Nat) : (ge (intL l) i).toNat = gn l i := by
  rw [← natL_gn, natL_intL]
theorem intL_nodup {l : List Nat} (h : l.Nodup) : (intL l).Nodup := by
  unfold intL
  exact List.Pairwise.map _ (fun a b hab e => hab (by omega)) h
theorem asg_nodup {m : List (List Int)} {a : List Nat} (h : Asg m a) : a.Nodup := by
  refine List.pairwise_iff_getElem.2 fun i j hi hj hij e => ?_
  have := h.nd i j (by rw [← h.l]; exact hi) (by rw [← h.l]; exact hj) (by unfold gn; simp [hi, hj, e])
  omega
/-- The cost of an assignment, as the reference reckons it. -/
theorem cost_asg {m : List (List Int)} (hv : vB m = true) {a : List Nat} (h : Asg m a) : costS m (intL a) = (costN m a, 0) := by
  rw [costS_ok hv (by rw [intL_length, h.l]) ?_ (intL_nodup (asg_nodup h)) ?_]
  · unfold sumX costN
    rw [intL_length, h.l]
    exact Prod.ext (sumN_congr fun i hi => by rw [ge_intL]) rfl
  · intro x hx
    unfold intL at hx
    obtain ⟨y, hy, rfl⟩ := List.mem_map.1 hx
    obtain ⟨u, hu, rfl⟩ := gn_mem hy
    have := h.lt u (by rw [← h.l]; exact hu)
    omega
  · intro i hi
    rw [intL_length, h.l] at hi
    rw [ge_intL]
    exact h.ok i hi

def Reads (w : World) (v : Value) (a : List Nat) : Prop := ∃ q c, v = .slice q a.length c ∧ Ints w q (intL a) ∧ a.length ≤ c
theorem Reads.grew {w w' : World} {v : Value} {a : List Nat} (h : Reads w v a) (hg : Grew w w') : Reads w' v a := by
  obtain ⟨q, c, h1, h2, h3⟩ := h
  exact ⟨q, c, h1, h2.grew hg, h3⟩
def BestR (m : List (List Int)) (l : List Nat) (ok : Bool) (v : Value) (s : Int) (w : World) : Prop :=
  (ok = false ∧ v = .slice none 0 0 ∧ s = 0 ∧ ∀ b, Asg m b → ¬ Pre l b) ∨ (ok = true ∧ ∃ a, BestP m l a ∧ s = costN m a ∧ Reads w v a)
def BestPost (m : List (List Int)) (l : List Nat) (w : World) (e : Ending) (w' : World) : Prop :=
  Grew w w' ∧ ∃ ok v s, e = .returned (.tuple #[v, .int .i64 s, .bool ok]) ∧ BestR m l ok v s w'
def BState (m : List (List Int)) (l : List Nat) (c : Nat) (v9 v10 v11 : Value) (w : World) : Prop :=
  (v9 = .slice none 0 0 ∧ v10 = .int .i64 0 ∧ v11 = .bool false ∧ NoL m l c) ∨ (∃ a, v11 = .bool true ∧ v10 = .int .i64 (costN m a) ∧ Reads w v9 a ∧ BestQ m l c a)
theorem BState.skip {m : List (List Int)} {l : List Nat} {c : Nat} {v9 v10 v11 : Value} {w w' : World} (h : BState m l c v9 v10 v11 w) (hg : Grew w w') (hn : NoC m l c) : BState m l (c + 1) v9 v10 v11 w' := by
  rcases h with ⟨h1, h2, h3, h4⟩ | ⟨a, h1, h2, h3, h4⟩
  · exact Or.inl ⟨h1, h2, h3, h4.skip hn⟩
  · exact Or.inr ⟨a, h1, h2, h3.grew hg, h4.skip hn⟩
theorem Ints.newsO {w : World} {q : Option Addr} {xs : List Int} (h : Ints w q xs) : ∀ b, q = some b → ∀ j u, (intVs xs)[j]? = some u → w.cell? (b.add j) = some u := by
  cases q with
  | none => intro b h; cases h
  | some ad => exact h.news
theorem intVs_snoc (l : List Nat) (c : Nat) : intVs (intL l) ++ [.int .i64 (c : Int)] = intVs (intL (l ++ [c])) := by simp [intVs, intL]
theorem nodup_snoc {l : List Nat} {c : Nat} (h : l.Nodup) (hc : c ∉ l) : (l ++ [c]).Nodup := by
  rw [List.nodup_append]
  exact ⟨h, by simp, fun a ha b hb => by simp at hb; subst hb; exact fun e => hc (e ▸ ha)⟩

set_option maxHeartbeats 8000000 in
theorem best_r (m : List (List Int)) (hv : vB m = true) : ∀ (k : Nat) (p q : Option Addr) (cp nq cq : Nat) (l : List Nat) (w : World), l.length = nq → Mat w p m → Ints w q (intL l) → LOK m l → l.Nodup → l.length ≤ cq → (q = none → nq = 0 ∧ cq = 0) →
    l.length + k = m.length →
    Calls Try.prog 58 #[.slice p m.length cp, .slice q nq cq] w (BestPost m l w) := by
  intro k
  have HV := Lib.hid (vB_iff.1 hv)
  have Hv := Lib.hid hv
  have h16 := HV.out.n16
  clear hv
  induction k with
  | zero =>
    intro p q cp nq cq l w hnq hM hx hL hnd hcap hnil hlen
    subst hnq
    have hmm := hM.1
    have hl : ((l.length : Int) == (m.length : Int)) = true := by rw [beq_iff_eq]; omega
    have hlm : l.length = m.length := by omega
    have Hx := Lib.hid hx
    have HB := Lib.hid (BestP.full hL hnd hlm)
    have Hc := Lib.hid (cost_asg Hv.out HB.out.asg)
    have Hcr : Hid (∀ w', Mat w' p m → Ints w' q (intL l) → Calls Try.prog 62 #[.slice p m.length cp, .slice q l.length cq] w' fun e w'' => e = .returned (.tuple #[.int .i64 (costN m l), .int .i64 0]) ∧ Grew w' w'') := Lib.hid (fun w' h1 h2 => by
      have := cost_r p q m.length l.length cp cq m (intL l) w' h1 h2 rfl (intL_length l)
      rw [Hc.out] at this
      exact this)
    clear hL hnd hnil hx hlm
    go_enter Try.func58, Try.ntmps58
    go_wp2_with ((go_at_call 62; apply Calls.mono; (with_reducible exact Hcr.out _ hM Hx.out); rintro e w' ⟨rfl, x, rfl⟩))
    go_ret3
    exact ⟨by (repeat (first | exact Grew.refl _ | refine Grew.over ?_ _ | refine Grew.alloc ?_ _ | refine Grew.drew ?_ | refine Grew.drewN ?_ _)), true, _, _, rfl, Or.inr ⟨rfl, l, HB.out, rfl, q, cq, rfl, Hx.out.grew (by (repeat (first | exact Grew.refl _ | refine Grew.over ?_ _ | refine Grew.alloc ?_ _ | refine Grew.drew ?_ | refine Grew.drewN ?_ _))), hcap⟩⟩
  | succ k ih =>
    intro p q cp nq cq l w hnq hM hx hL hnd hcap hnil hlen
    subst hnq
    have hmm := hM.1
    have hl : ((l.length : Int) == (m.length : Int)) = false := by rw [beq_eq_false_iff_ne]; omega
    have hlm : l.length < m.length := by omega
    have hl16 : l.length ≤ 16 := by omega
    obtain ⟨i, hi⟩ : ∃ i, l.length = i := ⟨_, rfl⟩
    rw [hi] at hl hlm hl16 hcap hnil ⊢
    obtain ⟨K, hKe⟩ : ∃ K, kO m = K := ⟨_, rfl⟩
    have hk64 : K ≤ 64 := by rw [← hKe]; exact HV.out.k64 (by omega)
    have HKe := Lib.hid hKe
    have Hi := Lib.hid hi
    have Hx := Lib.hid hx
    have HL := Lib.hid hL
    have Hnd := Lib.hid hnd
    have Hnil := Lib.hid hnil
    have Hih := Lib.hid ih
    have Hlen := Lib.hid hlen
    have Hln : Hid ((intL l).length = i) := Lib.hid (by rw [intL_length, Hi.out])
    clear hL hnd hnil hlen ih hx hi hKe
    obtain ⟨b, o, rb, ro, rc, rfl, hA⟩ := matAt_of hM HV.out (by omega)
    rw [HKe.out] at hA
    have HA := Lib.hid hA
    clear hA
    go_enter Try.func58, Try.ntmps58
    go_wp2
    go_loopw [9, 10, 11, 12] (fun v9 v10 v11 v12 wr => ∃ c : Nat, c ≤ K ∧ v12 = .int .i64 c ∧ BState m l c v9 v10 v11 wr ∧ Grew w wr) (fun _ _ _ v12 _ => K - (intOf v12).toNat)
    case atStart => exact ⟨0, Nat.zero_le _, rfl, Or.inl ⟨rfl, rfl, rfl, fun b _ _ h => by omega⟩, Grew.refl w⟩
    case round =>
      obtain ⟨c, hcK, rfl, hst, hg⟩ := hrel
      have Hst := Lib.hid hst
      have Hg := Lib.hid hg
      clear hst hg
      have hsz := Hg.out.below.size
      have r1 := ((HA.out.grew Hg.out).row i hlm).1
      have r2 := ((HA.out.grew Hg.out).row i hlm).2
      have r3 := (HA.out.grew Hg.out).hb
      have hlm2 : l.length < m.length := by rw [Hi.out]; exact hlm
      by_cases hcl : c < K
      · have r4 := (HA.out.grew Hg.out).at' i c hlm hcl
        have hcO : c < kO m := by rw [HKe.out]; exact hcl
        obtain ⟨x, hx⟩ : ∃ x, at2 m i c = x := ⟨_, rfl⟩
        have hxb := HV.out.b i hlm c hcO
        rw [hx] at r4 hxb
        obtain ⟨hxb1, hxb2⟩ := hxb
        have Hat := Lib.hid hx
        clear hx
        by_cases hin : decide ((c : Int) ∈ intL l) = true
        · have Hin := Lib.hid hin
          have Hn : Hid (NoC m l c) := Lib.hid (NoC.used hlm2 (intL_mem.1 (of_decide_eq_true Hin.out)))
          clear hin
          go_wp2_with (go_at_call 63; apply Calls.mono; (with_reducible exact in_e Hin.out (Hx.out.grew Hg.out) Hln.out); rintro e w' ⟨rfl, rfl⟩)
          go_roundw
          case rel => exact ⟨c + 1, by omega, by go_num, Hst.out.skip (Grew.refl _) Hn.out, Hg.out⟩
          case measure => simp [intOf]; omega
        · have Hin := Lib.hid (show decide ((c : Int) ∈ intL l) = false by simpa using hin)
          clear hin
          by_cases hneg : x < 0
          · have Hn : Hid (NoC m l c) := Lib.hid (NoC.neg hlm2 (by rw [Hi.out, Hat.out]; exact hneg))
            go_wp2_with (go_at_call 63; apply Calls.mono; (with_reducible exact in_e Hin.out (Hx.out.grew Hg.out) Hln.out); rintro e w' ⟨rfl, rfl⟩)
            go_roundw
            case rel => exact ⟨c + 1, by omega, by go_num, Hst.out.skip (Grew.refl _) Hn.out, Hg.out⟩
            case measure => simp [intOf]; omega
          · have Hok : Hid (LOK m (l ++ [c])) := Lib.hid (HL.out.snoc hlm2 hcO (by rw [Hi.out, Hat.out]; omega))
            have Hnd2 : Hid ((l ++ [c]).Nodup) := Lib.hid (nodup_snoc Hnd.out (fun h => of_decide_eq_false Hin.out (intL_mem.2 h)))
            have Hl2 : Hid ((l ++ [c]).length = i + 1) := Lib.hid (by rw [List.length_append, List.length_singleton, Hi.out])
            have Hlen2 : Hid ((l ++ [c]).length + k = m.length) := Lib.hid (by have := Hlen.out; rw [List.length_append, List.length_singleton]; omega)
            have Hil : Hid ((intL (l ++ [c])).length = i + 1) := Lib.hid (by rw [intL_length, Hl2.out])
            go_upto_region 11 with (first
              | (go_at_call 63; apply Calls.mono; (with_reducible exact in_e Hin.out (Hx.out.grew Hg.out) Hln.out); rintro e w' ⟨rfl, rfl⟩)
              | (at_builtin; refine wp_append_owns rfl _ _ 24 rfl 3 1 8 (.int .i64 0) Try.underlying24 Try.infoInt rfl (by decide) wr.heap.size _ 0 _ _ _ ((Owns.nil wr wr.heap.size).made (Nat.le_refl _) #[] 3 1 0 _ rfl (by decide) rfl) rfl rfl q i cq rfl (intVs (intL l)) (by rw [intVs_length, Hln.out, Nat.mul_one]) Hnil.out ((Hx.out.grew (Hg.out.trans (by (repeat (first | exact Grew.refl _ | refine Grew.over ?_ _ | refine Grew.alloc ?_ _ | refine Grew.drew ?_ | refine Grew.drewN ?_ _))))).newsO) (intVs_one _) (by simp only [maxLen]; omega) (by omega) (by first | rfl | omega | (simp <;> omega)) ?_; intro v1 w1 hO1 hg1 hb1 _; have Hg1 := Lib.hid (Grew.grownBy (w0 := wr) (by (repeat (first | exact Grew.refl _ | refine Grew.over ?_ _ | refine Grew.alloc ?_ _ | refine Grew.drew ?_ | refine Grew.drewN ?_ _))) hg1 hb1); have hs1 := Hg1.out.below.size; have HO1 := Lib.hid hO1; clear hO1 hg1 hb1)
              | (at_builtin; refine wp_append_owns rfl _ _ 24 rfl 3 1 8 (.int .i64 0) Try.underlying24 Try.infoInt rfl (by decide) wr.heap.size _ 0 _ _ _ (HO1.out.grew (by (repeat (first | exact Grew.refl _ | refine Grew.over ?_ _ | refine Grew.alloc ?_ _ | refine Grew.drew ?_ | refine Grew.drewN ?_ _)))) rfl rfl _ 1 1 rfl [.int .i64 (c : Int)] rfl (fun h => by cases h) (one_news _ (by (simp [go_sem, ↓IntWalk.iteOmega]))) (by simp [Value.oneCell']) (by simp only [maxLen]; omega) (by omega) (by first | rfl | omega | (simp <;> omega)) ?_; intro v2 w2 hO2 hg2 hb2 _; have Hg2 := Lib.hid (Grew.grownBy (w0 := wr) (Hg1.out.trans (by (repeat (first | exact Grew.refl _ | refine Grew.over ?_ _ | refine Grew.alloc ?_ _ | refine Grew.drew ?_ | refine Grew.drewN ?_ _)))) hg2 hb2); simp only [List.set_cons_zero, Nat.zero_add, List.nil_append, intVs_snoc] at hO2; obtain ⟨g2, c2, rfl, _, _, hcap2, _⟩ := hO2.some (k := 0) rfl (by omega); have HI2 := Lib.hid (own_ints hO2 (k := 0) rfl Hil.out (by omega) (intL_rng HV.out Hok.out)); have Hcap2 := Lib.hid (show (l ++ [c]).length ≤ c2 by rw [Hl2.out]; exact hcap2); clear hO2 hg2 hb2 hcap2)
              | (go_at_call 58; apply Calls.mono; (with_reducible exact Hih.out _ _ _ _ _ _ _ Hl2.out (hM.grew (Hg.out.trans (Hg2.out.trans (by (repeat (first | exact Grew.refl _ | refine Grew.over ?_ _ | refine Grew.alloc ?_ _ | refine Grew.drew ?_ | refine Grew.drewN ?_ _)))))) (HI2.out.grew (by (repeat (first | exact Grew.refl _ | refine Grew.over ?_ _ | refine Grew.alloc ?_ _ | refine Grew.drew ?_ | refine Grew.drewN ?_ _)))) Hok.out Hnd2.out Hcap2.out (fun h => by cases h) Hlen2.out); rintro e w3 ⟨hg3, ok, v3, s3, rfl, hR⟩; have Hg3 : Hid (Grew wr w3) := Lib.hid ((Hg2.out.trans (by (repeat (first | exact Grew.refl _ | refine Grew.over ?_ _ | refine Grew.alloc ?_ _ | refine Grew.drew ?_ | refine Grew.drewN ?_ _)))).trans hg3); have HR := Lib.hid hR; clear hg3 hR))
            clear hs1
            rcases HR.out with ⟨rfl, rfl, rfl, hno⟩ | ⟨rfl, a', hB, rfl, hrd⟩
            · have Hn : Hid (NoC m l c) := Lib.hid (NoC.pre hno)
              clear hno
              go_wp2
              go_roundw
              case rel => exact ⟨c + 1, by omega, by go_num, Hst.out.skip Hg3.out Hn.out, Hg.out.trans Hg3.out⟩
              case measure => simp [intOf]; omega
            · obtain ⟨b1, b2⟩ := costN_lt HV.out hB.asg
              have HB := Lib.hid hB
              have Hrd := Lib.hid hrd
              obtain ⟨S, hS⟩ : ∃ S, costN m a' = S := ⟨_, rfl⟩
              rw [hS] at b1 b2 ⊢
              have HS := Lib.hid hS
              rcases Hst.out with ⟨rfl, rfl, rfl, hnl⟩ | ⟨a, rfl, rfl, hra, hq⟩
              · have Hq : Hid (BestQ m l (c + 1) a') := Lib.hid (BestQ.first hnl hB)
                clear hnl hB hrd hS HR
                go_wp2
                go_roundw
                case rel => exact ⟨c + 1, by omega, by go_num, Or.inr ⟨a', rfl, by rw [HS.out], Hrd.out, Hq.out⟩, Hg.out.trans Hg3.out⟩
                case measure => simp [intOf]; omega
              · obtain ⟨b3, b4⟩ := costN_lt HV.out hq.asg
                have Hra := Lib.hid (hra.grew Hg3.out)
                obtain ⟨S0, hS0⟩ : ∃ S, costN m a = S := ⟨_, rfl⟩
                rw [hS0] at b3 b4 ⊢
                have HS0 := Lib.hid hS0
                by_cases hlt : S < S0
                · have Hq : Hid (BestQ m l (c + 1) a') := Lib.hid (BestQ.better hq hB (by rw [hS, hS0]; exact hlt))
                  clear hq hra hB hrd hS HR hS0
                  go_wp2
                  go_roundw
                  case rel => exact ⟨c + 1, by omega, by go_num, Or.inr ⟨a', rfl, by rw [HS.out], Hrd.out, Hq.out⟩, Hg.out.trans Hg3.out⟩
                  case measure => simp [intOf]; omega
                · have Hq : Hid (BestQ m l (c + 1) a) := Lib.hid (BestQ.keep hlm2 hq hB (by rw [hS, hS0]; omega))
                  clear hq hra hB hrd hS HR hS0
                  go_wp2
                  go_roundw
                  case rel => exact ⟨c + 1, by omega, by go_num, Or.inr ⟨a, rfl, by rw [HS0.out], Hra.out, Hq.out⟩, Hg.out.trans Hg3.out⟩
                  case measure => simp [intOf]; omega
      · have hce : c = kO m := by rw [HKe.out]; omega
        have hcK2 : c = K := by omega
        rcases Hst.out with ⟨rfl, rfl, rfl, hnl⟩ | ⟨a, rfl, rfl, hra, hq⟩
        · have Hf := Lib.hid (NoL.done hlm2 (by rw [← hce]; exact hnl))
          clear hnl hce
          subst hcK2
          go_wp2
          go_ret3
          exact ⟨Hg.out, false, _, _, rfl, Or.inl ⟨rfl, rfl, rfl, Hf.out⟩⟩
        · have Hf := Lib.hid (BestQ.done hlm2 (by rw [← hce]; exact hq))
          have Hra := Lib.hid hra
          clear hq hce hra
          subst hcK2
          go_wp2
          go_ret3
          exact ⟨Hg.out, true, _, _, rfl, Or.inr ⟨rfl, a, Hf.out, rfl, Hra.out⟩⟩

set_option maxHeartbeats 2000000 in
theorem solve_r (p : Option Addr) (n cp : Nat) (m : List (List Int)) (w : World) (hM : Mat w p m) (hn : m.length = n) :
    Calls Try.prog 43 #[.slice p n cp] w (SolvePost m w) := by
  subst hn
  cases hv : vB m
  case false =>
    have Hv := Lib.hid hv
    go_enter Try.func43, Try.ntmps43
    go_wp2_with ((go_at_call 40; apply Calls.mono; (with_reducible exact valid_r _ _ _ _ _ hM rfl); rintro e w' ⟨rfl, x, rfl⟩))
    go_ret3
    exact ⟨by (repeat (first | exact Grew.refl _ | refine Grew.over ?_ _ | refine Grew.alloc ?_ _ | refine Grew.drew ?_ | refine Grew.drewN ?_ _)), Or.inl ⟨Hv.out, rfl⟩⟩
  case true =>
  have Hv := Lib.hid hv
  clear hv
  have HL : Hid (LOK m []) := Lib.hid ⟨Nat.zero_le _, fun u hu => by simp at hu, fun u hu => by simp at hu⟩
  have Hz : Hid (([] : List Nat).length + m.length = m.length) := Lib.hid (by simp)
  go_enter Try.func43, Try.ntmps43
  go_upto_region 4 with (first
    | (go_at_call 40; apply Calls.mono; (with_reducible exact valid_r _ _ _ _ _ hM rfl); rw [Hv.out]; rintro e w' ⟨rfl, x, rfl⟩)
    | (go_at_call 58; apply Calls.mono; (with_reducible exact best_r m Hv.out m.length _ _ _ 0 0 [] _ rfl (hM.grew (by (repeat (first | exact Grew.refl _ | refine Grew.over ?_ _ | refine Grew.alloc ?_ _ | refine Grew.drew ?_ | refine Grew.drewN ?_ _)))) (Ints.nil _ _) HL.out List.nodup_nil (Nat.le_refl _) (fun _ => ⟨rfl, rfl⟩) Hz.out); rintro e w3 ⟨hg3, ok, v3, s3, rfl, hR⟩; have Hg3 : Hid (Grew w w3) := Lib.hid (Grew.trans (by (repeat (first | exact Grew.refl _ | refine Grew.over ?_ _ | refine Grew.alloc ?_ _ | refine Grew.drew ?_ | refine Grew.drewN ?_ _))) hg3); have HR := Lib.hid hR; clear hg3 hR))
  rcases HR.out with ⟨rfl, rfl, rfl, hno⟩ | ⟨rfl, a, hB, rfl, q, c, rfl, hI, hc⟩
  · have Hno : Hid (∀ a, ¬ Asg m a) := Lib.hid (fun a ha => hno a ha (fun u hu => by simp at hu))
    clear hno HR
    go_wp2
    go_ret3
    exact ⟨Hg3.out, Or.inr (Or.inl ⟨Hv.out, Hno.out, rfl⟩)⟩
  · have HB := Lib.hid hB.best
    have HI := Lib.hid hI
    clear hB hI HR
    go_wp2
    go_ret3
    exact ⟨Hg3.out, Or.inr (Or.inr ⟨Hv.out, a, q, c, HB.out, rfl, HI.out, hc⟩)⟩
end Go.Proofs.Ytdenjldadlgniaa
