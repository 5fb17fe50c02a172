/- Joined by a program from the texts PlnG PlnH PlnI PlnJ PlnA PlnK RefL RefM PlnL OrdA OrdB OrdC OrdD. -/
import Derived.Test.YtlealdicoceekaaDoorRPh
/- The turned system, plain: another outer dart is the first; its labels are shifted. -/
set_option linter.unusedSimpArgs false
set_option linter.unusedVariables false
namespace Go.Proofs.YtlealdicoceekaaDoor
open Go.RowKit

def shl (x : Int) : Int := if x < 0 then x else if x = 0 then 2 else x - 1
def swp (o d : Int) : Int := if d = 0 then o else if d = 1 then oth o else if d = o then 0 else if d = oth o then 1 else d
theorem oth_eq {a b : Int} (h : oth a = oth b) : a = b := by rw [← oth_oth a, h, oth_oth]
theorem oth_ne (a : Int) : oth a ≠ a := by unfold oth; split <;> omega
theorem oth0 : oth 0 = 1 := by decide
theorem oth1 : oth 1 = 0 := by decide
theorem swp_inv {o : Int} (h0 : o ≠ 0) (h1 : o ≠ 1) (d : Int) : swp o (swp o d) = d := by
  have k0 : oth o ≠ 0 := fun e => h1 (oth_eq (by rw [e, oth1]))
  have k1 : oth o ≠ 1 := fun e => h0 (oth_eq (by rw [e, oth0]))
  have k2 := oth_ne o
  unfold swp
  grind
theorem swp_oth {o : Int} (h0 : o ≠ 0) (h1 : o ≠ 1) (d : Int) : swp o (oth d) = oth (swp o d) := by
  have k0 : oth o ≠ 0 := fun e => h1 (oth_eq (by rw [e, oth1]))
  have k1 : oth o ≠ 1 := fun e => h0 (oth_eq (by rw [e, oth0]))
  have k2 := oth_ne o
  have e0 := oth0
  have e1 := oth1
  have e2 := oth_oth o
  have a0 : oth d = 0 ↔ d = 1 := ⟨fun e => oth_eq (by rw [e, oth1]), fun e => by rw [e, oth1]⟩
  have a1 : oth d = 1 ↔ d = 0 := ⟨fun e => oth_eq (by rw [e, oth0]), fun e => by rw [e, oth0]⟩
  have a2 : oth d = o ↔ d = oth o := ⟨fun e => oth_eq (by rw [e, oth_oth]), fun e => by rw [e, oth_oth]⟩
  have a3 : oth d = oth o ↔ d = o := ⟨oth_eq, fun e => by rw [e]⟩
  unfold swp
  simp only [a0, a1, a2, a3]
  grind
/-- The system turned: what was the dart behind 0 in its face is the dart 0, the labels are one less. -/
structure Rot3 (E : List (Int × Int)) (A : List (List Int)) (L : List Int) (E' : List (Int × Int)) (A' : List (List Int)) (L' : List Int) (s : Int → Int) : Prop extends Rel E A E' A' s where
  ll : L'.length = 2 * E.length
  lb : ∀ d, isD E d → lab L' (s d) = shl (lab L d)
  r0 : s 0 = nxF A 0
section
variable {N : Int} {E E' : List (Int × Int)} {A A' : List (List Int)} {L L' : List Int} {s : Int → Int}
theorem out_ne (hT : trgB N E A = true) : nxF A 0 ≠ 0 ∧ nxF A 0 ≠ 1 := by
  obtain ⟨o0, o1, o2, t1, t2, t3⟩ := outer3 hT
  have hn := rts_nodup hT
  unfold rts at hn
  simp only [List.nodup_cons, List.mem_cons, List.not_mem_nil, or_false, not_or, not_false_eq_true, List.nodup_nil, and_true] at hn
  refine ⟨fun e => hn.1.1 ?_, fun e => hn.1.2 ?_⟩
  · rw [e] at t1; exact t1
  · rw [← t2, e, oth1]
theorem rot_ex (hT : trgB N E A = true) (L : List Int) : ∃ E' A' L' s, Rot3 E A L E' A' L' s := by
  have hV := trg_valid hT
  obtain ⟨n0, n1⟩ := out_ne hT
  obtain ⟨i0, i1⟩ := dart01 hT
  have hx := i0.nx hV
  obtain ⟨o, ho⟩ : ∃ o, nxF A 0 = o := ⟨_, rfl⟩
  rw [ho] at n0 n1 hx
  have hop := swp_oth n0 n1
  have hinv := swp_inv n0 n1
  have hisd : ∀ d, isD E d → isD E (swp o d) := fun d hd => by
    unfold swp
    split
    · exact hx
    · split
      · exact hx.oth
      · split
        · exact i0
        · split
          · exact i1
          · exact hd
  let E' : List (Int × Int) := (List.range E.length).map fun i : Nat => (tailE E (swp o (2 * (i : Int))), tailE E (swp o (2 * (i : Int) + 1)))
  have hlen : E'.length = E.length := by simp [E']
  have htl : ∀ d, isD E d → tailE E' d = tailE E (swp o d) := fun d hd => by
    have hi : (d / 2).toNat < E.length := by have := hd.1; have := hd.2; omega
    have hp : pr E' (d / 2).toNat = (tailE E (swp o (2 * (((d / 2).toNat : Nat) : Int))), tailE E (swp o (2 * (((d / 2).toNat : Nat) : Int) + 1))) := by
      rw [pr_eq _ (by rw [hlen]; exact hi)]
      simp [E']
    have t := tail_two E' (d / 2).toNat
    rcases dart_two d hd.1 with e | e
    · rw [e, t.1, hp]
    · rw [e, t.2, hp]
  refine ⟨E', A.map (List.map (swp o)), tab (2 * E.length) fun d => shl (lab L (swp o d)), swp o, ⟨hlen, rfl, hinv, hisd, hop, fun d hd => ?_⟩, tab_length _ _, fun d hd => ?_, ?_⟩
  · rw [htl _ (hisd d hd), hinv]
  · have hs := hisd d hd
    unfold lab
    rw [ge_tab _ (by have := hs.1; have := hs.2; omega), show (((swp o d).toNat : Nat) : Int) = swp o d by have := hs.1; omega, hinv]
  · unfold swp; rw [if_pos rfl, ho]
theorem Rot3.out (h : Rot3 E A L E' A' L' s) (hT : trgB N E A = true) : nxF A' 0 = s (nxF A (nxF A 0)) ∧ nxF A' (nxF A' 0) = nxF A 0 ∧ tailE E' 0 = tailE E 1 ∧ tailE E' 1 = tailE E (nxF A (nxF A 0)) ∧ tailE E' (nxF A' (nxF A' 0)) = tailE E 0 ∧ s 1 = oth (nxF A 0) := by
  have hV := trg_valid hT
  obtain ⟨o0, o1, o2, t1, t2, t3⟩ := outer3 hT
  have e0 : s (nxF A 0) = 0 := by rw [← h.r0, h.inv]
  have e1 : nxF A' 0 = s (nxF A (nxF A 0)) := by
    have := h.nx hV o1
    rw [e0] at this; exact this
  have e2 : nxF A' (nxF A' 0) = nxF A 0 := by
    rw [e1, h.nx hV o2, tri_at hT o0, h.r0]
  have es : s 1 = oth (nxF A 0) := by
    have := h.op 0
    rw [oth0, h.r0] at this; exact this
  have i1 : isD E 1 := by have := o0.oth; rw [oth0] at this; exact this
  refine ⟨e1, e2, ?_, ?_, ?_, es⟩
  · rw [h.tl' o0, h.r0, t1]
  · rw [h.tl' i1, es, t2]
  · rw [e2, h.tl' o1, e0]
theorem Rot3.rts (h : Rot3 E A L E' A' L' s) (hT : trgB N E A = true) : rts E' A' = [tailE E 1, tailE E (nxF A (nxF A 0)), tailE E 0] := by
  obtain ⟨_, _, a, b, c, _⟩ := h.out hT
  unfold Go.Proofs.YtlealdicoceekaaDoor.rts
  rw [a, b, c]
theorem Rot3.mem (h : Rot3 E A L E' A' L' s) (hT : trgB N E A = true) {v : Int} : v ∈ Go.Proofs.YtlealdicoceekaaDoor.rts E' A' ↔ v ∈ Go.Proofs.YtlealdicoceekaaDoor.rts E A := by
  rw [h.rts hT]
  unfold Go.Proofs.YtlealdicoceekaaDoor.rts
  simp only [List.mem_cons, List.not_mem_nil, or_false]
  grind
theorem Rot3.lb' (h : Rot3 E A L E' A' L' s) {d : Int} (hd : isD E d) : lab L' d = shl (lab L (s d)) := by
  have := h.lb (s d) (h.isd d hd); rw [h.inv] at this; exact this
theorem turn_two {l p q X Y : List Int} (h1 : l = p ++ q) (h2 : q ++ p = X ++ Y) : ∃ p' q', l = p' ++ q' ∧ q' ++ p' = Y ++ X := by
  rcases List.append_eq_append_iff.1 h2 with ⟨a, e1, e2⟩ | ⟨a, e1, e2⟩
  · exact ⟨a, Y ++ q, by rw [h1, e2]; simp, by rw [e1]; simp⟩
  · exact ⟨p ++ X, a, by rw [h1, e1]; simp, by rw [e2]; simp⟩
theorem Rot3.sch (h : Rot3 E A L E' A' L' s) (hT : trgB N E A = true) (hS : Sch E A L) : Sch E' A' L' := by
  have hV := trg_valid hT
  have hm : ∀ {v : Int}, v ∈ Go.Proofs.YtlealdicoceekaaDoor.rts E' A' ↔ v ∈ Go.Proofs.YtlealdicoceekaaDoor.rts E A := h.mem hT
  have hto : ∀ {d : Int}, isD E d → tailE E' (oth d) = tailE E (oth (s d)) := fun hd => by rw [h.tl' hd.oth, h.op]
  have hlo : ∀ {d : Int}, isD E d → lab L' (oth d) = shl (lab L (oth (s d))) := fun hd => by rw [h.lb' hd.oth, h.op]
  refine ⟨by rw [h.ll, h.len], fun d hd => ?_, fun d hd a b => ?_, fun d hd a => ?_, fun d hd a => ?_, fun d hd a b => ?_, fun v hv hi => ?_⟩
  · have hd := h.isD.1 hd
    have := hS.rng (s d) (h.isd d hd)
    rw [h.lb' hd]; unfold shl; grind
  · have hd := h.isD.1 hd
    rw [h.tl' hd, hm] at a
    rw [hto hd, hm] at b
    rw [h.lb' hd, hS.out _ (h.isd d hd) a b]; rfl
  · have hd := h.isD.1 hd
    rw [h.tl' hd, hto hd, hm, hm] at a
    have k := hS.one _ (h.isd d hd) a
    have r1 := hS.rng (s d) (h.isd d hd)
    have r2 := hS.rng (oth (s d)) (h.isd d hd).oth
    rw [h.lb' hd, hlo hd]
    unfold shl
    grind
  · have hd := h.isD.1 hd
    rw [h.tl' hd, hm] at a
    rw [h.lb' hd, hS.rt _ (h.isd d hd) a]; rfl
  · have hd := h.isD.1 hd
    rw [hto hd] at a ⊢
    rw [h.lb' hd] at b ⊢
    rw [hm] at a
    have b' : 0 ≤ lab L (s d) := by unfold shl at b; grind
    have k := hS.ld _ (h.isd d hd) a b'
    rw [k, h.rts hT]
    have hn := rts_nodup hT
    obtain ⟨r, hr⟩ : ∃ r, tailE E (oth (s d)) = r := ⟨_, rfl⟩
    rw [hr] at a ⊢
    unfold Go.Proofs.YtlealdicoceekaaDoor.rts at a hn ⊢
    simp only [List.nodup_cons, List.mem_cons, List.not_mem_nil, or_false, not_or, not_false_eq_true, List.nodup_nil, and_true] at hn a
    obtain ⟨⟨n1, n2⟩, n3⟩ := hn
    unfold idx idx idx idx shl
    grind
  · rw [h.al] at hv
    rw [hm] at hi
    obtain ⟨p, q, hr, o0, I2, o1, I0, o2, I1, he, l0, l1, l2, hI2, hI0, hI1⟩ := hS.vx v hv hi
    have he' : q ++ p = (o0 :: I2) ++ (o1 :: (I0 ++ o2 :: I1)) := by rw [he]; simp
    obtain ⟨p', q', hr', hq'⟩ := turn_two hr he'
    have hdd : ∀ d ∈ rowOf A v, isD E d := fun d hd => by
      have := mem_row hV hv hd
      exact ⟨this.1, this.2.1⟩
    have hin : ∀ d, d ∈ o0 :: (I2 ++ o1 :: (I0 ++ o2 :: I1)) → isD E d := fun d hd => hdd d (by
      rw [← he] at hd
      rw [hr]
      exact (List.mem_append.1 hd).elim (fun k => List.mem_append_right _ k) (fun k => List.mem_append_left _ k))
    refine ⟨p'.map s, q'.map s, by rw [h.rowOf hv, hr', List.map_append], s o1, I0.map s, s o2, I1.map s, s o0, I2.map s, ?_, ?_, ?_, ?_, ?_, ?_, ?_⟩
    · rw [← List.map_append, hq']; simp
    · rw [h.lb _ (hin _ (by simp)), l1]; rfl
    · rw [h.lb _ (hin _ (by simp)), l2]; rfl
    · rw [h.lb _ (hin _ (by simp)), l0]; rfl
    · intro d hd
      obtain ⟨x, hx, rfl⟩ := List.mem_map.1 hd
      have hxd := hin x (by simp [hx])
      rw [h.lb _ hxd, ← h.op, h.lb _ hxd.oth, (hI0 x hx).1, (hI0 x hx).2]
      exact ⟨rfl, rfl⟩
    · intro d hd
      obtain ⟨x, hx, rfl⟩ := List.mem_map.1 hd
      have hxd := hin x (by simp [hx])
      rw [h.lb _ hxd, ← h.op, h.lb _ hxd.oth, (hI1 x hx).1, (hI1 x hx).2]
      exact ⟨rfl, rfl⟩
    · intro d hd
      obtain ⟨x, hx, rfl⟩ := List.mem_map.1 hd
      have hxd := hin x (by simp [hx])
      rw [h.lb _ hxd, ← h.op, h.lb _ hxd.oth, (hI2 x hx).1, (hI2 x hx).2]
      exact ⟨rfl, rfl⟩
end
end Go.Proofs.YtlealdicoceekaaDoor

/- The three regions of a vertex, plain. -/
namespace Go.Proofs.YtlealdicoceekaaDoor
open Go.RowKit

/-- What is known of a region: the dart g lies in it, the path in the tree l is on its left, that in the tree r on its right, the root q is not on it. -/
structure Reg (E : List (Int × Int)) (A : List (List Int)) (L : List Int) (v g : Int) (l r : Nat) (q : Int) : Prop where
  p0 : ∀ k, endF E A L (l : Int) k v ∉ rts E A → RW A (wallF E A L v) g (oth (upF A L (l : Int) (endF E A L (l : Int) k v)))
  p1 : ∀ k, endF E A L (r : Int) k v ∉ rts E A → RW A (wallF E A L v) g (upF A L (r : Int) (endF E A L (r : Int) k v))
  no : ∀ d, RW A (wallF E A L v) g d → isD E d ∧ tailE E d ≠ q ∧ tailE E (oth d) ≠ q
  lt : ∀ x, x ∉ rts E A → 0 ≤ x → x < (A.length : Int) → x ≠ v → (∃ d, RW A (wallF E A L v) g d ∧ tailE E d = x) → (∀ d, RW A (wallF E A L x) g d → RW A (wallF E A L v) g d) ∧ ∃ d, RW A (wallF E A L v) g d ∧ ¬ RW A (wallF E A L x) g d
section
variable {N : Int} {E E' : List (Int × Int)} {A A' : List (List Int)} {L L' : List Int} {s : Int → Int}
theorem rgn_two (hT : trgB N E A = true) (hS : Sch E A L) {v : Int} (hvi : v ∉ rts E A) (hv0 : 0 ≤ v) (hv1 : v < (A.length : Int)) : Reg E A L v 1 0 1 (tailE E (nxF A (nxF A 0))) := by
  obtain ⟨a, b, c, d⟩ := reg2 hT hS hvi hv0 hv1
  exact ⟨a, b, c, d⟩
theorem Rot3.up (h : Rot3 E A L E' A' L' s) (hT : trgB N E A = true) (hS : Sch E A L) {t : Nat} (ht : t < 3) {v : Nat} (hv : v < A.length) (hi : (v : Int) ∉ Go.Proofs.YtlealdicoceekaaDoor.rts E A) : upF A' L' (((t + 2) % 3 : Nat) : Int) v = s (upF A L (t : Int) v) := by
  have hd := up_dart hT hS hv hi ht
  have hl := (up_ok hT hS hv hi ht).2
  have hT' := h.trg hT
  have hS' := h.sch hT hS
  have := up_is (t := (t + 2) % 3) hT' hS' (d := s (upF A L (t : Int) v)) (h.isD.2 (h.isd _ hd.1)) (by omega) (by rw [h.lb _ hd.1, hl]; unfold shl; rw [if_neg (by omega)]; split <;> omega) (by rw [h.tl _ hd.1, hd.2, h.mem hT]; exact hi)
  rw [h.tl _ hd.1, hd.2] at this
  exact this
theorem end_in (hT : trgB N E A = true) (hS : Sch E A L) {t : Nat} (ht : t < 3) {v : Int} (hv0 : 0 ≤ v) (hv1 : v < (A.length : Int)) : ∀ k, 0 ≤ endF E A L (t : Int) k v ∧ endF E A L (t : Int) k v < (A.length : Int)
  | 0 => ⟨hv0, hv1⟩
  | k + 1 => by
    have ih := end_in hT hS ht hv0 hv1 k
    rw [endF_suc]
    split
    · exact ih
    · rename_i hi
      obtain ⟨y, hy⟩ : ∃ y : Nat, endF E A L (t : Int) k v = (y : Int) := ⟨(endF E A L (t : Int) k v).toNat, by omega⟩
      rw [hy] at hi ih ⊢
      have hd := up_dart hT hS (v := y) (by omega) hi ht
      unfold parF
      exact head_in (trg_valid hT) hd.1.oth
theorem Rot3.fin (h : Rot3 E A L E' A' L' s) (hT : trgB N E A = true) (hS : Sch E A L) {t : Nat} (ht : t < 3) {v : Int} (hv0 : 0 ≤ v) (hv1 : v < (A.length : Int)) : ∀ k, endF E' A' L' (((t + 2) % 3 : Nat) : Int) k v = endF E A L (t : Int) k v
  | 0 => rfl
  | k + 1 => by
    have ih := h.fin hT hS ht hv0 hv1 k
    have hr := end_in hT hS ht hv0 hv1 k
    rw [endF_suc, endF_suc, ih]
    obtain ⟨y, hy⟩ : ∃ y : Nat, endF E A L (t : Int) k v = (y : Int) := ⟨(endF E A L (t : Int) k v).toNat, by omega⟩
    rw [hy] at hr ⊢
    by_cases hi : (y : Int) ∈ Go.Proofs.YtlealdicoceekaaDoor.rts E A
    · rw [if_pos hi, if_pos ((h.mem hT).2 hi)]
    · rw [if_neg hi, if_neg (fun k => hi ((h.mem hT).1 k))]
      have hd := up_dart hT hS (v := y) (by omega) hi ht
      unfold parF
      rw [h.up hT hS ht (by omega) hi, ← h.op, h.tl _ hd.1.oth]
/-- Walls, by their darts. -/
theorem wall_dart {v d : Int} : d / 2 ∈ wallF E A L v ↔ (∃ x ∈ sdL A, d = x ∨ d = oth x) ∨ ∃ t : Nat, t < 3 ∧ ∃ k, k < A.length ∧ endF E A L (t : Int) k v ∉ rts E A ∧ (d = upF A L (t : Int) (endF E A L (t : Int) k v) ∨ d = oth (upF A L (t : Int) (endF E A L (t : Int) k v))) := by
  have key : ∀ x : Int, d / 2 = x / 2 ↔ (d = x ∨ d = oth x) := fun x => ⟨fun e => half_same e, fun e => by rcases e with e | e <;> rw [e]; exact half_oth x⟩
  rw [mem_wall]
  simp only [key]
theorem Rot3.wall (h : Rot3 E A L E' A' L' s) (hT : trgB N E A = true) (hS : Sch E A L) {v : Int} (hv0 : 0 ≤ v) (hv1 : v < (A.length : Int)) {d : Int} : s d / 2 ∈ wallF E' A' L' v ↔ d / 2 ∈ wallF E A L v := by
  have hV := trg_valid hT
  obtain ⟨o0, o1, o2, t1, t2, t3⟩ := outer3 hT
  obtain ⟨e1, e2, _, _, _, _⟩ := h.out hT
  have hsd : ∀ x, s x ∈ sdL A' ↔ x ∈ sdL A := fun x => by
    have q0 : s x = 0 ↔ x = nxF A 0 := ⟨fun e => by rw [← h.inv x, e, h.r0], fun e => by rw [e, ← h.r0, h.inv]⟩
    have q1 : s x = nxF A 0 ↔ x = 0 := ⟨fun e => by rw [← h.r0] at e; exact h.inj e, fun e => by rw [e, h.r0]⟩
    have q2 : s x = s (nxF A (nxF A 0)) ↔ x = nxF A (nxF A 0) := ⟨fun e => h.inj e, fun e => by rw [e]⟩
    unfold sdL
    rw [e2, e1]
    simp only [List.mem_cons, List.not_mem_nil, or_false, q0, q1, q2]
    grind
  have hso : ∀ x y : Int, (s x = s y ∨ s x = oth (s y)) ↔ (x = y ∨ x = oth y) := fun x y => by
    rw [← h.op]
    exact ⟨fun e => e.imp h.inj h.inj, fun e => e.imp (congrArg s) (congrArg s)⟩
  have hup : ∀ t : Nat, t < 3 → ∀ k, endF E A L (t : Int) k v ∉ Go.Proofs.YtlealdicoceekaaDoor.rts E A → upF A' L' (((t + 2) % 3 : Nat) : Int) (endF E A L (t : Int) k v) = s (upF A L (t : Int) (endF E A L (t : Int) k v)) := fun t ht k hi => by
    have hr := end_in hT hS ht hv0 hv1 k
    obtain ⟨y, hy⟩ : ∃ y : Nat, endF E A L (t : Int) k v = (y : Int) := ⟨(endF E A L (t : Int) k v).toNat, by omega⟩
    rw [hy] at hr hi ⊢
    exact h.up hT hS ht (by omega) hi
  rw [wall_dart, wall_dart]
  constructor
  · rintro (⟨x, hx, e⟩ | ⟨t, ht, k, hk, hi, e⟩)
    · refine Or.inl ⟨s x, ?_, ?_⟩
      · rw [← hsd, h.inv]; exact hx
      · rw [← hso, h.inv]; exact e
    · rw [h.al] at hk
      have ht2 : t = ((t + 1) % 3 + 2) % 3 := by omega
      have ht3 : (t + 1) % 3 < 3 := by omega
      rw [ht2, h.fin hT hS ht3 hv0 hv1] at hi e
      rw [h.mem hT] at hi
      rw [hup _ ht3 k hi, hso] at e
      exact Or.inr ⟨(t + 1) % 3, ht3, k, hk, hi, e⟩
  · rintro (⟨x, hx, e⟩ | ⟨t, ht, k, hk, hi, e⟩)
    · exact Or.inl ⟨s x, (hsd x).2 hx, (hso _ _).2 e⟩
    · refine Or.inr ⟨(t + 2) % 3, by omega, k, by rw [h.al]; exact hk, ?_, ?_⟩
      · rw [h.fin hT hS ht hv0 hv1, h.mem hT]; exact hi
      · rw [h.fin hT hS ht hv0 hv1, hup _ ht k hi, hso]; exact e
theorem Rot3.rw1 (h : Rot3 E A L E' A' L' s) (hT : trgB N E A = true) (hS : Sch E A L) {v : Int} (hv0 : 0 ≤ v) (hv1 : v < (A.length : Int)) {g : Int} (hg : isD E g) {d : Int} (hr : RW A (wallF E A L v) g d) : isD E d ∧ RW A' (wallF E' A' L' v) (s g) (s d) := by
  have hV := trg_valid hT
  induction hr with
  | base => exact ⟨hg, .base⟩
  | nx _ ih => exact ⟨ih.1.nx hV, by rw [← h.nx hV ih.1]; exact .nx ih.2⟩
  | op _ hw ih => exact ⟨ih.1.oth, by rw [h.op]; exact .op ih.2 (fun k => hw ((h.wall hT hS hv0 hv1).1 k))⟩
theorem Rot3.rw2 (h : Rot3 E A L E' A' L' s) (hT : trgB N E A = true) (hS : Sch E A L) {v : Int} (hv0 : 0 ≤ v) (hv1 : v < (A.length : Int)) {g : Int} (hg : isD E g) {d : Int} (hr : RW A' (wallF E' A' L' v) (s g) d) : isD E d ∧ RW A (wallF E A L v) g (s d) := by
  have hV := trg_valid hT
  induction hr with
  | base => exact ⟨h.isd g hg, by rw [h.inv]; exact .base⟩
  | @nx d _ ih =>
    have hsd := h.isd d ih.1
    have e := h.nx hV hsd
    rw [h.inv] at e
    rw [e, h.inv]
    exact ⟨h.isd _ (hsd.nx hV), .nx ih.2⟩
  | @op d _ hw ih =>
    refine ⟨ih.1.oth, ?_⟩
    rw [h.op]
    refine .op ih.2 (fun k => hw ?_)
    have := (h.wall hT hS hv0 hv1 (d := s d)).2 k
    rw [h.inv] at this; exact this
theorem Rot3.rw (h : Rot3 E A L E' A' L' s) (hT : trgB N E A = true) (hS : Sch E A L) {v : Int} (hv0 : 0 ≤ v) (hv1 : v < (A.length : Int)) {g : Int} (hg : isD E g) {d : Int} : RW A' (wallF E' A' L' v) (s g) (s d) ↔ RW A (wallF E A L v) g d :=
  ⟨fun k => by have := (h.rw2 hT hS hv0 hv1 hg k).2; rw [h.inv] at this; exact this, fun k => (h.rw1 hT hS hv0 hv1 hg k).2⟩
theorem Rot3.reg (h : Rot3 E A L E' A' L' s) (hT : trgB N E A = true) (hS : Sch E A L) {v : Int} (hv0 : 0 ≤ v) (hv1 : v < (A.length : Int)) {g q : Int} (hg : isD E g) {l r : Nat} (hl : l < 3) (hr : r < 3)
    (k : Reg E' A' L' v (s g) ((l + 2) % 3) ((r + 2) % 3) q) : Reg E A L v g l r q := by
  have hV := trg_valid hT
  have hup : ∀ t : Nat, t < 3 → ∀ k, endF E A L (t : Int) k v ∉ Go.Proofs.YtlealdicoceekaaDoor.rts E A → upF A' L' (((t + 2) % 3 : Nat) : Int) (endF E A L (t : Int) k v) = s (upF A L (t : Int) (endF E A L (t : Int) k v)) := fun t ht k hi => by
    have hr := end_in hT hS ht hv0 hv1 k
    obtain ⟨y, hy⟩ : ∃ y : Nat, endF E A L (t : Int) k v = (y : Int) := ⟨(endF E A L (t : Int) k v).toNat, by omega⟩
    rw [hy] at hr hi ⊢
    exact h.up hT hS ht (by omega) hi
  have hrw := @Rot3.rw N E E' A A' L L' s h hT hS v hv0 hv1 g hg
  refine ⟨fun j hj => ?_, fun j hj => ?_, fun d hd => ?_, fun x hxi hx0 hx1 hxv hex => ?_⟩
  · have := k.p0 j (by rw [h.fin hT hS hl hv0 hv1, h.mem hT]; exact hj)
    rw [h.fin hT hS hl hv0 hv1, hup l hl j hj, ← h.op] at this
    exact hrw.1 this
  · have := k.p1 j (by rw [h.fin hT hS hr hv0 hv1, h.mem hT]; exact hj)
    rw [h.fin hT hS hr hv0 hv1, hup r hr j hj] at this
    exact hrw.1 this
  · have hdd := (h.rw1 hT hS hv0 hv1 hg hd).1
    obtain ⟨_, a, b⟩ := k.no (s d) (hrw.2 hd)
    rw [h.tl _ hdd] at a
    rw [← h.op, h.tl _ hdd.oth] at b
    exact ⟨hdd, a, b⟩
  · obtain ⟨d, hd, hdx⟩ := hex
    have hdd := (h.rw1 hT hS hv0 hv1 hg hd).1
    obtain ⟨a, d', b, c⟩ := k.lt x (fun m => hxi ((h.mem hT).1 m)) hx0 (by rw [h.al]; exact hx1) hxv ⟨s d, hrw.2 hd, by rw [h.tl _ hdd]; exact hdx⟩
    have hrx := @Rot3.rw N E E' A A' L L' s h hT hS x hx0 hx1 g hg
    refine ⟨fun y hy => hrw.1 (a _ (hrx.2 hy)), s d', (h.rw2 hT hS hv0 hv1 hg b).2, fun m => c ?_⟩
    have := hrx.2 m
    rw [h.inv] at this; exact this
theorem rgn_zero (hT : trgB N E A = true) (hS : Sch E A L) {v : Int} (hvi : v ∉ rts E A) (hv0 : 0 ≤ v) (hv1 : v < (A.length : Int)) : Reg E A L v (oth (nxF A 0)) 1 2 (tailE E 0) := by
  obtain ⟨E', A', L', s, h⟩ := rot_ex hT L
  obtain ⟨o0, o1, o2, t1, t2, t3⟩ := outer3 hT
  obtain ⟨e1, e2, _, _, e5, e6⟩ := h.out hT
  have k := rgn_two (h.trg hT) (h.sch hT hS) (v := v) (fun m => hvi ((h.mem hT).1 m)) hv0 (by rw [h.al]; exact hv1)
  rw [e5] at k
  refine h.reg hT hS hv0 hv1 o1.oth (by decide) (by decide) ?_
  rw [h.op, show s (nxF A 0) = 0 by rw [← h.r0, h.inv], oth0]
  exact k
theorem rgn_one (hT : trgB N E A = true) (hS : Sch E A L) {v : Int} (hvi : v ∉ rts E A) (hv0 : 0 ≤ v) (hv1 : v < (A.length : Int)) : Reg E A L v (oth (nxF A (nxF A 0))) 2 0 (tailE E 1) := by
  obtain ⟨E', A', L', s, h⟩ := rot_ex hT L
  obtain ⟨o0, o1, o2, t1, t2, t3⟩ := outer3 hT
  obtain ⟨e1, e2, e3, _, e5, e6⟩ := h.out hT
  have k := rgn_zero (h.trg hT) (h.sch hT hS) (v := v) (fun m => hvi ((h.mem hT).1 m)) hv0 (by rw [h.al]; exact hv1)
  rw [e3, e1, ← h.op] at k
  exact h.reg hT hS hv0 hv1 o2.oth (by decide) (by decide) k
end
end Go.Proofs.YtlealdicoceekaaDoor

/- The three regions cover the inner faces, each once; plain. -/
namespace Go.Proofs.YtlealdicoceekaaDoor
open Go.RowKit

theorem RW.trans {A : List (List Int)} {W : List Int} {g d x : Int} (h : RW A W g d) (k : RW A W d x) : RW A W g x := by
  induction k with
  | base => exact h
  | nx _ ih => exact .nx ih
  | op _ hw ih => exact .op ih hw
section
variable {N : Int} {E : List (Int × Int)} {A : List (List Int)} {L : List Int}
theorem RW.symm (hT : trgB N E A = true) {W : List Int} {g d : Int} (hg : isD E g) (h : RW A W g d) : isD E d ∧ RW A W d g := by
  have hV := trg_valid hT
  induction h with
  | base => exact ⟨hg, .base⟩
  | @nx d _ ih =>
    have k : RW A W (nxF A d) (nxF A (nxF A (nxF A d))) := .nx (.nx .base)
    rw [tri_at hT ih.1] at k
    exact ⟨ih.1.nx hV, k.trans ih.2⟩
  | @op d _ hw ih => exact ⟨ih.1.oth, RW.trans (by have := RW.op (RW.base (A := A) (W := W) (g := oth d)) (by rw [half_oth]; exact hw); rw [oth_oth] at this; exact this) ih.2⟩
/-- Every dart is reached from one by the steps around a face and over an edge. -/
theorem all_darts (hT : trgB N E A = true) {P : Int → Prop} {x : Int} (hx : isD E x) (h0 : P x) (hn : ∀ d, isD E d → P d → P (nxF A d)) (ho : ∀ d, isD E d → P d → P (oth d)) : ∀ d, isD E d → P d := by
  have hV := trg_valid hT
  obtain ⟨hg, hc, _, hN⟩ := chk_all (trg_chk hT)
  have hA0 : 0 < A.length := by have := hV.al; omega
  have hone : cntL E A.length = 1 := by unfold connB at hc; exact of_decide_eq_true hc
  have hcn := (one_comp hA0).1 hone
  have hrow : ∀ y, isD E y → P y → ∀ z, isD E z → tailE E z = tailE E y → P z := fun y hy hPy z hz e => by
    obtain ⟨v, hv, hm, ht⟩ := row_of hV hy.1 hy.2
    obtain ⟨v', hv', hm', ht'⟩ := row_of hV hz.1 hz.2
    have : v' = v := by omega
    subst this
    exact ((row_cyc hV hv (List.ne_nil_of_mem hm)).sub (S := fun d => isD E d ∧ P d) (fun d hd => ⟨hd.1.suc hV, by have := hn _ hd.1.oth (ho _ hd.1 hd.2); unfold nxF at this; rw [oth_oth] at this; exact this⟩) hm ⟨hy, hPy⟩ z hm').2
  have key : ∀ u, Cn E E.length (tailE E x) u → ∀ d, isD E d → tailE E d = u → P d := by
    intro u hu
    induction hu with
    | refl => intro d hd e; exact hrow x hx h0 d hd e
    | step _ hnb ih =>
      intro d hd e
      obtain ⟨y, hy, e1, e2⟩ := nbr_ends.1 hnb
      exact hrow (oth y) hy.oth (ho _ hy (ih y hy e1)) d hd (by rw [e, e2])
  intro d hd
  have r1 := head_in hV hx
  have r2 := head_in hV hd
  have c1 := hcn (tailE E x).toNat (by omega)
  have c2 := hcn (tailE E d).toNat (by omega)
  rw [show (((tailE E x).toNat : Nat) : Int) = tailE E x by omega] at c1
  rw [show (((tailE E d).toNat : Nat) : Int) = tailE E d by omega] at c2
  exact key _ (c1.symm.trans c2) d hd rfl

/-! ### The three regions -/
def bsD (A : List (List Int)) (i : Nat) : Int := if i = 0 then oth (nxF A 0) else if i = 1 then oth (nxF A (nxF A 0)) else 1
def rtD (A : List (List Int)) (i : Nat) : Int := if i = 0 then 0 else if i = 1 then 1 else nxF A (nxF A 0)
theorem reg_i (hT : trgB N E A = true) (hS : Sch E A L) {v : Int} (hvi : v ∉ rts E A) (hv0 : 0 ≤ v) (hv1 : v < (A.length : Int)) {i : Nat} (hi : i < 3) : Reg E A L v (bsD A i) ((i + 1) % 3) ((i + 2) % 3) (tailE E (rtD A i)) := by
  rcases (by omega : i = 0 ∨ i = 1 ∨ i = 2) with rfl | rfl | rfl
  · exact rgn_zero hT hS hvi hv0 hv1
  · exact rgn_one hT hS hvi hv0 hv1
  · exact rgn_two hT hS hvi hv0 hv1
theorem bs_in (hT : trgB N E A = true) (i : Nat) : isD E (bsD A i) := by
  obtain ⟨o0, o1, o2, t1, t2, t3⟩ := outer3 hT
  unfold bsD
  split
  · exact o1.oth
  · split
    · exact o2.oth
    · have := o0.oth; rw [oth0] at this; exact this
theorem bs_touch (hT : trgB N E A = true) {i j : Nat} (hi : i < 3) (hj : j < 3) (h : i ≠ j) : tailE E (bsD A j) = tailE E (rtD A i) ∨ tailE E (oth (bsD A j)) = tailE E (rtD A i) := by
  obtain ⟨o0, o1, o2, t1, t2, t3⟩ := outer3 hT
  rcases (by omega : i = 0 ∨ i = 1 ∨ i = 2) with rfl | rfl | rfl <;> rcases (by omega : j = 0 ∨ j = 1 ∨ j = 2) with rfl | rfl | rfl <;> simp [bsD, rtD, oth_oth, oth1, t1, t2, t3] at h ⊢
theorem rt_out (i : Nat) : rtD A i = 0 ∨ rtD A i = 1 ∨ rtD A i = nxF A (nxF A 0) := by
  unfold rtD; split
  · exact Or.inl rfl
  · split
    · exact Or.inr (Or.inl rfl)
    · exact Or.inr (Or.inr rfl)
def outD (A : List (List Int)) (d : Int) : Prop := d = 0 ∨ d = nxF A 0 ∨ d = nxF A (nxF A 0)
/-- No dart of the outer face lies in a region. -/
theorem reg_out (hT : trgB N E A = true) {v g : Int} {l r i : Nat} (h : Reg E A L v g l r (tailE E (rtD A i))) {d : Int} (hd : outD A d) : ¬ RW A (wallF E A L v) g d := by
  obtain ⟨o0, o1, o2, t1, t2, t3⟩ := outer3 hT
  intro k
  have k0 : RW A (wallF E A L v) g 0 := by
    rcases hd with rfl | rfl | rfl
    · exact k
    · have := k.nx.nx; rw [tri_at hT o0] at this; exact this
    · have := k.nx; rw [tri_at hT o0] at this; exact this
  have n0 := (h.no _ k0).2
  have n2 := (h.no _ k0.nx.nx).2.1
  rw [oth0] at n0
  rcases rt_out (A := A) i with e | e | e
  · rw [e] at n0; exact n0.1 rfl
  · rw [e] at n0; exact n0.2 rfl
  · rw [e] at n2; exact n2 rfl
theorem reg_dis (hT : trgB N E A = true) (hS : Sch E A L) {v : Int} (hvi : v ∉ rts E A) (hv0 : 0 ≤ v) (hv1 : v < (A.length : Int)) {i j : Nat} (hi : i < 3) (hj : j < 3) {d : Int} (h1 : RW A (wallF E A L v) (bsD A i) d) (h2 : RW A (wallF E A L v) (bsD A j) d) : i = j := by
  apply Classical.byContradiction
  intro hne
  have k := (reg_i hT hS hvi hv0 hv1 hi).no _ (h1.trans (h2.symm hT (bs_in hT j)).2)
  rcases bs_touch hT hi hj hne with e | e
  · exact k.2.1 e
  · exact k.2.2 e
theorem reg_cov (hT : trgB N E A = true) (hS : Sch E A L) {v : Int} (hvi : v ∉ rts E A) (hv0 : 0 ≤ v) (hv1 : v < (A.length : Int)) {d : Int} (hd : isD E d) : outD A d ∨ ∃ i, i < 3 ∧ RW A (wallF E A L v) (bsD A i) d := by
  have hV := trg_valid hT
  obtain ⟨o0, o1, o2, t1, t2, t3⟩ := outer3 hT
  refine all_darts hT (P := fun d => outD A d ∨ ∃ i, i < 3 ∧ RW A (wallF E A L v) (bsD A i) d) (bs_in hT 2) (Or.inr ⟨2, by decide, .base⟩) (fun d hd h => ?_) (fun d hd h => ?_) d hd
  · rcases h with h | ⟨i, hi, h⟩
    · refine Or.inl ?_
      rcases h with rfl | rfl | rfl
      · exact Or.inr (Or.inl rfl)
      · exact Or.inr (Or.inr rfl)
      · exact Or.inl (tri_at hT o0)
    · exact Or.inr ⟨i, hi, h.nx⟩
  · rcases h with h | ⟨i, hi, h⟩
    · refine Or.inr ?_
      rcases h with rfl | rfl | rfl
      · exact ⟨2, by decide, by rw [oth0]; exact .base⟩
      · exact ⟨0, by decide, .base⟩
      · exact ⟨1, by decide, .base⟩
    · by_cases hw : d / 2 ∈ wallF E A L v
      · rw [wall_dart] at hw
        rcases hw with ⟨x, hx, e⟩ | ⟨t, ht, k, hk, hki, e⟩
        · unfold sdL at hx
          simp only [List.mem_cons, List.not_mem_nil, or_false] at hx
          rcases e with e | e
          · exact absurd h (reg_out hT (reg_i hT hS hvi hv0 hv1 hi) (by rw [e]; exact hx))
          · refine Or.inl ?_
            rw [e, oth_oth]; exact hx
        · rcases e with e | e
          · refine Or.inr ⟨(t + 2) % 3, by omega, ?_⟩
            have := (reg_i hT hS hvi hv0 hv1 (i := (t + 2) % 3) (by omega)).p0 k
            rw [show ((t + 2) % 3 + 1) % 3 = t by omega] at this
            rw [e]; exact this hki
          · refine Or.inr ⟨(t + 1) % 3, by omega, ?_⟩
            have := (reg_i hT hS hvi hv0 hv1 (i := (t + 1) % 3) (by omega)).p1 k
            rw [show ((t + 1) % 3 + 2) % 3 = t by omega] at this
            rw [e, oth_oth]; exact this hki
      · exact Or.inr ⟨i, hi, .op h hw⟩

/-! ### Faces -/
noncomputable def fcD (N : Int) (E : List (Int × Int)) (A : List (List Int)) (d : Int) : Int := ge (faceL N E A) d.toNat
theorem fc_row (hV : vRot N E A) {d : Int} (hd : isD E d) : ∃ i, i < (facesO N E A).length ∧ d ∈ rowOf (facesO N E A) i ∧ fcD N E A d = i := by
  have hO := facs_ok hV
  have hlt : d.toNat < 2 * E.length := by have := hd.1; have := hd.2; omega
  obtain ⟨i, hi, hm⟩ := hO.cov d hd.1 (by have := hd.2; omega)
  refine ⟨i, hi, hm, ?_⟩
  unfold fcD faceL
  rw [ge_tab _ hlt, show ((d.toNat : Nat) : Int) = d by have := hd.1; omega]
  have : fcI (facesO N E A) d = i := by
    unfold fcI
    refine (List.findIdx_eq hi).2 ⟨by rw [← rowOf_eq _ hi]; exact decide_eq_true hm, fun j hj => ?_⟩
    rw [← rowOf_eq _ (by omega)]
    exact decide_eq_false (fun k => by have := hO.dis i j hi (by omega) _ hm k; omega)
  rw [this]
theorem fc_cyc (hV : vRot N E A) {i : Nat} (hi : i < (facesO N E A).length) : Cyc (nxF A) (rowOf (facesO N E A) i) := by
  have hD := fac_dec hV
  have hF : facesO N E A = facesF A (2 * E.length) := by unfold facesO; rw [if_pos (vRotB_iff.2 hV)]
  rw [← hF] at hD
  exact hD.cyc _ (by rw [rowOf_eq _ hi]; exact List.getElem_mem hi)
theorem fc_lt (hV : vRot N E A) {d : Int} (hd : isD E d) : 0 ≤ fcD N E A d ∧ fcD N E A d < ((facesO N E A).length : Int) := by
  obtain ⟨i, hi, _, e⟩ := fc_row hV hd
  omega
theorem fc_nx (hV : vRot N E A) {d : Int} (hd : isD E d) : fcD N E A (nxF A d) = fcD N E A d := by
  obtain ⟨i, hi, hm, e⟩ := fc_row hV hd
  obtain ⟨j, hj, hm', e'⟩ := fc_row hV (hd.nx hV)
  have := (facs_ok hV).dis i j hi hj _ ((fc_cyc hV hi).img hm) hm'
  rw [e, e', this]
theorem fc_eq (hT : trgB N E A = true) {d x : Int} (hd : isD E d) (hx : isD E x) (h : fcD N E A d = fcD N E A x) : x = d ∨ x = nxF A d ∨ x = nxF A (nxF A d) := by
  have hV := trg_valid hT
  obtain ⟨i, hi, hm, e⟩ := fc_row hV hd
  obtain ⟨j, hj, hm', e'⟩ := fc_row hV hx
  have : j = i := by omega
  subst this
  refine (fc_cyc hV hi).sub (S := fun y => y = d ∨ y = nxF A d ∨ y = nxF A (nxF A d)) (fun y hy => ?_) hm (Or.inl rfl) x hm'
  rcases hy with rfl | rfl | rfl
  · exact Or.inr (Or.inl rfl)
  · exact Or.inr (Or.inr rfl)
  · exact Or.inl (tri_at hT hd)
theorem fc_sur (hV : vRot N E A) {f : Int} (h0 : 0 ≤ f) (h1 : f < ((facesO N E A).length : Int)) : ∃ d, isD E d ∧ fcD N E A d = f := by
  obtain ⟨i, rfl⟩ : ∃ i : Nat, f = (i : Int) := ⟨f.toNat, by omega⟩
  have hi : i < (facesO N E A).length := by omega
  obtain ⟨d, hd⟩ := List.exists_mem_of_ne_nil _ (fc_cyc hV hi).ne
  have hr := (facs_ok hV).inn i hi d hd
  have hdd : isD E d := ⟨hr.1, by have := hr.2; omega⟩
  obtain ⟨j, hj, hm, e⟩ := fc_row hV hdd
  exact ⟨d, hdd, by rw [e, (facs_ok hV).dis i j hi hj _ hd hm]⟩
theorem rw_fc (hT : trgB N E A = true) {W : List Int} {g d x : Int} (hd : isD E d) (hx : isD E x) (h : RW A W g d) (e : fcD N E A d = fcD N E A x) : RW A W g x := by
  rcases fc_eq hT hd hx e with k | k | k
  · rw [k]; exact h
  · rw [k]; exact h.nx
  · rw [k]; exact h.nx.nx
theorem rc_rw (hT : trgB N E A = true) {W : List Int} {g : Int} (hg : isD E g) {f : Int} : Rc (edgR (2 * E.length) (faceL N E A) W) (fcD N E A g) f ↔ ∃ d, isD E d ∧ RW A W g d ∧ fcD N E A d = f := by
  have hV := trg_valid hT
  constructor
  · intro h
    induction h with
    | refl => exact ⟨g, hg, .base, rfl⟩
    | step _ he ih =>
      obtain ⟨d, hd, hr, e⟩ := ih
      obtain ⟨x, hx, e1, hw, e2⟩ := he
      have hxd : isD E (x : Int) := ⟨by omega, by omega⟩
      have hrx := rw_fc hT hd hxd hr (by rw [e, ← e1]; rfl)
      exact ⟨oth x, hxd.oth, .op hrx hw, e2⟩
  · rintro ⟨d, hd, hr, rfl⟩
    have key : ∀ d, RW A W g d → isD E d ∧ Rc (edgR (2 * E.length) (faceL N E A) W) (fcD N E A g) (fcD N E A d) := by
      intro d hr
      induction hr with
      | base => exact ⟨hg, .refl⟩
      | nx _ ih => exact ⟨ih.1.nx hV, by rw [fc_nx hV ih.1]; exact ih.2⟩
      | @op d _ hw ih =>
        refine ⟨ih.1.oth, ih.2.step ⟨d.toNat, by have := ih.1.1; have := ih.1.2; omega, rfl, ?_, ?_⟩⟩
        · rw [show ((d.toNat : Nat) : Int) = d by have := ih.1.1; omega]; exact hw
        · rw [show ((d.toNat : Nat) : Int) = d by have := ih.1.1; omega]; rfl
    exact (key d hr).2
end
end Go.Proofs.YtlealdicoceekaaDoor

/- The faces of the regions, counted; the coordinates are barycentric; plain. -/
namespace Go.Proofs.YtlealdicoceekaaDoor
open Go.RowKit

open Classical in
noncomputable def cnP (F : Nat) (P : Int → Prop) : Nat := ((idL F).filter fun f => decide (P f)).length
theorem mem_cn {F : Nat} {P : Int → Prop} {f : Int} : f ∈ (idL F).filter (fun f => @decide (P f) (Classical.propDecidable _)) ↔ 0 ≤ f ∧ f < (F : Int) ∧ P f := by
  rw [List.mem_filter, mem_idL]
  simp [and_assoc]
theorem cn_nodup {F : Nat} {P : Int → Prop} : ((idL F).filter (fun f => @decide (P f) (Classical.propDecidable _))).Nodup := (idL_nodup F).sublist List.filter_sublist
theorem cn_lt {F : Nat} {P Q : Int → Prop} (h : ∀ f, 0 ≤ f → f < (F : Int) → P f → Q f) {x : Int} (h0 : 0 ≤ x) (h1 : x < (F : Int)) (hq : Q x) (hp : ¬ P x) : cnP F P < cnP F Q := by
  unfold cnP
  refine sub_len (L := x :: _) (List.nodup_cons.2 ⟨fun k => hp (mem_cn.1 k).2.2, cn_nodup⟩) fun y hy => mem_cn.2 ?_
  rcases List.mem_cons.1 hy with rfl | k
  · exact ⟨h0, h1, hq⟩
  · have := mem_cn.1 k
    exact ⟨this.1, this.2.1, h y this.1 this.2.1 this.2.2⟩
theorem cn_pos {F : Nat} {P : Int → Prop} {x : Int} (h0 : 0 ≤ x) (h1 : x < (F : Int)) (hq : P x) : 1 ≤ cnP F P :=
  List.length_pos_of_mem (mem_cn.2 ⟨h0, h1, hq⟩)
theorem cn_one {F : Nat} {x : Int} (h0 : 0 ≤ x) (h1 : x < (F : Int)) : cnP F (fun f => f = x) = 1 := by
  refine Nat.le_antisymm (sub_len (l := [x]) cn_nodup fun y hy => ?_) (cn_pos h0 h1 rfl)
  rw [(mem_cn.1 hy).2.2]; simp
theorem cn_four {F : Nat} {P Q R S : Int → Prop} (h : ∀ f, 0 ≤ f → f < (F : Int) → (P f ∧ ¬ Q f ∧ ¬ R f ∧ ¬ S f) ∨ (¬ P f ∧ Q f ∧ ¬ R f ∧ ¬ S f) ∨ (¬ P f ∧ ¬ Q f ∧ R f ∧ ¬ S f) ∨ (¬ P f ∧ ¬ Q f ∧ ¬ R f ∧ S f)) : cnP F P + cnP F Q + cnP F R + cnP F S = F := by
  have key : ∀ l : List Int, (∀ f ∈ l, 0 ≤ f ∧ f < (F : Int)) → (l.filter fun f => @decide (P f) (Classical.propDecidable _)).length + (l.filter fun f => @decide (Q f) (Classical.propDecidable _)).length + (l.filter fun f => @decide (R f) (Classical.propDecidable _)).length + (l.filter fun f => @decide (S f) (Classical.propDecidable _)).length = l.length := by
    intro l
    induction l with
    | nil => intro _; rfl
    | cons x l ih =>
      intro hl
      have := ih fun f hf => hl f (List.mem_cons_of_mem _ hf)
      obtain ⟨h0, h1⟩ := hl x (by simp)
      rcases h x h0 h1 with ⟨a, b, c, d⟩ | ⟨a, b, c, d⟩ | ⟨a, b, c, d⟩ | ⟨a, b, c, d⟩ <;> simp only [List.filter_cons, a, b, c, d, decide_true, decide_false, if_true, List.length_cons, Bool.false_eq_true, if_false] <;> omega
  have := key (idL F) fun f hf => mem_idL.1 hf
  unfold cnP
  rw [this]
  unfold idL; simp
theorem flat_three : ∀ {F : List (List Int)}, (∀ l ∈ F, l.length = 3) → F.flatten.length = 3 * F.length
  | [], _ => rfl
  | l :: F, h => by
    rw [List.flatten_cons, List.length_append, h l (by simp), flat_three fun m hm => h m (List.mem_cons_of_mem _ hm), List.length_cons]; omega
theorem cntP_none {p : Nat → Prop} : ∀ {n : Nat}, (∀ v, v < n → ¬ p v) → cntP p n = 0
  | 0, _ => rfl
  | n + 1, h => by simp only [cntP]; rw [if_neg (h n (by omega)), cntP_none fun v hv => h v (by omega)]
section
variable {N : Int} {E : List (Int × Int)} {A : List (List Int)} {L : List Int}
theorem face_count (hT : trgB N E A = true) : ((facesO N E A).length : Int) = 2 * N - 4 := by
  have hV := trg_valid hT
  obtain ⟨hg, hc, _, hN⟩ := chk_all (trg_chk hT)
  have hAl := hV.al
  have hA0 : 0 < A.length := by omega
  have hone : cntL E A.length = 1 := by unfold connB at hc; exact of_decide_eq_true hc
  have hcn := (one_comp hA0).1 hone
  have hF : facesO N E A = facesF A (2 * E.length) := by unfold facesO; rw [if_pos (vRotB_iff.2 hV)]
  have hD := fac_dec hV
  have hall : ∀ l ∈ facesF A (2 * E.length), l.length = 3 := fun l hl => by
    unfold trgB at hT
    rw [Bool.and_eq_true, List.all_eq_true] at hT
    have := hT.2 l (by rw [hF]; exact hl)
    exact of_decide_eq_true this
  have h3 := flat_three hall
  have h2 := same_len hD.nd (idL_nodup (2 * E.length)) (fun y => by rw [hD.mem, mem_idL]; push_cast; rfl)
  have hil : (idL (2 * E.length)).length = 2 * E.length := by unfold idL; simp
  rw [hil] at h2
  have hiso : isoN A = 0 := by
    unfold isoN
    refine cntP_none fun u hu h0 => ?_
    obtain ⟨w, hw, hwu⟩ : ∃ w : Nat, w < A.length ∧ w ≠ u := by
      by_cases e : u = 0
      · exact ⟨1, by omega, by omega⟩
      · exact ⟨0, by omega, by omega⟩
    have hc := (hcn w hw).symm.trans (hcn u hu)
    obtain ⟨z, hz⟩ : ∃ z : Int, (u : Int) = z := ⟨_, rfl⟩
    rw [hz] at hc
    cases hc with
    | refl => omega
    | step _ hn =>
      obtain ⟨d, hd, _, e⟩ := nbr_ends.1 hn
      obtain ⟨v, hv, hm, ht⟩ := row_of hV hd.oth.1 hd.oth.2
      have : v = u := by omega
      subst this
      rw [List.length_eq_zero_iff.1 h0] at hm
      cases hm
  have hev := (gen_main _ rfl hV).1
  have hge := genus_eq hV
  rw [hg, hone] at hge
  have hx : genX N E A = N - E.length + (((facesF A (2 * E.length)).length : Int) + isoN A) := rfl
  rw [hiso] at hx
  obtain ⟨k, hk⟩ : ∃ k, genX N E A = 2 * k := ⟨genX N E A / 2, by omega⟩
  rw [hk, Int.mul_tdiv_cancel_left _ (by decide)] at hge
  rw [hF]
  push_cast at hge hx
  omega
theorem reg_cn (hT : trgB N E A = true) (v : Int) (i : Nat) : regF N E A L v (bsD A i) = cnP (facesO N E A).length (fun f => ∃ d, isD E d ∧ RW A (wallF E A L v) (bsD A i) d ∧ fcD N E A d = f) := by
  have h : ∀ f, Rc (edgR (2 * E.length) (faceL N E A) (wallF E A L v)) (fcD N E A (bsD A i)) f ↔ ∃ d, isD E d ∧ RW A (wallF E A L v) (bsD A i) d ∧ fcD N E A d = f := fun f => rc_rw hT (bs_in hT i)
  have e : (fun f => Rc (edgR (2 * E.length) (faceL N E A) (wallF E A L v)) (fcD N E A (bsD A i)) f) = fun f => ∃ d, isD E d ∧ RW A (wallF E A L v) (bsD A i) d ∧ fcD N E A d = f := funext fun f => propext (h f)
  rw [← e]
  rfl
theorem reg_sum (hT : trgB N E A = true) (hS : Sch E A L) {v : Int} (hvi : v ∉ rts E A) (hv0 : 0 ≤ v) (hv1 : v < (A.length : Int)) : (regF N E A L v (bsD A 0) : Int) + regF N E A L v (bsD A 1) + regF N E A L v (bsD A 2) = 2 * N - 5 := by
  have hV := trg_valid hT
  obtain ⟨o0, o1, o2, t1, t2, t3⟩ := outer3 hT
  have hF := face_count hT
  have h0 := fc_lt hV o0
  have hone := cn_one h0.1 h0.2
  have hout : ∀ d, outD A d → isD E d ∧ fcD N E A d = fcD N E A 0 := fun d hd => by
    rcases hd with rfl | rfl | rfl
    · exact ⟨o0, rfl⟩
    · exact ⟨o1, fc_nx hV o0⟩
    · exact ⟨o2, by rw [fc_nx hV o1, fc_nx hV o0]⟩
  have hno : ∀ i, i < 3 → ¬ ∃ d, isD E d ∧ RW A (wallF E A L v) (bsD A i) d ∧ fcD N E A d = fcD N E A 0 := fun i hi ⟨d, hd, hr, e⟩ =>
    reg_out hT (reg_i hT hS hvi hv0 hv1 hi) (Or.inl rfl) (rw_fc hT hd o0 hr e)
  have hdis : ∀ f i j, i < 3 → j < 3 → (∃ d, isD E d ∧ RW A (wallF E A L v) (bsD A i) d ∧ fcD N E A d = f) → (∃ d, isD E d ∧ RW A (wallF E A L v) (bsD A j) d ∧ fcD N E A d = f) → i = j := fun f i j hi hj ⟨d, hd, hr, e⟩ ⟨x, hx, hr', e'⟩ =>
    reg_dis hT hS hvi hv0 hv1 hi hj (rw_fc hT hd hx hr (by rw [e, e'])) hr'
  have := cn_four (F := (facesO N E A).length) (P := fun f => ∃ d, isD E d ∧ RW A (wallF E A L v) (bsD A 0) d ∧ fcD N E A d = f) (Q := fun f => ∃ d, isD E d ∧ RW A (wallF E A L v) (bsD A 1) d ∧ fcD N E A d = f) (R := fun f => ∃ d, isD E d ∧ RW A (wallF E A L v) (bsD A 2) d ∧ fcD N E A d = f) (S := fun f => f = fcD N E A 0) (fun f f0 f1 => by
    by_cases e : f = fcD N E A 0
    · subst e
      exact Or.inr (Or.inr (Or.inr ⟨hno 0 (by decide), hno 1 (by decide), hno 2 (by decide), rfl⟩))
    · obtain ⟨d, hd, hf⟩ := fc_sur hV f0 f1
      rcases reg_cov hT hS hvi hv0 hv1 hd with k | ⟨i, hi, hr⟩
      · exact absurd (by rw [← hf, (hout d k).2]) e
      · have hP : ∃ d, isD E d ∧ RW A (wallF E A L v) (bsD A i) d ∧ fcD N E A d = f := ⟨d, hd, hr, hf⟩
        have hnot : ∀ j, j < 3 → j ≠ i → ¬ ∃ d, isD E d ∧ RW A (wallF E A L v) (bsD A j) d ∧ fcD N E A d = f := fun j hj hji k => hji (hdis f j i hj hi k hP)
        rcases (by omega : i = 0 ∨ i = 1 ∨ i = 2) with rfl | rfl | rfl
        · exact Or.inl ⟨hP, hnot 1 (by decide) (by decide), hnot 2 (by decide) (by decide), e⟩
        · exact Or.inr (Or.inl ⟨hnot 0 (by decide) (by decide), hP, hnot 2 (by decide) (by decide), e⟩)
        · exact Or.inr (Or.inr (Or.inl ⟨hnot 0 (by decide) (by decide), hnot 1 (by decide) (by decide), hP, e⟩)))
  rw [reg_cn hT, reg_cn hT, reg_cn hT]
  rw [hone] at this
  omega
theorem reg_pos (hT : trgB N E A = true) (v : Int) (i : Nat) : 1 ≤ regF N E A L v (bsD A i) := by
  have hV := trg_valid hT
  have h := fc_lt hV (bs_in hT i)
  rw [reg_cn hT]
  exact cn_pos h.1 h.2 ⟨_, bs_in hT i, .base, rfl⟩
theorem reg_lt (hT : trgB N E A = true) (hS : Sch E A L) {v x : Int} (hvi : v ∉ rts E A) (hv0 : 0 ≤ v) (hv1 : v < (A.length : Int)) {i : Nat} (hi : i < 3) (hxi : x ∉ rts E A) (hx0 : 0 ≤ x) (hx1 : x < (A.length : Int)) (hxv : x ≠ v)
    (hex : ∃ d, RW A (wallF E A L v) (bsD A i) d ∧ tailE E d = x) : regF N E A L x (bsD A i) < regF N E A L v (bsD A i) := by
  have hV := trg_valid hT
  obtain ⟨hsub, d, hd, hn⟩ := (reg_i hT hS hvi hv0 hv1 hi).lt x hxi hx0 hx1 hxv hex
  have hdd := ((reg_i hT hS hvi hv0 hv1 hi).no d hd).1
  have h := fc_lt hV hdd
  rw [reg_cn hT, reg_cn hT]
  refine cn_lt (fun f _ _ ⟨y, hy, hr, e⟩ => ⟨y, hy, hsub y hr, e⟩) h.1 h.2 ⟨d, hdd, hd, rfl⟩ (fun ⟨y, hy, hr, e⟩ => hn (rw_fc hT hy hdd hr e))
end
end Go.Proofs.YtlealdicoceekaaDoor

/- The plane, plain: what a linear functional parts does not meet. -/
namespace Go.Proofs.YtlealdicoceekaaDoor

def crs (a b c : Int × Int) : Int := (b.1 - a.1) * (c.2 - a.2) - (b.2 - a.2) * (c.1 - a.1)
def sgn (n : Int) : Int := if n < 0 then -1 else if 0 < n then 1 else 0
def onB (a b c : Int × Int) : Prop := crs a b c = 0 ∧ min a.1 b.1 ≤ c.1 ∧ c.1 ≤ max a.1 b.1 ∧ min a.2 b.2 ≤ c.2 ∧ c.2 ≤ max a.2 b.2
/-- The three directions. -/
def fn (i : Nat) (p : Int × Int) : Int := if i = 1 then p.1 else if i = 2 then p.2 else -(p.1 + p.2)

theorem mul_gt {x y z : Int} (hz : z < 0) (h : x * z < y * z) : y < x := by
  apply Classical.byContradiction
  intro hn
  have h1 : 0 ≤ y - x := by omega
  have h2 : 0 ≤ -z := by omega
  have := Int.mul_nonneg h1 h2
  have e : (y - x) * -z = x * z - y * z := by grind
  omega
theorem mul_lt_pos {x y z : Int} (hz : 0 < z) (h : x < y) : z * x < z * y := Int.mul_lt_mul_of_pos_left h hz
theorem seg_mix {v1 v2 u1 u2 : Int} (h : v1 * u2 = v2 * u1) (hv : 0 < v1) (h0 : 0 ≤ u1) (h1 : u1 ≤ v1) (hs : u1 + u2 < 0) (hs2 : u1 + u2 < v1 + v2) : False := by
  have e : v1 * (u1 + u2) = u1 * (v1 + v2) := by grind
  have a := mul_lt_pos hv hs
  rw [Int.mul_zero, e] at a
  have b := mul_lt_pos hv hs2
  rw [e] at b
  have hneg : v1 + v2 < 0 := by
    apply Classical.byContradiction
    intro hn
    have := Int.mul_nonneg h0 (show 0 ≤ v1 + v2 by omega)
    omega
  have := mul_gt hneg b
  omega
/-- A point farther in a direction than both ends is not on a segment. -/
theorem on_sep {a b c : Int × Int} {i : Nat} (h1 : fn i a < fn i c) (h2 : fn i b < fn i c) : ¬ onB a b c := by
  rintro ⟨hc, x1, x2, y1, y2⟩
  unfold fn at h1 h2
  by_cases i1 : i = 1
  · rw [if_pos i1, if_pos i1] at h1 h2; omega
  rw [if_neg i1, if_neg i1] at h1 h2
  by_cases i2 : i = 2
  · rw [if_pos i2, if_pos i2] at h1 h2; omega
  rw [if_neg i2, if_neg i2] at h1 h2
  unfold crs at hc
  obtain ⟨v1, hv1⟩ : ∃ v1, b.1 - a.1 = v1 := ⟨_, rfl⟩
  obtain ⟨v2, hv2⟩ : ∃ v2, b.2 - a.2 = v2 := ⟨_, rfl⟩
  obtain ⟨u1, hu1⟩ : ∃ u1, c.1 - a.1 = u1 := ⟨_, rfl⟩
  obtain ⟨u2, hu2⟩ : ∃ u2, c.2 - a.2 = u2 := ⟨_, rfl⟩
  rw [hv1, hv2, hu1, hu2] at hc
  have hc' : v1 * u2 = v2 * u1 := by omega
  rcases (by omega : 0 < v1 ∧ v2 < 0 ∨ v1 < 0 ∧ 0 < v2 ∨ (0 ≤ v1 ∧ 0 ≤ v2) ∨ (v1 ≤ 0 ∧ v2 ≤ 0)) with h | h | h | h
  · exact seg_mix hc' h.1 (by omega) (by omega) (by omega) (by omega)
  · exact seg_mix (v1 := v2) (v2 := v1) (u1 := u2) (u2 := u1) (by omega) h.2 (by omega) (by omega) (by omega) (by omega)
  · omega
  · omega
theorem sgn_neg {x y : Int} (h : sgn x * sgn y < 0) : (0 < x ∧ y < 0) ∨ (x < 0 ∧ 0 < y) := by
  unfold sgn at h
  split at h <;> split at h <;> (try split at h) <;> (try split at h) <;> omega
theorem cross_lin {A B C D fa fb fc fd m : Int} (hs : A - B + C - D = 0) (hv : A * fd - B * fc + C * fb - D * fa = 0) (hA : 0 < A) (hB : B < 0) (hC : C < 0) (hD : 0 < D) (ha : fa ≤ m) (hb : fb ≤ m) (hc : m < fc) (hd : m < fd) : False := by
  have e1 : 0 ≤ A * (fd - (m + 1)) := Int.mul_nonneg (by omega) (by omega)
  have e2 : 0 ≤ (-B) * (fc - (m + 1)) := Int.mul_nonneg (by omega) (by omega)
  have e3 : 0 ≤ (-C) * (m - fb) := Int.mul_nonneg (by omega) (by omega)
  have e4 : 0 ≤ D * (m - fa) := Int.mul_nonneg (by omega) (by omega)
  have e : A * (fd - (m + 1)) + (-B) * (fc - (m + 1)) + (-C) * (m - fb) + D * (m - fa) = (A * fd - B * fc + C * fb - D * fa) - (A - B + C - D) * m - (A - B) := by grind
  rw [hv, hs] at e
  omega
theorem fn_lin (i : Nat) (a b c d : Int × Int) : crs a b c - crs a b d + crs c d a - crs c d b = 0 ∧ crs a b c * fn i d - crs a b d * fn i c + crs c d a * fn i b - crs c d b * fn i a = 0 := by
  unfold crs fn
  refine ⟨by grind, ?_⟩
  by_cases i1 : i = 1
  · simp only [if_pos i1]; grind
  · simp only [if_neg i1]
    by_cases i2 : i = 2
    · simp only [if_pos i2]; grind
    · simp only [if_neg i2]; grind
/-- Segments whose ends a direction parts do not cross. -/
theorem cross_sep {a b c d : Int × Int} {i : Nat} (h1 : fn i a < fn i c) (h2 : fn i b < fn i c) (h3 : fn i a < fn i d) (h4 : fn i b < fn i d) : ¬ (sgn (crs a b c) * sgn (crs a b d) < 0 ∧ sgn (crs c d a) * sgn (crs c d b) < 0) := by
  rintro ⟨k1, k2⟩
  obtain ⟨l1, l2⟩ := fn_lin i a b c d
  have k1 := sgn_neg k1
  have k2 := sgn_neg k2
  obtain ⟨A, hA⟩ : ∃ A, crs a b c = A := ⟨_, rfl⟩
  obtain ⟨B, hB⟩ : ∃ B, crs a b d = B := ⟨_, rfl⟩
  obtain ⟨C, hC⟩ : ∃ C, crs c d a = C := ⟨_, rfl⟩
  obtain ⟨D, hD⟩ : ∃ D, crs c d b = D := ⟨_, rfl⟩
  rw [hA, hB, hC, hD] at l1 l2
  rw [hA, hB] at k1
  rw [hC, hD] at k2
  rcases k1 with ⟨a1, b1⟩ | ⟨a1, b1⟩ <;> rcases k2 with ⟨c1, d1⟩ | ⟨c1, d1⟩
  · omega
  · exact cross_lin l1 l2 a1 b1 c1 d1 (m := max (fn i a) (fn i b)) (by omega) (by omega) (by omega) (by omega)
  · have e : -A * fn i d - -B * fn i c + -C * fn i b - -D * fn i a = -(A * fn i d - B * fn i c + C * fn i b - D * fn i a) := by
      generalize fn i a = x; generalize fn i b = y; generalize fn i c = z; generalize fn i d = w
      clear h1 h2 h3 h4
      grind
    rw [l2] at e
    exact cross_lin (A := -A) (B := -B) (C := -C) (D := -D) (by omega) (e.trans (by decide)) (by omega) (by omega) (by omega) (by omega) (m := max (fn i a) (fn i b)) (by omega) (by omega) (by omega) (by omega)
  · omega
def meetB (a b c d : Int × Int) : Prop := onB a b c ∨ onB a b d ∨ onB c d a ∨ onB c d b ∨ (sgn (crs a b c) * sgn (crs a b d) < 0 ∧ sgn (crs c d a) * sgn (crs c d b) < 0)
/-- A barycentric drawing: two edges without a common end do not meet. -/
theorem bary_meet {a b c d : Int × Int} (hc : ∃ i, i < 3 ∧ fn i a < fn i c ∧ fn i b < fn i c) (hd : ∃ i, i < 3 ∧ fn i a < fn i d ∧ fn i b < fn i d) (ha : ∃ i, i < 3 ∧ fn i c < fn i a ∧ fn i d < fn i a) (hb : ∃ i, i < 3 ∧ fn i c < fn i b ∧ fn i d < fn i b) : ¬ meetB a b c d := by
  obtain ⟨i, hi, i1, i2⟩ := hc
  obtain ⟨j, hj, j1, j2⟩ := hd
  obtain ⟨k, hk, k1, k2⟩ := ha
  obtain ⟨l, hl, l1, l2⟩ := hb
  have hik : i ≠ k := fun e => by subst e; omega
  have hil : i ≠ l := fun e => by subst e; omega
  have hjk : j ≠ k := fun e => by subst e; omega
  have hjl : j ≠ l := fun e => by subst e; omega
  rintro (h | h | h | h | h)
  · exact on_sep i1 i2 h
  · exact on_sep j1 j2 h
  · exact on_sep k1 k2 h
  · exact on_sep l1 l2 h
  · rcases (by omega : i = j ∨ k = l) with e | e
    · subst e
      exact cross_sep i1 i2 j1 j2 h
    · subst e
      exact cross_sep (a := c) (b := d) (c := a) (d := b) k1 k2 l1 l2 ⟨h.2, h.1⟩
end Go.Proofs.YtlealdicoceekaaDoor

/- The drawing is plane, plain. -/
namespace Go.Proofs.YtlealdicoceekaaDoor
open Go.RowKit

section
variable {N : Int} {E : List (Int × Int)} {A : List (List Int)} {L : List Int}
noncomputable def coF (N : Int) (E : List (Int × Int)) (A : List (List Int)) (L : List Int) (i : Nat) (v : Int) : Int := if v ∈ rts E A then (if idx v (rts E A) = i then 2 * N - 5 else 0) else regF N E A L v (bsD A i)
theorem idx_rts (hT : trgB N E A = true) {i : Nat} (hi : i < 3) {v : Int} : idx v (rts E A) = i ↔ v = tailE E (rtD A i) := by
  have hn := rts_nodup hT
  unfold rts at hn ⊢
  simp only [List.nodup_cons, List.mem_cons, List.not_mem_nil, or_false, not_or, not_false_eq_true, List.nodup_nil, and_true] at hn
  obtain ⟨⟨n1, n2⟩, n3⟩ := hn
  unfold idx idx idx idx
  rcases (by omega : i = 0 ∨ i = 1 ∨ i = 2) with rfl | rfl | rfl <;> simp only [rtD] <;> grind
theorem fn_co (hT : trgB N E A = true) (hS : Sch E A L) {v : Int} (hv0 : 0 ≤ v) (hv1 : v < (A.length : Int)) {i : Nat} (hi : i < 3) : fn i (ptF N E A L v) = coF N E A L i v - (if i = 0 then 2 * N - 5 else 0) := by
  unfold ptF coF
  by_cases h : v ∈ rts E A
  · rw [if_pos h, if_pos h]
    have h0 := idx_yes h
    obtain ⟨k, hk, e, _⟩ := idx_lt h
    have hk3 : k < 3 := by unfold rts at hk; simpa using hk
    rw [e]
    rcases (by omega : k = 0 ∨ k = 1 ∨ k = 2) with rfl | rfl | rfl <;> rcases (by omega : i = 0 ∨ i = 1 ∨ i = 2) with rfl | rfl | rfl <;> simp [fn] <;> omega
  · rw [if_neg h, if_neg h]
    have hs := reg_sum hT hS h hv0 hv1
    rcases (by omega : i = 0 ∨ i = 1 ∨ i = 2) with rfl | rfl | rfl
    · unfold fn
      rw [if_neg (by decide), if_neg (by decide), if_pos rfl]
      show -((regF N E A L v (bsD A 1) : Int) + (regF N E A L v (bsD A 2) : Int)) = _
      omega
    · unfold fn
      rw [if_pos rfl, if_neg (by decide), Int.sub_zero]; rfl
    · unfold fn
      rw [if_neg (by decide), if_pos rfl, if_neg (by decide), Int.sub_zero]; rfl
theorem co_root (hT : trgB N E A = true) (hS : Sch E A L) {z x : Int} {i : Nat} (hi : i < 3) (hz : z ∈ rts E A) (hzi : idx z (rts E A) = i) (hx0 : 0 ≤ x) (hx1 : x < (A.length : Int)) (hxz : x ≠ z) : coF N E A L i x < coF N E A L i z := by
  have hN := trg_three hT
  unfold coF
  rw [if_pos hz, if_pos hzi]
  by_cases h : x ∈ rts E A
  · rw [if_pos h, if_neg (fun e => hxz (((idx_rts hT hi).1 e).trans ((idx_rts hT hi).1 hzi).symm))]
    omega
  · rw [if_neg h]
    have hs := reg_sum hT hS h hx0 hx1
    have p0 := reg_pos (N := N) (L := L) hT x 0
    have p1 := reg_pos (N := N) (L := L) hT x 1
    have p2 := reg_pos (N := N) (L := L) hT x 2
    rcases (by omega : i = 0 ∨ i = 1 ∨ i = 2) with rfl | rfl | rfl <;> omega
theorem co_in (hT : trgB N E A = true) (hS : Sch E A L) {z x : Int} {i : Nat} (hi : i < 3) (hz : z ∉ rts E A) (hz0 : 0 ≤ z) (hz1 : z < (A.length : Int)) (hx0 : 0 ≤ x) (hx1 : x < (A.length : Int)) (hxz : x ≠ z)
    (hex : ∃ d, RW A (wallF E A L z) (bsD A i) d ∧ tailE E d = x) : coF N E A L i x < coF N E A L i z := by
  have hp := reg_pos (N := N) (L := L) hT z i
  unfold coF
  rw [if_neg hz]
  by_cases h : x ∈ rts E A
  · obtain ⟨d, hd, e⟩ := hex
    have hno := ((reg_i hT hS hz hz0 hz1 hi).no d hd).2.1
    rw [e] at hno
    rw [if_pos h, if_neg (fun e => hno ((idx_rts hT hi).1 e))]
    omega
  · rw [if_neg h]
    have := reg_lt hT hS hz hz0 hz1 hi h hx0 hx1 hxz hex
    omega
theorem bary (hT : trgB N E A = true) (hS : Sch E A L) {d z : Int} (hd : isD E d) (hz0 : 0 ≤ z) (hz1 : z < (A.length : Int)) (h1 : z ≠ tailE E d) (h2 : z ≠ tailE E (oth d)) : ∃ i, i < 3 ∧ fn i (ptF N E A L (tailE E d)) < fn i (ptF N E A L z) ∧ fn i (ptF N E A L (tailE E (oth d))) < fn i (ptF N E A L z) := by
  have hV := trg_valid hT
  have r1 := head_in hV hd
  have r2 := head_in hV hd.oth
  have key : ∃ i, i < 3 ∧ coF N E A L i (tailE E d) < coF N E A L i z ∧ coF N E A L i (tailE E (oth d)) < coF N E A L i z := by
    by_cases hz : z ∈ rts E A
    · obtain ⟨i, hi, e, _⟩ := idx_lt hz
      have hi3 : i < 3 := by unfold rts at hi; simpa using hi
      exact ⟨i, hi3, co_root hT hS hi3 hz e r1.1 r1.2 (Ne.symm h1), co_root hT hS hi3 hz e r2.1 r2.2 (Ne.symm h2)⟩
    · have hin : ∃ i, i < 3 ∧ ∃ x, (x = d ∨ x = oth d) ∧ RW A (wallF E A L z) (bsD A i) x := by
        rcases reg_cov hT hS hz hz0 hz1 hd with k | ⟨i, hi, k⟩
        · rcases k with rfl | rfl | rfl
          · exact ⟨2, by decide, oth 0, Or.inr rfl, by rw [oth0]; exact .base⟩
          · exact ⟨0, by decide, _, Or.inr rfl, .base⟩
          · exact ⟨1, by decide, _, Or.inr rfl, .base⟩
        · exact ⟨i, hi, d, Or.inl rfl, k⟩
      obtain ⟨i, hi, x, hx, hr⟩ := hin
      rcases hx with rfl | rfl
      · exact ⟨i, hi, co_in hT hS hi hz hz0 hz1 r1.1 r1.2 (Ne.symm h1) ⟨x, hr, rfl⟩, co_in hT hS hi hz hz0 hz1 r2.1 r2.2 (Ne.symm h2) ⟨nxF A x, hr.nx, tail_nx hV hd⟩⟩
      · exact ⟨i, hi, co_in hT hS hi hz hz0 hz1 r1.1 r1.2 (Ne.symm h1) ⟨nxF A (oth d), hr.nx, by rw [tail_nx hV hd.oth, oth_oth]⟩, co_in hT hS hi hz hz0 hz1 r2.1 r2.2 (Ne.symm h2) ⟨oth d, hr, rfl⟩⟩
  obtain ⟨i, hi, a, b⟩ := key
  refine ⟨i, hi, ?_, ?_⟩
  · rw [fn_co hT hS r1.1 r1.2 hi, fn_co hT hS hz0 hz1 hi]; omega
  · rw [fn_co hT hS r2.1 r2.2 hi, fn_co hT hS hz0 hz1 hi]; omega
/-! ### What the law asks -/
theorem pt_in (hT : trgB N E A = true) (hS : Sch E A L) {v : Int} (hv0 : 0 ≤ v) (hv1 : v < (A.length : Int)) : 0 ≤ (ptF N E A L v).1 ∧ 0 ≤ (ptF N E A L v).2 ∧ (ptF N E A L v).1 + (ptF N E A L v).2 ≤ 2 * N - 5 := by
  have hN := trg_three hT
  unfold ptF
  by_cases h : v ∈ rts E A
  · rw [if_pos h]
    split
    · exact ⟨Int.le_refl _, Int.le_refl _, by simp; omega⟩
    · split
      · exact ⟨by simp; omega, Int.le_refl _, by simp⟩
      · exact ⟨Int.le_refl _, by simp; omega, by simp⟩
  · rw [if_neg h]
    have hs := reg_sum hT hS h hv0 hv1
    refine ⟨by simp, by simp, ?_⟩
    show (regF N E A L v (bsD A 1) : Int) + (regF N E A L v (bsD A 2) : Int) ≤ _
    omega
theorem ends_two (hT : trgB N E A = true) {i : Nat} (hi : i < E.length) : isD E (2 * (i : Int)) ∧ tailE E (2 * (i : Int)) = (pr E i).1 ∧ tailE E (oth (2 * (i : Int))) = (pr E i).2 :=
  ⟨(isD_two hi).1, (tail_two E i).1, by rw [(oth_two i).1, (tail_two E i).2]⟩
theorem pt_on (hT : trgB N E A = true) (hS : Sch E A L) {v : Int} (hv0 : 0 ≤ v) (hv1 : v < (A.length : Int)) {i : Nat} (hi : i < E.length) (h1 : (pr E i).1 ≠ v) (h2 : (pr E i).2 ≠ v) : ¬ onB (ptF N E A L (pr E i).1) (ptF N E A L (pr E i).2) (ptF N E A L v) := by
  obtain ⟨hd, e1, e2⟩ := ends_two hT hi
  obtain ⟨k, hk, a, b⟩ := bary hT hS hd hv0 hv1 (by rw [e1]; exact Ne.symm h1) (by rw [e2]; exact Ne.symm h2)
  rw [e1] at a
  rw [e2] at b
  exact on_sep a b
theorem pt_meet (hT : trgB N E A = true) (hS : Sch E A L) {i k : Nat} (hi : i < E.length) (hk : k < E.length) (h1 : (pr E i).1 ≠ (pr E k).1) (h2 : (pr E i).1 ≠ (pr E k).2) (h3 : (pr E i).2 ≠ (pr E k).1) (h4 : (pr E i).2 ≠ (pr E k).2) : ¬ meetB (ptF N E A L (pr E i).1) (ptF N E A L (pr E i).2) (ptF N E A L (pr E k).1) (ptF N E A L (pr E k).2) := by
  have hV := trg_valid hT
  obtain ⟨hd, e1, e2⟩ := ends_two hT hi
  obtain ⟨gd, f1, f2⟩ := ends_two hT hk
  have r1 := head_in hV hd
  have r2 := head_in hV hd.oth
  have s1 := head_in hV gd
  have s2 := head_in hV gd.oth
  have a := bary hT hS hd s1.1 s1.2 (by rw [f1, e1]; exact Ne.symm h1) (by rw [f1, e2]; exact Ne.symm h3)
  have b := bary hT hS hd s2.1 s2.2 (by rw [f2, e1]; exact Ne.symm h2) (by rw [f2, e2]; exact Ne.symm h4)
  have c := bary hT hS gd r1.1 r1.2 (by rw [f1, e1]; exact h1) (by rw [f2, e1]; exact h2)
  have d := bary hT hS gd r2.1 r2.2 (by rw [f1, e2]; exact h3) (by rw [f2, e2]; exact h4)
  rw [e1, e2, f1] at a
  rw [e1, e2, f2] at b
  rw [f1, f2, e1] at c
  rw [f1, f2, e2] at d
  exact bary_meet a b c d
end
end Go.Proofs.YtlealdicoceekaaDoor

/- Build of the reference. -/
namespace Go.Proofs.YtlealdicoceekaaDoor
open Go.RowKit
attribute [local go_sem ↓] Go.wp_at_zero Go.wp_at_succ

theorem Ints.two {w : World} {b : Nat} {x y : Int} (h0 : w.cell? ⟨b, 0, none⟩ = some (.int .i64 x)) (h1 : w.cell? ⟨b, 1, none⟩ = some (.int .i64 y)) (hx : -9223372036854775808 ≤ x ∧ x ≤ 9223372036854775807) (hy : -9223372036854775808 ≤ y ∧ y ≤ 9223372036854775807) : Ints w (some ⟨b, 0, none⟩) [x, y] := by
  refine ⟨by simp, fun z hz => ?_, b, 0, fun _ => ⟨rfl, World.block_lt_of_cell? w _ h0⟩, fun i hi => ?_⟩
  · rcases List.mem_cons.1 hz with rfl | hz
    · exact hx
    · rw [List.mem_singleton.1 hz]; exact hy
  · match i, hi with
    | 0, _ => simpa [ge] using h0
    | 1, _ => simpa [ge] using h1

end Go.Proofs.YtlealdicoceekaaDoor

/- Lists of points, few: the law's small functions. -/
namespace Go.Proofs.YtlealdicoceekaaDoor
open Go.RowKit
attribute [local go_sem ↓] Go.wp_at_zero Go.wp_at_succ

/-- Equality of points, as a word that the walk does not open. -/
def eqb (a b c d : Int) : Bool := a == c && b == d
theorem eq_pt (a b c d : Int) (w : World) : (Op.equalIn 10000 43 (.agg #[.int .i64 a, .int .i64 b]) (.agg #[.int .i64 c, .int .i64 d])).run Tryd.prog w = .ok (eqb a b c d) w := by
  have hS : Tryd.prog.underlying 43 = some (.struct (Tryd.prog.fieldsOf 43)) := by kernel_rfl
  rw [show (10000 : Nat) = 9999 + 1 from rfl, run_equalIn_agg w 9999 43 _ _ hS (by kernel_rfl)]
  simp only [Program.fieldsOf, Tryd.underlying43, eqb]
  have u3 := Tryd.underlying3
  go_simp
  by_cases h1 : a = c <;> by_cases h2 : b = d <;> simp [h1, h2]
@[go_sem] theorem guard_pt (op : BinOp) (x y : Operand) (xs ys : Array Value) (w : World) : (eqGuard op 43 x y (.agg xs) (.agg ys)).run Tryd.prog w = .ok () w := run_eqGuard_agg w op _ x y xs ys (by kernel_rfl)
@[go_sem ↓] theorem neq_pt (a b c d : Int) (w : World) : (binOp .neq 43 (.agg #[.int .i64 a, .int .i64 b]) (.agg #[.int .i64 c, .int .i64 d])).run Tryd.prog w = .ok (.bool (!(eqb a b c d))) w := by
  rw [run_neq_struct, eq_pt]
  rfl
theorem eqb_pt (p q : Int × Int) : eqb p.1 p.2 q.1 q.2 = decide (p = q) := by
  obtain ⟨a, b⟩ := p
  obtain ⟨c, d⟩ := q
  unfold eqb
  by_cases h1 : a = c <;> by_cases h2 : b = d <;> simp [h1, h2]
theorem eqb_yes {p q : Int × Int} (h : p = q) : eqb p.1 p.2 q.1 q.2 = true := by rw [eqb_pt]; exact decide_eq_true h
theorem eqb_no {p q : Int × Int} (h : p ≠ q) : eqb p.1 p.2 q.1 q.2 = false := by rw [eqb_pt]; exact decide_eq_false h
theorem prs_ext {A B : List (Int × Int)} (h : A.length = B.length) (k : ∀ i, i < A.length → pr A i = pr B i) : A = B := by
  refine List.ext_getElem h fun i h1 h2 => ?_
  rw [← pr_eq A h1, ← pr_eq B h2]
  exact k i h1

set_option maxHeartbeats 2000000 in
theorem points_l (p q : Option Addr) (n k c d : Nat) (A B : List (Int × Int)) (w : World) (hP : Prs w p A) (hQ : Prs w q B) (hn : A.length = n) (hk : B.length = k) :
    Calls Tryd.prog 19 #[.slice p n c, .slice q k d] w fun e w' => e = .returned (.bool (decide (A = B))) ∧ Grew w w' := by
  subst hn hk
  by_cases hl : A.length = B.length
  case neg =>
    have Hf : Hid (decide (A = B) = false) := Lib.hid (decide_eq_false fun h => hl (by rw [h]))
    have hl' : ((A.length : Int) != (B.length : Int)) = true := by rw [bne_iff_ne]; omega
    clear hl hP hQ
    go_enter Tryd.func19, Tryd.ntmps19
    go_wp2
    go_ret
    exact ⟨by rw [Hf.out]; rfl, Grew.refl _⟩
  have hmx := hP.1
  have HP := Lib.hid hP
  have HQ := Lib.hid hQ
  have Hl := Lib.hid hl
  obtain ⟨L, hL⟩ : ∃ L, A.length = L := ⟨_, rfl⟩
  have hLB : B.length = L := by omega
  have HL := Lib.hid hL
  have HLB := Lib.hid hLB
  rw [hL] at hmx
  rw [hL, hLB]
  clear hP hQ hl hL hLB
  go_enter Tryd.func19, Tryd.ntmps19
  go_wp2
  go_loopw [5] (fun i wr => ∃ j : Nat, j ≤ L ∧ i = .int .i64 j ∧ (∀ t, t < j → pr A t = pr B t) ∧ Grew w wr) (fun i _ => L - (intOf i).toNat)
  case atStart => exact ⟨0, Nat.zero_le _, rfl, fun t ht => absurd ht (Nat.not_lt_zero _), Grew.refl _⟩
  case round =>
    obtain ⟨j, hj, rfl, hall, hg⟩ := hrel
    have Hall := Lib.hid hall
    have Hg := Lib.hid hg
    clear hall hg
    by_cases hlt : j < L
    · obtain ⟨b, o, rfl, hb, hc⟩ := HP.out.cells (by rw [HL.out]; omega)
      obtain ⟨b', o', rfl, hb', hc'⟩ := HQ.out.cells (by rw [HLB.out]; omega)
      obtain ⟨c1, c2⟩ := hc wr Hg.out j (by rw [HL.out]; exact hlt)
      obtain ⟨d1, d2⟩ := hc' wr Hg.out j (by rw [HLB.out]; exact hlt)
      have hsz := Hg.out.below.size
      clear hc hc'
      go_upto_region 6 with fail
      refine wp_region_over (by kernel_rfl) (by kernel_rfl) ?_; (repeat (go_big_quiet_step (fail))); refine wpQuiet_nil ?_; rintro _ ⟨x, rfl⟩
      by_cases he : pr A j = pr B j
      · have he' := eqb_yes he
        have He := Lib.hid he
        rw [he']
        clear he
        go_wp2
        go_roundw
        case rel => exact ⟨j + 1, by omega, by go_num, (fun t ht => by
          by_cases e : t = j
          · subst e; exact He.out
          · exact Hall.out t (by omega)), Hg.out.trans (by (repeat (first | exact gR _ | refine gO ?_ _ | refine gA ?_ _ | refine gD ?_ | refine gN ?_ _)))⟩
        case measure => simp [intOf]; omega
      · have he' := eqb_no he
        have Hf : Hid (decide (A = B) = false) := Lib.hid (decide_eq_false fun h => he (by rw [h]))
        rw [he']
        clear he
        go_wp2
        go_ret
        exact ⟨by rw [Hf.out]; rfl, Hg.out.trans (by (repeat (first | exact gR _ | refine gO ?_ _ | refine gA ?_ _ | refine gD ?_ | refine gN ?_ _)))⟩
    · have Hf : Hid (decide (A = B) = true) := Lib.hid (decide_eq_true (prs_ext Hl.out fun i hi => Hall.out i (by rw [HL.out] at hi; omega)))
      go_wp2
      go_ret
      exact ⟨by rw [Hf.out]; rfl, Hg.out⟩
theorem points_eq {p q : Option Addr} {n c d : Nat} {A : List (Int × Int)} {w : World} (hn : A.length = n) (hP : Prs w p A) (hQ : Prs w q A) :
    Calls Tryd.prog 19 #[.slice p n c, .slice q n d] w fun e w' => e = .returned (.bool true) ∧ Grew w w' := by
  have h := points_l p q n n c d A A w hP hQ hn hn
  rw [decide_eq_true rfl] at h
  exact h
theorem same_eq {p q : Option Addr} {n c d : Nat} {A : List Int} {w : World} (hn : A.length = n) (hP : Ints w p A) (hQ : Ints w q A) :
    Calls Tryd.prog 12 #[.slice p n c, .slice q n d] w fun e w' => e = .returned (.bool true) ∧ Grew w w' := by
  have h := same_l p q n n c d A A w hP hQ hn hn
  rw [decide_eq_true rfl] at h
  exact h

theorem few_in {w : World} {pE pA : Option Addr} {cE : Nat} {E : List (Int × Int)} {A : List (List Int)} (h : fewB E A = true) (hE : Prs w pE E) (hA : Mat w pA A) (c1 : E.length ≤ cE) (c2 : cE ≤ maxLen) : RotIn w pE pA cE E A := by
  have hR := few_at h hE hA
  exact ⟨hR.aw, Or.inr hR.r1, c1, c2⟩
end Go.Proofs.YtlealdicoceekaaDoor

/- The law's helpers: sign, on, meet. -/
namespace Go.Proofs.YtlealdicoceekaaDoor
open Go.RowKit

theorem mul_bd {a b : Int} {n m : Int} (h1 : -n ≤ a) (h2 : a ≤ n) (h3 : -m ≤ b) (h4 : b ≤ m) : -(n * m) ≤ a * b ∧ a * b ≤ n * m := by
  have e1 : 0 ≤ (n - a) * (m - b) := Int.mul_nonneg (by omega) (by omega)
  have e2 : 0 ≤ (n + a) * (m + b) := Int.mul_nonneg (by omega) (by omega)
  have e3 : 0 ≤ (n - a) * (m + b) := Int.mul_nonneg (by omega) (by omega)
  have e4 : 0 ≤ (n + a) * (m - b) := Int.mul_nonneg (by omega) (by omega)
  simp only [Int.sub_mul, Int.mul_sub, Int.add_mul, Int.mul_add] at e1 e2 e3 e4
  omega
/-- A point of a small drawing. -/
def Sml (a : Int × Int) : Prop := 0 ≤ a.1 ∧ a.1 ≤ 1000 ∧ 0 ≤ a.2 ∧ a.2 ≤ 1000
def ptV (a : Int × Int) : Value := .agg #[.int .i64 a.1, .int .i64 a.2]
theorem crs_bd {a b c : Int × Int} (ha : Sml a) (hb : Sml b) (hc : Sml c) : (-1000000 ≤ (b.1 - a.1) * (c.2 - a.2) ∧ (b.1 - a.1) * (c.2 - a.2) ≤ 1000000) ∧ -1000000 ≤ (b.2 - a.2) * (c.1 - a.1) ∧ (b.2 - a.2) * (c.1 - a.1) ≤ 1000000 := by
  obtain ⟨a1, a2, a3, a4⟩ := ha
  obtain ⟨b1, b2, b3, b4⟩ := hb
  obtain ⟨c1, c2, c3, c4⟩ := hc
  exact ⟨mul_bd (n := 1000) (m := 1000) (by omega) (by omega) (by omega) (by omega), mul_bd (n := 1000) (m := 1000) (by omega) (by omega) (by omega) (by omega)⟩
theorem sgn_rng (n : Int) : sgn n = -1 ∨ sgn n = 0 ∨ sgn n = 1 := by unfold sgn; split; exact Or.inl rfl; split; exact Or.inr (Or.inr rfl); exact Or.inr (Or.inl rfl)

set_option maxHeartbeats 2000000 in
theorem sign_l (a b c : Int × Int) (w : World) (ha : Sml a) (hb : Sml b) (hc : Sml c) :
    Calls Tryd.prog 52 #[ptV a, ptV b, ptV c] w fun e w' => e = .returned (.int .i64 (sgn (crs a b c))) ∧ Grew w w' := by
  obtain ⟨⟨m1, m2⟩, m3, m4⟩ := crs_bd ha hb hc
  obtain ⟨a1, a2, a3, a4⟩ := ha
  obtain ⟨b1, b2, b3, b4⟩ := hb
  obtain ⟨c1, c2, c3, c4⟩ := hc
  obtain ⟨ax, ay⟩ := a
  obtain ⟨bx, bZ⟩ := b
  obtain ⟨cx, cy⟩ := c
  unfold ptV
  dsimp only at *
  go_enter Tryd.func52, Tryd.ntmps52
  go_wp2
  all_goals
    go_ret
    refine ⟨ret_int ?_, by (repeat (first | exact gR _ | refine gO ?_ _ | refine gA ?_ _ | refine gD ?_ | refine gN ?_ _))⟩
    unfold sgn crs
    dsimp only
    repeat' split
    all_goals omega
set_option maxHeartbeats 4000000 in
theorem on_l (a b c : Int × Int) (w : World) (ha : Sml a) (hb : Sml b) (hc : Sml c) (r : Bool) (hr : r = true ↔ onB a b c) :
    Calls Tryd.prog 24 #[ptV a, ptV b, ptV c] w fun e w' => e = .returned (.bool r) ∧ Grew w w' := by
  have Hs : Hid (∀ W1, Calls Tryd.prog 52 #[ptV a, ptV b, ptV c] W1 fun e w' => e = .returned (.int .i64 (sgn (crs a b c))) ∧ Grew W1 w') := Lib.hid (fun W1 => sign_l a b c W1 ha hb hc)
  have Hr := Lib.hid hr
  have hs : (sgn (crs a b c) = 0) ↔ crs a b c = 0 := by unfold sgn; repeat' split <;> omega
  have HS := Lib.hid hs
  obtain ⟨s, hsg⟩ : ∃ s, sgn (crs a b c) = s := ⟨_, rfl⟩
  rw [hsg] at Hs HS
  clear ha hb hc hr hs hsg
  obtain ⟨ax, ay⟩ := a
  obtain ⟨bx, bZ⟩ := b
  obtain ⟨cx, cy⟩ := c
  unfold ptV at Hs ⊢
  dsimp only at Hs ⊢
  by_cases h1 : s = 0
  · subst h1
    have h0 := HS.out.1 rfl
    have Hr2 : Hid (r = true ↔ (min ax bx ≤ cx ∧ cx ≤ max ax bx ∧ min ay bZ ≤ cy ∧ cy ≤ max ay bZ)) := Lib.hid (by rw [Hr.out]; unfold onB; exact ⟨fun h => h.2, fun h => ⟨h0, h⟩⟩)
    clear Hr HS h0
    go_enter Tryd.func24, Tryd.ntmps24
    go_wp2_with ((go_at_call 52; apply Calls.mono; (with_reducible exact Hs.out _); rintro e w' ⟨rfl, x, rfl⟩))
    all_goals
      go_ret
      refine ⟨?_, by (repeat (first | exact gR _ | refine gO ?_ _ | refine gA ?_ _ | refine gD ?_ | refine gN ?_ _))⟩
      cases r
      case true =>
        have h := Hr2.out.1 rfl
        first
          | (exfalso; omega)
          | (refine congrArg (fun b => Ending.returned (.bool b)) (a₁ := decide _) ?_; exact decide_eq_true (by omega))
          | rfl
      case false =>
        have h : ¬ (min ax bx ≤ cx ∧ cx ≤ max ax bx ∧ min ay bZ ≤ cy ∧ cy ≤ max ay bZ) := fun h => Bool.noConfusion (Hr2.out.2 h)
        first
          | (exfalso; omega)
          | (refine congrArg (fun b => Ending.returned (.bool b)) (a₁ := decide _) ?_; exact decide_eq_false (by omega))
          | rfl
  · have h1' : (s == 0) = false := by simpa using h1
    have hrf : r = false := by
      cases r
      · rfl
      · exact absurd (HS.out.2 (Hr.out.1 rfl).1) h1
    subst hrf
    clear Hr HS h1
    go_enter Tryd.func24, Tryd.ntmps24
    go_wp2_with ((go_at_call 52; apply Calls.mono; (with_reducible exact Hs.out _); rintro e w' ⟨rfl, x, rfl⟩))
    go_ret
    exact ⟨rfl, by (repeat (first | exact gR _ | refine gO ?_ _ | refine gA ?_ _ | refine gD ?_ | refine gN ?_ _))⟩
set_option maxHeartbeats 4000000 in
theorem meet_l (a b c d : Int × Int) (w : World) (ha : Sml a) (hb : Sml b) (hc : Sml c) (hd : Sml d) (h : ¬ meetB a b c d) :
    Calls Tryd.prog 25 #[ptV a, ptV b, ptV c, ptV d] w fun e w' => e = .returned (.bool false) ∧ Grew w w' := by
  unfold meetB at h
  simp only [not_or, not_and] at h
  obtain ⟨h1, h2, h3, h4, h5⟩ := h
  have Ho : Hid (∀ x y z W1, Sml x → Sml y → Sml z → ¬ onB x y z → Calls Tryd.prog 24 #[ptV x, ptV y, ptV z] W1 fun e w' => e = .returned (.bool false) ∧ Grew W1 w') := Lib.hid (fun x y z W1 hx hy hz hn => on_l x y z W1 hx hy hz false ⟨(fun k => Bool.noConfusion k), fun k => absurd k hn⟩)
  have H1 := Lib.hid (fun W1 => Ho.out a b c W1 ha hb hc h1)
  have H2 := Lib.hid (fun W1 => Ho.out a b d W1 ha hb hd h2)
  have H3 := Lib.hid (fun W1 => Ho.out c d a W1 hc hd ha h3)
  have H4 := Lib.hid (fun W1 => Ho.out c d b W1 hc hd hb h4)
  have S1 := Lib.hid (fun W1 => sign_l a b c W1 ha hb hc)
  have S2 := Lib.hid (fun W1 => sign_l a b d W1 ha hb hd)
  have S3 := Lib.hid (fun W1 => sign_l c d a W1 hc hd ha)
  have S4 := Lib.hid (fun W1 => sign_l c d b W1 hc hd hb)
  have g1 := sgn_rng (crs a b c)
  have g2 := sgn_rng (crs a b d)
  have g3 := sgn_rng (crs c d a)
  have g4 := sgn_rng (crs c d b)
  clear ha hb hc hd h1 h2 h3 h4 Ho
  generalize sgn (crs a b c) = s1 at *
  generalize sgn (crs a b d) = s2 at *
  generalize sgn (crs c d a) = s3 at *
  generalize sgn (crs c d b) = s4 at *
  obtain ⟨b1, b2⟩ : -1 ≤ s1 * s2 ∧ s1 * s2 ≤ 1 := by
    rcases g1 with rfl | rfl | rfl <;> rcases g2 with rfl | rfl | rfl <;> decide
  obtain ⟨b3, b4⟩ : -1 ≤ s3 * s4 ∧ s3 * s4 ≤ 1 := by
    rcases g3 with rfl | rfl | rfl <;> rcases g4 with rfl | rfl | rfl <;> decide
  clear g1 g2 g3 g4
  obtain ⟨ax, ay⟩ := a
  obtain ⟨bx, bZ⟩ := b
  obtain ⟨cx, cy⟩ := c
  obtain ⟨dx, dy⟩ := d
  unfold ptV at *
  dsimp only at *
  by_cases hn : s1 * s2 < 0
  · have hn2 : ¬ s3 * s4 < 0 := h5 hn
    have k1 : decide (s1 * s2 < 0) = true := decide_eq_true hn
    have k2 : decide (s3 * s4 < 0) = false := decide_eq_false hn2
    clear h5 hn hn2
    go_enter Tryd.func25, Tryd.ntmps25
    go_upto_region 1 with fail
    refine wp_region_over (by kernel_rfl) (by kernel_rfl) ?_; (repeat (go_big_quiet_step ((first | (go_at_call 24; apply over_call; with_reducible exact H1.out _) | (go_at_call 24; apply over_call; with_reducible exact H2.out _) | (go_at_call 24; apply over_call; with_reducible exact H3.out _) | (go_at_call 24; apply over_call; with_reducible exact H4.out _) | (go_at_call 52; apply over_call; with_reducible exact S1.out _) | (go_at_call 52; apply over_call; with_reducible exact S2.out _) | (go_at_call 52; apply over_call; with_reducible exact S3.out _) | (go_at_call 52; apply over_call; with_reducible exact S4.out _))))); refine wpQuiet_nil ?_; rintro _ ⟨x, rfl⟩
    go_wp2
    go_ret
    exact ⟨rfl, by (repeat (first | exact gR _ | refine gO ?_ _ | refine gA ?_ _ | refine gD ?_ | refine gN ?_ _))⟩
  · have k1 : decide (s1 * s2 < 0) = false := decide_eq_false hn
    clear h5 hn
    go_enter Tryd.func25, Tryd.ntmps25
    go_upto_region 1 with fail
    refine wp_region_over (by kernel_rfl) (by kernel_rfl) ?_; (repeat (go_big_quiet_step ((first | (go_at_call 24; apply over_call; with_reducible exact H1.out _) | (go_at_call 24; apply over_call; with_reducible exact H2.out _) | (go_at_call 24; apply over_call; with_reducible exact H3.out _) | (go_at_call 24; apply over_call; with_reducible exact H4.out _) | (go_at_call 52; apply over_call; with_reducible exact S1.out _) | (go_at_call 52; apply over_call; with_reducible exact S2.out _) | (go_at_call 52; apply over_call; with_reducible exact S3.out _) | (go_at_call 52; apply over_call; with_reducible exact S4.out _))))); refine wpQuiet_nil ?_; rintro _ ⟨x, rfl⟩
    go_wp2
    go_ret
    exact ⟨rfl, by (repeat (first | exact gR _ | refine gO ?_ _ | refine gA ?_ _ | refine gD ?_ | refine gN ?_ _))⟩
end Go.Proofs.YtlealdicoceekaaDoor

/- Order of the reference: chord. -/
namespace Go.Proofs.YtlealdicoceekaaDoor
open Go.RowKit
attribute [local go_sem ↓] Go.wp_at_zero Go.wp_at_succ

def chdK (E : List (Int × Int)) (C : List Int) (i : Nat) (m : Nat) : Bool := (List.range m).any fun k => decide (k + 1 ≠ i) && (decide (k ≠ i) && (decide (k ≠ i + 1) && joinB E (ge C i) (ge C k)))
theorem chdK_no {E : List (Int × Int)} {C : List Int} {i m : Nat} : chdK E C i m = false ↔ ∀ k, k < m → k + 1 ≠ i → k ≠ i → k ≠ i + 1 → joinB E (ge C i) (ge C k) = false := by
  unfold chdK
  rw [List.any_eq_false]
  constructor
  · intro h k hk h1 h2 h3
    have := h k (List.mem_range.2 hk)
    rw [decide_eq_true h1, decide_eq_true h2, decide_eq_true h3] at this
    simpa using this
  · intro h k hk
    have hk := List.mem_range.1 hk
    by_cases h1 : k + 1 ≠ i <;> by_cases h2 : k ≠ i <;> by_cases h3 : k ≠ i + 1 <;> simp [h1, h2, h3]
    exact h k hk h1 h2 h3
set_option maxHeartbeats 4000000 in
theorem chord_l (N : Int) (pE pA pC : Option Addr) (nE nA nC cE cA cC : Nat) (E : List (Int × Int)) (C : List Int) (i : Nat) (w : World) (hE : Prs w pE E) (he1 : E.length ≤ 100) (hC : Ints w pC C) (hC1 : nC ≤ 1000) (hnE : E.length = nE) (hnC : C.length = nC) (hi0 : 0 < i) (hi : i < nC) (t : Bool) (ht : chdK E C i nC = t) :
    Calls Tryd.prog 49 #[.agg #[.int .i64 N, .slice pE nE cE, .slice pA nA cA], .slice pC nC cC, .int .i64 i] w fun e w' => e = .returned (.bool t) ∧ Grew w w' := by
  have HE := Lib.hid hE
  have HC := Lib.hid hC
  have HnC := Lib.hid hnC
  have Ht := Lib.hid ht
  have Hj : Hid (∀ (u v : Int) W1, Grew w W1 → Calls Tryd.prog 74 #[.agg #[.int .i64 N, .slice pE nE cE, .slice pA nA cA], .int .i64 u, .int .i64 v] W1 fun e w' => e = .returned (.bool (joinB E u v)) ∧ Grew W1 w') := Lib.hid (fun u v W1 h => by
    have := joined_r N pE pA E.length nA cE cA E u v W1 (HE.out.grew h) he1 rfl
    rw [hnE] at this
    exact this)
  obtain ⟨bC, oC, rfl, lC, cC'⟩ := hC.cells (by omega)
  have HcC := Lib.hid cC'
  clear hE hC hnC hnE ht cC'
  go_enter Tryd.func49, Tryd.ntmps49
  go_upto_region 2 with fail
  have HgB : Hid (Grew w (w.alloc (.cells #[.int .i64 N, .slice pE nE cE, .slice pA nA cA] 25))) := Lib.hid ((Grew.refl w).alloc _)
  have k0 : Hid ((w.alloc (.cells #[.int .i64 N, .slice pE nE cE, .slice pA nA cA] 25)).cell? ⟨w.heap.size, 0, none⟩ = some (.int .i64 N)) := Lib.hid (by simp [go_sem])
  have k1 : Hid ((w.alloc (.cells #[.int .i64 N, .slice pE nE cE, .slice pA nA cA] 25)).cell? ⟨w.heap.size, 1, none⟩ = some (.slice pE nE cE)) := Lib.hid (by simp [go_sem])
  have k2 : Hid ((w.alloc (.cells #[.int .i64 N, .slice pE nE cE, .slice pA nA cA] 25)).cell? ⟨w.heap.size, 2, none⟩ = some (.slice pA nA cA)) := Lib.hid (by simp [go_sem])
  obtain ⟨wB, hwB⟩ : ∃ wB, w.alloc (.cells #[.int .i64 N, .slice pE nE cE, .slice pA nA cA] 25) = wB := ⟨_, rfl⟩
  rw [hwB] at HgB k0 k1 k2 ⊢
  clear hwB
  go_loopw [7] (fun kv wr => ∃ k : Nat, k ≤ nC ∧ kv = .int .i64 k ∧ Grew wB wr ∧ ∀ j, j < k → j + 1 ≠ i → j ≠ i → j ≠ i + 1 → joinB E (ge C i) (ge C j) = false) (fun kv _ => nC - (intOf kv).toNat)
  case atStart => exact ⟨0, Nat.zero_le _, rfl, by (repeat (first | exact gR _ | refine gO ?_ _ | refine gA ?_ _ | refine gD ?_ | refine gN ?_ _)), fun j hj => by omega⟩
  case round =>
    obtain ⟨k, hk, rfl, hg, hall⟩ := hrel
    have Hall := Lib.hid hall
    have Hg := Lib.hid hg
    have Hgw : Hid (Grew w wr) := Lib.hid (HgB.out.trans hg)
    have q0 := hg.cellEq k0.out
    have q1 := hg.cellEq k1.out
    have q2 := hg.cellEq k2.out
    have hlw := World.block_lt_of_cell? wr _ q0
    dsimp only at hlw
    have lCw := Nat.lt_of_lt_of_le lC Hgw.out.below.size
    clear hall hg
    by_cases hlt : k < nC
    · have hki : (k : Int) < (nC : Int) := by omega
      by_cases h1 : k + 1 = i
      · have b1 : ((k : Int) != (i : Int) - 1) = false := by simp [bne]; omega
        have Hn : Hid (∀ j, j < k + 1 → j + 1 ≠ i → j ≠ i → j ≠ i + 1 → joinB E (ge C i) (ge C j) = false) := Lib.hid (fun j hj a b c => Hall.out j (by omega) a b c)
        clear h1
        go_upto_region 4 with fail
        refine wp_region_over (by kernel_rfl) (by kernel_rfl) ?_; (repeat (go_big_quiet_step (fail))); refine wpQuiet_nil ?_; rintro _ ⟨x, rfl⟩
        go_wp2
        go_roundw
        case rel => exact ⟨k + 1, by omega, by go_num, Hg.out.trans (by (repeat (first | exact gR _ | refine gO ?_ _ | refine gA ?_ _ | refine gD ?_ | refine gN ?_ _))), Hn.out⟩
        case measure => (simp [intOf] <;> omega)
      have b1 : ((k : Int) != (i : Int) - 1) = true := by simp [bne]; omega
      by_cases h2 : k = i
      · have b2 : ((k : Int) != (i : Int)) = false := by simp [bne]; omega
        have Hn : Hid (∀ j, j < k + 1 → j + 1 ≠ i → j ≠ i → j ≠ i + 1 → joinB E (ge C i) (ge C j) = false) := Lib.hid (fun j hj a b c => Hall.out j (by omega) a b c)
        clear h2
        go_upto_region 4 with fail
        refine wp_region_over (by kernel_rfl) (by kernel_rfl) ?_; (repeat (go_big_quiet_step (fail))); refine wpQuiet_nil ?_; rintro _ ⟨x, rfl⟩
        go_wp2
        go_roundw
        case rel => exact ⟨k + 1, by omega, by go_num, Hg.out.trans (by (repeat (first | exact gR _ | refine gO ?_ _ | refine gA ?_ _ | refine gD ?_ | refine gN ?_ _))), Hn.out⟩
        case measure => (simp [intOf] <;> omega)
      have b2 : ((k : Int) != (i : Int)) = true := by simp [bne]; omega
      by_cases h3 : k = i + 1
      · have b3 : ((k : Int) != (i : Int) + 1) = false := by simp [bne]; omega
        have Hn : Hid (∀ j, j < k + 1 → j + 1 ≠ i → j ≠ i → j ≠ i + 1 → joinB E (ge C i) (ge C j) = false) := Lib.hid (fun j hj a b c => Hall.out j (by omega) a b c)
        clear h3
        go_upto_region 4 with fail
        refine wp_region_over (by kernel_rfl) (by kernel_rfl) ?_; (repeat (go_big_quiet_step (fail))); refine wpQuiet_nil ?_; rintro _ ⟨x, rfl⟩
        go_wp2
        go_roundw
        case rel => exact ⟨k + 1, by omega, by go_num, Hg.out.trans (by (repeat (first | exact gR _ | refine gO ?_ _ | refine gA ?_ _ | refine gD ?_ | refine gN ?_ _))), Hn.out⟩
        case measure => (simp [intOf] <;> omega)
      have b3 : ((k : Int) != (i : Int) + 1) = true := by simp [bne]; omega
      have e1 := HcC.out wr Hgw.out i (by rw [HnC.out]; exact hi)
      have e2 := HcC.out wr Hgw.out k (by rw [HnC.out]; exact hlt)
      obtain ⟨u, hu⟩ : ∃ u, ge C i = u := ⟨_, rfl⟩
      obtain ⟨v, hv⟩ : ∃ v, ge C k = v := ⟨_, rfl⟩
      rw [hu] at e1
      rw [hv] at e2
      obtain ⟨s, hs⟩ : ∃ s, joinB E u v = s := ⟨_, rfl⟩
      have Hj2 : Hid (∀ W1, Grew w W1 → Calls Tryd.prog 74 #[.agg #[.int .i64 N, .slice pE nE cE, .slice pA nA cA], .int .i64 u, .int .i64 v] W1 fun e w' => e = .returned (.bool s) ∧ Grew W1 w') := Lib.hid (fun W1 h => by rw [← hs]; exact Hj.out u v W1 h)
      have hii : (i : Int) < (nC : Int) := by omega
      cases s
      · have Hn : Hid (∀ j, j < k + 1 → j + 1 ≠ i → j ≠ i → j ≠ i + 1 → joinB E (ge C i) (ge C j) = false) := Lib.hid (fun j hj a b c => by
          by_cases e : j = k
          · rw [e, hu, hv]; exact hs
          · exact Hall.out j (by omega) a b c)
        clear hu hv hs h1 h2 h3
        go_upto_region 4 with fail
        refine wp_region_over (by kernel_rfl) (by kernel_rfl) ?_; (repeat (go_big_quiet_step ((go_at_call 74; apply over_call; with_reducible exact Hj2.out _ (Hgw.out.trans (by (repeat (first | exact gR _ | refine gO ?_ _ | refine gA ?_ _ | refine gD ?_ | refine gN ?_ _)))))))); refine wpQuiet_nil ?_; rintro _ ⟨x, rfl⟩
        go_wp2
        go_roundw
        case rel => exact ⟨k + 1, by omega, by go_num, Hg.out.trans (by (repeat (first | exact gR _ | refine gO ?_ _ | refine gA ?_ _ | refine gD ?_ | refine gN ?_ _))), Hn.out⟩
        case measure => (simp [intOf] <;> omega)
      · have Hf : Hid (t = true) := Lib.hid (by
          rw [← Ht.out]
          cases hc : chdK E C i nC
          · have := chdK_no.1 hc k hlt h1 h2 h3
            rw [hu, hv, hs] at this
            cases this
          · rfl)
        clear hu hv hs h1 h2 h3
        go_upto_region 4 with fail
        refine wp_region_over (by kernel_rfl) (by kernel_rfl) ?_; (repeat (go_big_quiet_step ((go_at_call 74; apply over_call; with_reducible exact Hj2.out _ (Hgw.out.trans (by (repeat (first | exact gR _ | refine gO ?_ _ | refine gA ?_ _ | refine gD ?_ | refine gN ?_ _)))))))); refine wpQuiet_nil ?_; rintro _ ⟨x, rfl⟩
        go_wp2
        go_ret
        exact ⟨by rw [Hf.out]; rfl, Hgw.out.trans (by (repeat (first | exact gR _ | refine gO ?_ _ | refine gA ?_ _ | refine gD ?_ | refine gN ?_ _)))⟩
    · have Hf : Hid (t = false) := Lib.hid (by rw [← Ht.out]; exact chdK_no.2 fun j hj => Hall.out j (by omega))
      go_wp2
      go_ret
      exact ⟨by rw [Hf.out]; rfl, Hgw.out.trans (by (repeat (first | exact gR _ | refine gO ?_ _ | refine gA ?_ _ | refine gD ?_ | refine gN ?_ _)))⟩
end Go.Proofs.YtlealdicoceekaaDoor

/- Order of the reference: uncover. -/
namespace Go.Proofs.YtlealdicoceekaaDoor
open Go.RowKit
attribute [local go_sem ↓] Go.wp_at_zero Go.wp_at_succ

/-- The neighbours that are not in a list, of the first darts of a row. -/
def ringK (E : List (Int × Int)) (row G : List Int) (k : Nat) : List Int := ((nearL E row).take k).filter fun u => decide (u ∉ G)
theorem ringK_succ {E : List (Int × Int)} {row G : List Int} {k : Nat} (h : k < row.length) : ringK E row G (k + 1) = ringK E row G k ++ if tailE E (oth (ge row k)) ∈ G then [] else [tailE E (oth (ge row k))] := by
  have hl : (nearL E row).length = row.length := by unfold nearL; rw [List.length_map]
  unfold ringK
  rw [List.take_succ_eq_append_getElem (by omega), List.filter_append]
  congr 1
  have : (nearL E row)[k]'(by omega) = tailE E (oth (ge row k)) := by
    unfold nearL
    rw [List.getElem_map, ge_eq row h]
  rw [this]
  by_cases hm : tailE E (oth (ge row k)) ∈ G <;> simp [hm]
theorem ringK_len (E : List (Int × Int)) (row G : List Int) (k : Nat) : (ringK E row G k).length ≤ k := by
  unfold ringK
  refine Nat.le_trans (List.length_filter_le _ _) ?_
  rw [List.length_take]
  exact Nat.min_le_left _ _
theorem rot_ge {xs r1 r2 : List Int} (hx : xs = r1 ++ r2) {k : Nat} (hk : k < xs.length) : ge xs ((r1.length + k) % xs.length) = ge (r2 ++ r1) k := by
  subst hx
  rw [List.length_append] at hk ⊢
  unfold ge
  rw [List.getD_eq_getElem?_getD, List.getD_eq_getElem?_getD]
  by_cases h : r1.length + k < r1.length + r2.length
  · rw [Nat.mod_eq_of_lt h, List.getElem?_append_right (by omega), List.getElem?_append_left (by omega), Nat.add_sub_cancel_left]
  · rw [show (r1.length + k) % (r1.length + r2.length) = k - r2.length by rw [Nat.mod_eq_sub_mod (by omega), Nat.mod_eq_of_lt (by omega)]; omega, List.getElem?_append_left (by omega), List.getElem?_append_right (by omega)]

/-- What a function returns that makes a list. -/
def NewI (xs : List Int) (w : World) (e : Ending) (w' : World) : Prop := Grew w w' ∧ ∃ q cap, e = .returned (.slice q xs.length cap) ∧ Ints w' q xs ∧ xs.length ≤ cap ∧ cap ≤ maxLen
set_option maxRecDepth 8000 in
set_option maxHeartbeats 16000000 in
theorem uncover_l (N : Int) (pE pA pC pG : Option Addr) (nE nA nC nG cE cA cC cG : Nat) (E : List (Int × Int)) (A : List (List Int)) (C G : List Int) (s v : Nat) (w : World) (hR : RotAt w pE pA E A) (hV : vRot N E A) (hC : Ints w pC C) (hG : Ints w pG G) (hnE : E.length = nE) (hnA : A.length = nA) (hnC : C.length = nC) (hnG : G.length = nG)
    (hC1 : nC ≤ 200) (hC2 : nC ≤ cC) (hC3 : cC ≤ maxLen) (hs : s + 2 < nC) (hv : ge C (s + 1) = (v : Int)) (hvl : v < nA) {r1 r2 Y : List Int} (hring : ringK E (rowOf A v) G (rowOf A v).length = r1 ++ ge C s :: r2) (hrot : (ge C s :: r2) ++ r1 = ge C s :: (Y ++ [ge C (s + 2)])) (hnd : (ge C s :: (Y ++ [ge C (s + 2)])).Nodup) :
    Calls Tryd.prog 50 #[.agg #[.int .i64 N, .slice pE nE cE, .slice pA nA cA], .slice pC nC cC, .int .i64 ((s : Int) + 1), .slice pG nG cG] w (NewI (C.take (s + 1) ++ (Y ++ C.drop (s + 2))) w) := by
  have hal := hV.al
  have HR := Lib.hid hR
  have HV := Lib.hid hV
  have HC := Lib.hid hC
  have HG := Lib.hid hG
  have HnE := Lib.hid hnE
  have HnA := Lib.hid hnA
  have HnC := Lib.hid hnC
  have HnG := Lib.hid hnG
  have hnE1 : nE ≤ 100 := by have := hR.e1; omega
  obtain ⟨row, hrow⟩ : ∃ row, rowOf A v = row := ⟨_, rfl⟩
  have hrl : row.length ≤ 100 := by rw [← hrow]; exact hR.r1 v (by omega)
  have Hmr : Hid (∀ d ∈ row, 0 ≤ d ∧ d < 2 * (nE : Int)) := Lib.hid (fun d hd => by
    have := mem_row hV (v := v) (by omega) (by rw [hrow]; exact hd)
    omega)
  obtain ⟨xs, hxs⟩ : ∃ xs, ringK E row G row.length = xs := ⟨_, rfl⟩
  rw [hrow, hxs] at hring
  have Hxs := Lib.hid hxs
  have hxl : xs.length ≤ 100 := by rw [← hxs]; exact Nat.le_trans (ringK_len _ _ _ _) hrl
  have hYl : xs.length = Y.length + 2 := by
    have := congrArg List.length hrot
    rw [hring]
    simp at this ⊢
    omega
  have Hget : Hid (∀ k, k < xs.length → ge xs ((r1.length + k) % xs.length) = ge (ge C s :: (Y ++ [ge C (s + 2)])) k) := Lib.hid (fun k hk => by rw [← hrot]; exact rot_ge hring hk)
  have ha0 : r1.length < xs.length := by rw [hring]; simp
  have Hat : Hid (ge xs r1.length = ge C s) := Lib.hid (by
    have := Hget.out 0 (by omega)
    rw [Nat.add_zero, Nat.mod_eq_of_lt ha0] at this
    exact this)
  have hxn : xs.Nodup := by
    rw [hring]
    rw [← hrot] at hnd
    exact (List.perm_append_comm.nodup_iff).1 hnd
  have Hne : Hid (∀ t, t < r1.length → ge xs t ≠ ge C s) := Lib.hid (fun t ht e => by
    rw [← Hat.out, ge_eq xs (by omega), ge_eq xs ha0] at e
    have := (List.getElem_inj hxn).1 e
    omega)
  have Hlast : Hid (∀ k, k < Y.length → ge (ge C s :: (Y ++ [ge C (s + 2)])) (k + 1) = ge Y k) := Lib.hid (fun k hk => by rw [ge_cons_succ, geA_l _ hk])
  have Hend : Hid (ge (ge C s :: (Y ++ [ge C (s + 2)])) (Y.length + 1) = ge C (s + 2)) := Lib.hid (by rw [ge_cons_succ]; exact ge_mid _ _ _)
  have HnY : Hid (ge C (s + 2) ∉ Y) := Lib.hid (fun hm => by
    rw [List.nodup_cons, List.nodup_append] at hnd
    exact hnd.2.2.2 _ hm _ (by simp) rfl)
  have HxB : Hid (∀ x ∈ xs, -9223372036854775808 ≤ x ∧ x ≤ 9223372036854775807) := Lib.hid (fun x hx => by
    rw [← hxs] at hx
    unfold ringK at hx
    have hm := List.mem_of_mem_take (List.mem_filter.1 hx).1
    obtain ⟨d, hd, rfl⟩ := List.mem_map.1 hm
    have hdd := Hmr.out d hd
    have := oth_in (d := d) (M := E.length) hdd.1 (by omega)
    have := tail_in hV this.1 this.2
    have := hV.n1
    omega)
  obtain ⟨bA, oA, rp, rc, rfl, lA, cA'⟩ := hR.hA.rows (by omega)
  obtain ⟨_, a2⟩ := cA' w (Grew.refl _) v (by omega)
  obtain ⟨rv, hrv⟩ : ∃ rv, rp v = rv := ⟨_, rfl⟩
  obtain ⟨cv, hcv⟩ : ∃ cv, rc v = cv := ⟨_, rfl⟩
  rw [hrv, hrow] at a2
  have Ha1 : Hid (∀ W, Grew w W → W.cell? ⟨bA, oA + v, none⟩ = some (.slice rv row.length cv)) := Lib.hid (fun W h => by
    have := (cA' W h v (by omega)).1
    rw [hrv, hcv, hrow] at this
    exact this)
  have Ha2 := Lib.hid a2
  obtain ⟨bC, oC, rfl, lC, cC'⟩ := hC.cells (by omega)
  have HcC := Lib.hid cC'
  have Htl : Hid (∀ (d : Nat) W1, Grew w W1 → d < 2 * nE → Calls Tryd.prog 73 #[.agg #[.int .i64 N, .slice pE nE cE, .slice (some ⟨bA, oA, none⟩) nA cA], .int .i64 d] W1 fun e w' => e = .returned (.int .i64 (tailE E d)) ∧ Grew W1 w') := Lib.hid (fun d W1 h hd => by
    have := tailr_l N pE (some ⟨bA, oA, none⟩) nE nA cE cA E A d W1 (HR.out.grew h) HnE.out HnA.out
    rw [show tailF N E A (d : Int) = tailE E d by unfold tailF; rw [if_pos ⟨vRotB_iff.2 HV.out, by omega, by have := HnE.out; omega⟩]] at this
    exact this)
  have Hhas : Hid (∀ (u : Int) W1, Grew w W1 → Calls Tryd.prog 60 #[.slice pG nG cG, .int .i64 u] W1 fun e w' => e = .returned (.bool (decide (u ∈ G))) ∧ W1 = w') := Lib.hid (fun u W1 h => has36_r pG nG cG G u W1 (HG.out.grew h) HnG.out)
  have Hv := Lib.hid hv
  clear hR hV hC hG hnE hnA hnC hnG hrot hnd hxn hring hxs hrow hrv hcv a2 cA' cC' hv hal
  go_enter Tryd.func50, Tryd.ntmps50
  go_upto_region 1 with fail
  have HgB : Hid (Grew w (w.alloc (.cells #[.int .i64 N, .slice pE nE cE, .slice (some ⟨bA, oA, none⟩) nA cA] 25))) := Lib.hid ((Grew.refl w).alloc _)
  have k0 : Hid ((w.alloc (.cells #[.int .i64 N, .slice pE nE cE, .slice (some ⟨bA, oA, none⟩) nA cA] 25)).cell? ⟨w.heap.size, 0, none⟩ = some (.int .i64 N)) := Lib.hid (by simp [go_sem])
  have k1 : Hid ((w.alloc (.cells #[.int .i64 N, .slice pE nE cE, .slice (some ⟨bA, oA, none⟩) nA cA] 25)).cell? ⟨w.heap.size, 1, none⟩ = some (.slice pE nE cE)) := Lib.hid (by simp [go_sem])
  have k2 : Hid ((w.alloc (.cells #[.int .i64 N, .slice pE nE cE, .slice (some ⟨bA, oA, none⟩) nA cA] 25)).cell? ⟨w.heap.size, 2, none⟩ = some (.slice (some ⟨bA, oA, none⟩) nA cA)) := Lib.hid (by simp [go_sem])
  obtain ⟨wB, hwB⟩ : ∃ wB, w.alloc (.cells #[.int .i64 N, .slice pE nE cE, .slice (some ⟨bA, oA, none⟩) nA cA] 25) = wB := ⟨_, rfl⟩
  rw [hwB] at HgB k0 k1 k2 ⊢
  clear hwB
  have q2 := k2.out
  have hlw := World.block_lt_of_cell? wB _ q2
  dsimp only at hlw
  have c1 := HcC.out wB HgB.out (s + 1) (by rw [HnC.out]; omega)
  rw [Hv.out] at c1
  have d1 := Ha1.out wB HgB.out
  have lAB := Nat.lt_of_lt_of_le lA HgB.out.below.size
  have lCB := Nat.lt_of_lt_of_le lC HgB.out.below.size
  have hsi : (s : Int) + 1 < (nC : Int) := by omega
  have hvi : (v : Int) < (nA : Int) := by omega
  refine wp_region_over (by kernel_rfl) (by kernel_rfl) ?_; (repeat (go_big_quiet_step (fail))); refine wpQuiet_nil ?_; intro wO hW; replace hW : Grew _ wO := hW
  have HgO : Hid (Grew w wO) := Lib.hid (HgB.out.trans hW)
  have k0 : Hid (wO.cell? ⟨w.heap.size, 0, none⟩ = some (.int .i64 N)) := Lib.hid (hW.cellEq k0.out)
  have k1 : Hid (wO.cell? ⟨w.heap.size, 1, none⟩ = some (.slice pE nE cE)) := Lib.hid (hW.cellEq k1.out)
  have k2 : Hid (wO.cell? ⟨w.heap.size, 2, none⟩ = some (.slice (some ⟨bA, oA, none⟩) nA cA)) := Lib.hid (hW.cellEq k2.out)
  clear c1 d1 lAB lCB q2 hlw hW HgB
  have HON := Lib.hid ((Owns.nil wO wO.heap.size).none 3 1)
  go_wp2
  go_loopw [10, 11, 12] (fun vR jv _ wr => ∃ j : Nat, j ≤ row.length ∧ jv = .int .i64 j ∧ Grew wO wr ∧ Owns wr wO.heap.size [⟨vR, 3, 1, (ringK E row G j).length, intVs (ringK E row G j)⟩]) (fun _ jv _ _ => row.length - (intOf jv).toNat)
  case atStart => exact ⟨0, Nat.zero_le _, rfl, by (repeat (first | exact gR _ | refine gO ?_ _ | refine gA ?_ _ | refine gD ?_ | refine gN ?_ _)), by simpa [ringK, intVs] using HON.out.grew (by (repeat (first | exact gR _ | refine gO ?_ _ | refine gA ?_ _ | refine gD ?_ | refine gN ?_ _)))⟩
  case round =>
    clear HON
    obtain ⟨j, hj, rfl, hg, hO⟩ := hrel
    have Hg := Lib.hid hg
    have HO := Lib.hid hO
    have hszr := hg.below.size
    have q0 := hg.cellEq k0.out
    have q1 := hg.cellEq k1.out
    have q2 := hg.cellEq k2.out
    have hlw := World.block_lt_of_cell? wr _ q0
    dsimp only at hlw
    have Hgw : Hid (Grew w wr) := Lib.hid (HgO.out.trans hg)
    obtain ⟨pV, cV, rfl⟩ := own_form hO (k := 0) rfl
    have hrk := ringK_len E row G j
    clear hg hO
    by_cases hlt : j < row.length
    · have hji : (j : Int) < (row.length : Int) := by omega
      obtain ⟨bR, oR, rfl, lR, cR⟩ := Ha2.out.cells (by omega)
      have e1 := cR wr Hgw.out j hlt
      have lRw := Nat.lt_of_lt_of_le lR Hgw.out.below.size
      have hdr := Hmr.out _ (ge_mem hlt)
      obtain ⟨d, hd⟩ : ∃ d : Nat, ge row j = (d : Int) := ⟨(ge row j).toNat, by omega⟩
      rw [hd] at e1
      have hd2 : d < 2 * nE := by omega
      obtain ⟨o, ho⟩ : ∃ o : Nat, oth (d : Int) = (o : Int) := ⟨(oth d).toNat, by have := oth_in (d := d) (M := nE) (by omega) (by omega); omega⟩
      have ho2 : o < 2 * nE := by have := oth_in (d := d) (M := nE) (by omega) (by omega); omega
      have hx2 : bits BinOp.xor IntKind.i64 (d : Int) 1 = (o : Int) := by rw [← ho]; exact xor_small d (by omega)
      obtain ⟨u, hu⟩ : ∃ u, tailE E (o : Int) = u := ⟨_, rfl⟩
      have Hsc := Lib.hid (ringK_succ (E := E) (G := G) hlt)
      rw [hd, ho, hu] at Hsc
      have Htl2 : Hid (∀ W1, Grew w W1 → Calls Tryd.prog 73 #[.agg #[.int .i64 N, .slice pE nE cE, .slice (some ⟨bA, oA, none⟩) nA cA], .int .i64 o] W1 fun e w' => e = .returned (.int .i64 u) ∧ Grew W1 w') := Lib.hid (fun W1 h => by rw [← hu]; exact Htl.out o W1 h ho2)
      have hub : -9223372036854775808 ≤ u ∧ u ≤ 9223372036854775807 := by
        have := tail_in HV.out (d := (o : Int)) (by omega) (by have := HnE.out; omega)
        have := HV.out.n1
        omega
      obtain ⟨m, hm⟩ : ∃ m, decide (u ∈ G) = m := ⟨_, rfl⟩
      have Hhas2 : Hid (∀ W1, Grew w W1 → Calls Tryd.prog 60 #[.slice pG nG cG, .int .i64 u] W1 fun e w' => e = .returned (.bool m) ∧ W1 = w') := Lib.hid (fun W1 h => by rw [← hm]; exact Hhas.out u W1 h)
      have Hm := Lib.hid hm
      clear cR hd ho hu hm hdr
      go_upto_region 6 with fail
      refine wp_region_over (by kernel_rfl) (by kernel_rfl) ?_; (repeat (go_big_quiet_step ((go_at_call 73; apply over_call; with_reducible exact Htl2.out _ (Hgw.out.trans (by (repeat (first | exact gR _ | refine gO ?_ _ | refine gA ?_ _ | refine gD ?_ | refine gN ?_ _)))))))); refine wpQuiet_nil ?_; intro wQ hW; replace hW : Grew _ wQ := hW
      have HgQ : Hid (Grew wO wQ) := Lib.hid (Hg.out.trans hW)
      have HgQw : Hid (Grew w wQ) := Lib.hid (Hgw.out.trans hW)
      have HOQ := Lib.hid (HO.out.grew hW)
      have hszq := hW.below.size
      obtain ⟨n, hn⟩ : ∃ n, (ringK E row G j).length = n := ⟨_, rfl⟩
      rw [hn] at hrk HOQ ⊢
      have Hn := Lib.hid hn
      clear HO Hg Hgw q0 q1 q2 hlw hW e1 hn
      cases m
      · have Hsc2 : Hid (ringK E row G (j + 1) = ringK E row G j ++ [u]) := Lib.hid (by rw [Hsc.out, if_neg (of_decide_eq_false Hm.out)])
        go_wp2_with (first
          | ((go_at_call 60; apply Calls.mono; (with_reducible exact Hhas2.out _ (HgQw.out.trans (by (repeat (first | exact gR _ | refine gO ?_ _ | refine gA ?_ _ | refine gD ?_ | refine gN ?_ _))))); rintro e w' ⟨rfl, rfl⟩))
          | (at_builtin; refine wp_append_owns rfl _ _ 26 rfl 3 1 8 (.int .i64 0) Tryd.underlying26 Tryd.infoInt rfl (by decide) (wO.heap.size) _ 0 _ _ _ (HOQ.out.grew (by (repeat (first | exact gR _ | refine gO ?_ _ | refine gA ?_ _ | refine gD ?_ | refine gN ?_ _)))) rfl rfl _ 1 1 rfl [.int .i64 (u)] rfl (fun h => by cases h) (one_news _ (by first | (go_simp; done) | (simp [go_sem, ↓IntWalk.iteOmega, *]; done))) (by simp [Value.oneCell']) (by simp only [maxLen]; omega) (by omega) (by first | rfl | omega | (simp <;> omega)) ?_; intro v1 w1 hO1 hg1 hb1 hv1; have HO9 := Lib.hid hO1; have Hg9 := Lib.hid (Grew.grownBy (w0 := wO) (HgQ.out.trans (by (repeat (first | exact gR _ | refine gO ?_ _ | refine gA ?_ _ | refine gD ?_ | refine gN ?_ _)))) hg1 (fun q h => by have := hb1 q h; omega)); clear hO1 hg1 hb1 hv1))
        go_roundw
        case rel => exact ⟨j + 1, by omega, by go_num, Hg9.out.trans (by (repeat (first | exact gR _ | refine gO ?_ _ | refine gA ?_ _ | refine gD ?_ | refine gN ?_ _))), by rw [Hsc2.out, intVs_app', List.length_append, Hn.out]; exact HO9.out.grew (by (repeat (first | exact gR _ | refine gO ?_ _ | refine gA ?_ _ | refine gD ?_ | refine gN ?_ _)))⟩
        case measure => (simp [intOf] <;> omega)
      · have Hsc2 : Hid (ringK E row G (j + 1) = ringK E row G j) := Lib.hid (by rw [Hsc.out, if_pos (of_decide_eq_true Hm.out), List.append_nil])
        go_wp2_with ((go_at_call 60; apply Calls.mono; (with_reducible exact Hhas2.out _ (HgQw.out.trans (by (repeat (first | exact gR _ | refine gO ?_ _ | refine gA ?_ _ | refine gD ?_ | refine gN ?_ _))))); rintro e w' ⟨rfl, rfl⟩))
        go_roundw
        case rel => exact ⟨j + 1, by omega, by go_num, HgQ.out.trans (by (repeat (first | exact gR _ | refine gO ?_ _ | refine gA ?_ _ | refine gD ?_ | refine gN ?_ _))), by rw [Hsc2.out, Hn.out]; exact HOQ.out.grew (by (repeat (first | exact gR _ | refine gO ?_ _ | refine gA ?_ _ | refine gD ?_ | refine gN ?_ _)))⟩
        case measure => (simp [intOf] <;> omega)
    · obtain rfl : j = row.length := by omega
      rw [Hxs.out] at HO ⊢
      obtain ⟨q5, cap5, e1, e2, e3, e4, e5, e6⟩ := own_ints HO.out (k := 0) rfl HxB.out
      cases e1
      have HI5 := Lib.hid (e6 wr (Grew.refl _))
      obtain ⟨n, hn⟩ : ∃ n, xs.length = n := ⟨_, rfl⟩
      have Hn := Lib.hid hn
      rw [hn] at hxl hYl ha0 e3 ⊢
      have HYl := Lib.hid hYl
      have hn2 : 2 ≤ n := by omega
      clear hYl
      obtain ⟨a, ha⟩ : ∃ a, r1.length = a := ⟨_, rfl⟩
      rw [ha] at ha0
      have Ha := Lib.hid ha
      have hji : ¬ (row.length : Int) < (row.length : Int) := by omega
      have hg0 : Hid (Grew w wr) := Lib.hid Hgw.out
      clear HO e2 e5 e6 q0 q1 q2 hlw hn ha Hg hj hlt hrk
      obtain ⟨wb, hwb⟩ : ∃ wb, wb = wr := ⟨_, rfl⟩
      subst hwb
      go_wp2
      go_loopw [14] (fun av wk => ∃ t : Nat, t ≤ a ∧ av = .int .i64 t ∧ Grew wb wk) (fun av _ => a - (intOf av).toNat)
      case atStart => exact ⟨0, Nat.zero_le _, rfl, by (repeat (first | exact gR _ | refine gO ?_ _ | refine gA ?_ _ | refine gD ?_ | refine gN ?_ _))⟩
      case round =>
        obtain ⟨t, ht, rfl, hg⟩ := hrel
        have Hg := Lib.hid hg
        have Hgw : Hid (Grew w wr) := Lib.hid (hg0.out.trans hg)
        clear hg
        obtain ⟨bx, ox, rfl, lx, cx⟩ := HI5.out.cells (by rw [Hn.out]; omega)
        have x1 := cx wr Hg.out t (by rw [Hn.out]; omega)
        have c1 := HcC.out wr Hgw.out s (by rw [HnC.out]; omega)
        have lxw := Nat.lt_of_lt_of_le lx Hg.out.below.size
        have lCw := Nat.lt_of_lt_of_le lC Hgw.out.below.size
        obtain ⟨x, hx⟩ : ∃ x, ge xs t = x := ⟨_, rfl⟩
        obtain ⟨y, hy⟩ : ∃ y, ge C s = y := ⟨_, rfl⟩
        rw [hx] at x1
        rw [hy] at c1
        have hti : (t : Int) < (n : Int) := by omega
        have hsi2 : (s : Int) < (nC : Int) := by omega
        by_cases hta : t < a
        · have hxy : (x != y) = true := by rw [bne_iff_ne, ← hx, ← hy]; exact Hne.out t (by rw [Ha.out]; exact hta)
          clear cx hx hy
          go_upto_region 11 with fail
          refine wp_region_over (by kernel_rfl) (by kernel_rfl) ?_; (repeat (go_big_quiet_step (fail))); refine wpQuiet_nil ?_; rintro _ ⟨x, rfl⟩
          go_wp2
          go_roundw
          case rel => exact ⟨t + 1, by omega, by go_num, Hg.out.trans (by (repeat (first | exact gR _ | refine gO ?_ _ | refine gA ?_ _ | refine gD ?_ | refine gN ?_ _)))⟩
          case measure => (simp [intOf] <;> omega)
        · obtain rfl : t = a := by omega
          have hxy : (x != y) = false := by
            have e9 := Hat.out
            rw [Ha.out] at e9
            simp [bne, ← hx, ← hy, e9]
          clear cx hx hy
          go_upto_region 11 with fail
          refine wp_region_over (by kernel_rfl) (by kernel_rfl) ?_; (repeat (go_big_quiet_step (fail))); refine wpQuiet_nil ?_; intro wc hW; replace hW : Grew _ wc := hW
          have HgC : Hid (Grew wb wc) := Lib.hid (Hg.out.trans hW)
          have HgCw : Hid (Grew w wc) := Lib.hid (Hgw.out.trans hW)
          have HI6 := Lib.hid (HI5.out.grew HgC.out)
          clear Hg Hgw hW x1 c1 lxw lCw hxy
          go_upto_region 14 with fail
          obtain ⟨m1, hm1⟩ : ∃ m1, (t + 1) % n = m1 := ⟨_, rfl⟩
          have hm1n : m1 < n := by rw [← hm1]; exact Nat.mod_lt _ (by omega)
          have hmi : ((t : Int) + 1) % (n : Int) = (m1 : Int) := by rw [← hm1]; push_cast; rfl
          obtain ⟨bx', ox', e9, lx', cx⟩ := HI6.out.cells (by rw [Hn.out]; omega)
          cases e9
          have x1 := cx wc (Grew.refl _) m1 (by rw [Hn.out]; exact hm1n)
          have c1 := HcC.out wc HgCw.out (s + 2) (by rw [HnC.out]; omega)
          have lCw := Nat.lt_of_lt_of_le lC HgCw.out.below.size
          have hm1i : (m1 : Int) < (n : Int) := by omega
          have hsi3 : (s : Int) + 2 < (nC : Int) := by omega
          obtain ⟨x, hx⟩ : ∃ x, ge xs m1 = x := ⟨_, rfl⟩
          obtain ⟨y, hy⟩ : ∃ y, ge C (s + 2) = y := ⟨_, rfl⟩
          rw [hx] at x1
          rw [hy] at c1
          have hby : ((x == y) = true ∧ ¬ 2 < (n : Int)) ∨ (x == y) = false := by
            have h9 := HYl.out
            by_cases hY : Y.length = 0
            · left
              have h1 := Hget.out 1 (by rw [Hn.out]; omega)
              rw [Ha.out, Hn.out, hm1, hx, show 1 = Y.length + 1 by omega, Hend.out, hy] at h1
              exact ⟨by rw [beq_iff_eq]; exact h1, by omega⟩
            · right
              have h1 := Hget.out 1 (by rw [Hn.out]; omega)
              rw [Ha.out, Hn.out, hm1, Hlast.out 0 (by omega), hx] at h1
              rw [beq_eq_false_iff_ne, h1, ← hy]
              intro e
              exact HnY.out (by rw [← e]; exact ge_mem (by omega))
          clear cx hx hy hm1
          have HC17 := Lib.hid (HC.out.cut (k := s + 1) (by rw [HnC.out]; omega))
          have hTl : (C.take (s + 1)).length = s + 1 := by rw [List.length_take, HnC.out]; omega
          have HD17 := Lib.hid (HC.out.drop (k := s + 2) (by rw [HnC.out]; omega))
          have hDl : (C.drop (s + 2)).length = nC - (s + 2) := by rw [List.length_drop, HnC.out]
          have HTl := Lib.hid hTl
          have HDl := Lib.hid hDl
          rcases hby with ⟨hxy, hn3⟩ | hxy
          all_goals
            refine wp_region_over (by kernel_rfl) (by kernel_rfl) ?_; (repeat (go_big_quiet_step (fail))); refine wpQuiet_nil ?_; intro wd hW; replace hW : Grew _ wd := hW
            have HgD : Hid (Grew wb wd) := Lib.hid (HgC.out.trans hW)
            have HgDw : Hid (Grew w wd) := Lib.hid (HgCw.out.trans hW)
            have HI7 := Lib.hid (HI6.out.grew hW)
            clear hW
            go_upto_region 18 with (at_builtin; refine wp_append_owns rfl _ _ 26 rfl 3 1 8 (.int .i64 0) Tryd.underlying26 Tryd.infoInt rfl (by decide) (wd.heap.size) _ 0 _ _ _ ((Owns.nil _ wd.heap.size).none 3 1) rfl rfl _ _ _ rfl (intVs (C.take (s + 1))) (by rw [intVs_length, Nat.mul_one]; try first | rfl | assumption | (simp; done) | omega) (fun h => by cases h) (Ints.news (HC17.out.grew (HgDw.out.trans (by (repeat (first | exact gR _ | refine gO ?_ _ | refine gA ?_ _ | refine gD ?_ | refine gN ?_ _)))))) (intVs_one _) (by simp only [maxLen]; omega) (by omega) (by first | rfl | omega | (simp <;> omega)) ?_; intro v1 w1 hO1 hg1 hb1 hv1; have Hg2 := Lib.hid (Grew.grownBy (w0 := wd) (show Grew wd _ by (repeat (first | exact gR _ | refine gO ?_ _ | refine gA ?_ _ | refine gD ?_ | refine gN ?_ _))) hg1 (fun g h => by have := hb1 g h; omega)); have HO2 := Lib.hid hO1; clear hO1 hg1 hb1 hv1)
            go_wp2
            go_loopw [16, 17] (fun vO kv wk => ∃ k : Nat, 1 ≤ k ∧ k + 1 ≤ n ∧ kv = .int .i64 k ∧ Grew wd wk ∧ Owns wk wd.heap.size [⟨vO, 3, 1, (C.take (s + 1) ++ Y.take (k - 1)).length, intVs (C.take (s + 1) ++ Y.take (k - 1))⟩]) (fun _ kv _ => n - (intOf kv).toNat)
            case atStart => exact ⟨1, Nat.le_refl _, by omega, rfl, Hg2.out.trans (by (repeat (first | exact gR _ | refine gO ?_ _ | refine gA ?_ _ | refine gD ?_ | refine gN ?_ _))), by simpa [HTl.out] using HO2.out.grew (by (repeat (first | exact gR _ | refine gO ?_ _ | refine gA ?_ _ | refine gD ?_ | refine gN ?_ _)))⟩
            case round =>
              clear Hg2 HO2
              obtain ⟨k, hk1, hk, rfl, hgk, hOk⟩ := hrel
              have Hgk := Lib.hid hgk
              have HOk := Lib.hid hOk
              have hszk := hgk.below.size
              obtain ⟨pV, cV2, rfl⟩ := own_form hOk (k := 0) rfl
              clear hgk hOk
              have hkl : (C.take (s + 1) ++ Y.take (k - 1)).length = s + k := by
                have := HYl.out
                rw [List.length_append, HTl.out, List.length_take]
                omega
              obtain ⟨T, hT⟩ : ∃ T, C.take (s + 1) ++ Y.take (k - 1) = T := ⟨_, rfl⟩
              have HT := Lib.hid hT
              rw [hT] at HOk hkl ⊢
              rw [hkl] at HOk ⊢
              have Hkl := Lib.hid hkl
              clear hT hkl
              by_cases hlk : k + 1 < n
              · have h2n : 2 < (n : Int) := by omega
                first
                | (exfalso; omega)
                | (have hki : (k : Int) < (n : Int) - 1 := by omega
                   obtain ⟨m2, hm2⟩ : ∃ m2, (t + k) % n = m2 := ⟨_, rfl⟩
                   have hm2n : m2 < n := by rw [← hm2]; exact Nat.mod_lt _ (by omega)
                   have hm2i : ((t : Int) + (k : Int)) % (n : Int) = (m2 : Int) := by rw [← hm2]; push_cast; rfl
                   obtain ⟨bx', ox', e9, lx', cx⟩ := HI7.out.cells (by rw [Hn.out]; omega)
                   cases e9
                   have x1 := cx wr Hgk.out m2 (by rw [Hn.out]; exact hm2n)
                   have hm2j : (m2 : Int) < (n : Int) := by omega
                   obtain ⟨x, hx⟩ : ∃ x, ge xs m2 = x := ⟨_, rfl⟩
                   rw [hx] at x1
                   have hxY : ge Y (k - 1) = x := by
                     have h1 := Hget.out k (by rw [Hn.out]; omega)
                     have h2 := Hlast.out (k - 1) (by have := HYl.out; omega)
                     rw [show k - 1 + 1 = k by omega] at h2
                     rw [Ha.out, Hn.out, hm2, hx, h2] at h1
                     exact h1.symm
                   have HTs : Hid (C.take (s + 1) ++ Y.take (k + 1 - 1) = T ++ [x]) := Lib.hid (by
                     have hkY : k - 1 < Y.length := by have := HYl.out; omega
                     have e8 : Y.take (k - 1 + 1) = Y.take (k - 1) ++ [x] := by rw [List.take_succ_eq_append_getElem hkY, ← ge_eq Y hkY, hxY]
                     rw [← HT.out, show k + 1 - 1 = (k - 1) + 1 by omega, e8, List.append_assoc])
                   have hxb := HxB.out x (by rw [← hx]; exact ge_mem (by rw [Hn.out]; exact hm2n))
                   clear cx hx hxY hm2
                   go_wp2_with ((at_builtin; refine wp_append_owns rfl _ _ 26 rfl 3 1 8 (.int .i64 0) Tryd.underlying26 Tryd.infoInt rfl (by decide) (wd.heap.size) _ 0 _ _ _ (HOk.out.grew (by (repeat (first | exact gR _ | refine gO ?_ _ | refine gA ?_ _ | refine gD ?_ | refine gN ?_ _)))) rfl rfl _ 1 1 rfl [.int .i64 (x)] rfl (fun h => by cases h) (one_news _ (by first | (go_simp; done) | (simp [go_sem, ↓IntWalk.iteOmega, *]; done))) (by simp [Value.oneCell']) (by simp only [maxLen]; omega) (by omega) (by first | rfl | omega | (simp <;> omega)) ?_; intro v1 w1 hO1 hg1 hb1 hv1; have HO9 := Lib.hid hO1; have Hg9 := Lib.hid (Grew.grownBy (w0 := wd) (Hgk.out.trans (by (repeat (first | exact gR _ | refine gO ?_ _ | refine gA ?_ _ | refine gD ?_ | refine gN ?_ _)))) hg1 (fun q h => by have := hb1 q h; omega)); clear hO1 hg1 hb1 hv1))
                   go_roundw
                   case rel => exact ⟨k + 1, by omega, by omega, by go_num, Hg9.out.trans (by (repeat (first | exact gR _ | refine gO ?_ _ | refine gA ?_ _ | refine gD ?_ | refine gN ?_ _))), by rw [HTs.out, intVs_app', List.length_append, Hkl.out]; exact HO9.out.grew (by (repeat (first | exact gR _ | refine gO ?_ _ | refine gA ?_ _ | refine gD ?_ | refine gN ?_ _)))⟩
                   case measure => (simp [intOf] <;> omega))
              · have hki : ¬ (k : Int) < (n : Int) - 1 := by omega
                have HTe : Hid (C.take (s + 1) ++ (Y ++ C.drop (s + 2)) = T ++ C.drop (s + 2)) := Lib.hid (by
                  rw [← HT.out, List.take_of_length_le (show Y.length ≤ k - 1 by have := HYl.out; omega), List.append_assoc])
                have HTn : Hid (T.length = s + k) := Hkl
                go_wp2_with ((at_builtin; refine wp_append_owns rfl _ _ 26 rfl 3 1 8 (.int .i64 0) Tryd.underlying26 Tryd.infoInt rfl (by decide) (wd.heap.size) _ 0 _ _ _ (HOk.out.grew (by (repeat (first | exact gR _ | refine gO ?_ _ | refine gA ?_ _ | refine gD ?_ | refine gN ?_ _)))) rfl rfl _ _ _ rfl (intVs (C.drop (s + 2))) (by rw [intVs_length, Nat.mul_one]; try first | rfl | assumption | (simp; done) | omega) (fun h => by cases h) (Ints.news (HD17.out.grew (HgDw.out.trans (Hgk.out.trans (by (repeat (first | exact gR _ | refine gO ?_ _ | refine gA ?_ _ | refine gD ?_ | refine gN ?_ _))))))) (intVs_one _) (by simp only [maxLen]; omega) (by omega) (by first | rfl | omega | (simp <;> omega)) ?_; intro v1 w1 hO1 hg1 hb1 hv1; have Hg9 := Lib.hid (Grew.grownBy (w0 := wd) (Hgk.out.trans (by (repeat (first | exact gR _ | refine gO ?_ _ | refine gA ?_ _ | refine gD ?_ | refine gN ?_ _)))) hg1 (fun g h => by have := hb1 g h; omega)); have HO9 := Lib.hid hO1; clear hO1 hg1 hb1 hv1))
                have hbd : ∀ y ∈ T ++ C.drop (s + 2), -9223372036854775808 ≤ y ∧ y ≤ 9223372036854775807 := by
                  intro y hy
                  rcases List.mem_append.1 hy with hy | hy
                  · rw [← HT.out] at hy
                    rcases List.mem_append.1 hy with hy | hy
                    · exact HC17.out.2.1 y hy
                    · obtain ⟨j, hj, e⟩ := mem_ge.1 (List.mem_of_mem_take hy)
                      have h1 := Hlast.out j hj
                      have h2 := Hget.out (j + 1) (by rw [Hn.out]; have := HYl.out; omega)
                      rw [h1, e, Ha.out, Hn.out] at h2
                      rw [← h2]
                      exact HxB.out _ (ge_mem (by rw [Hn.out]; exact Nat.mod_lt _ (by omega)))
                  · exact HD17.out.2.1 y hy
                have h5 := HO9.out
                rw [List.set_cons_zero, ← intVs_app'] at h5
                obtain ⟨q5, cap5, e1, e2, e3, e4, e5, e6⟩ := own_ints h5 (k := 0) rfl hbd
                subst e1
                have H6 := Lib.hid e6
                have H2 := Lib.hid e2
                clear h5 e6 hbd HO9
                go_ret
                refine ⟨HgDw.out.trans (Hg9.out.trans (by (repeat (first | exact gR _ | refine gO ?_ _ | refine gA ?_ _ | refine gD ?_ | refine gN ?_ _)))), q5, cap5, ?_, ?_, ?_, e4⟩
                · rw [HTe.out, H2.out]; rfl
                · rw [HTe.out]; exact H6.out _ (by (repeat (first | exact gR _ | refine gO ?_ _ | refine gA ?_ _ | refine gD ?_ | refine gN ?_ _)))
                · rw [HTe.out, H2.out]; exact e3
end Go.Proofs.YtlealdicoceekaaDoor

/- Order of the reference, plain: a round of the peeling. -/
namespace Go.Proofs.YtlealdicoceekaaDoor
open Go.RowKit

section
variable {N : Int} {E : List (Int × Int)} {A : List (List Int)}
/-- What is left around the vertex that is taken. -/
theorem ring_spot (hT : trgB N E A = true) {ord L1 M X G p q : List Int} {a b f : Int} (hP : Pee E A (fun x => x ∈ ord) (L1 ++ a :: b :: f :: M)) (hS : Spot E A (fun x => x ∈ ord) L1 a b f M X G p q) {Gl : List Int} (hG : ∀ u, u ∈ Gl ↔ u = tailE E b ∨ u ∈ ord) :
    ∃ r1 r2, ringK E (rowOf A (tailE E b).toNat) Gl (rowOf A (tailE E b).toNat).length = r1 ++ tailE E a :: r2 ∧ (tailE E a :: r2) ++ r1 = tailE E a :: (nearL E X ++ [tailE E f]) := by
  have hV := trg_valid hT
  -- q holds something
  obtain ⟨p, q, hS, hq⟩ : ∃ p q, Spot E A (fun x => x ∈ ord) L1 a b f M X G p q ∧ ∃ q', q = oth a :: q' := by
    cases q with
    | nil =>
      have hr := hS.rot
      rw [List.nil_append] at hr
      refine ⟨[], p, ⟨by rw [hS.row]; simp, by rw [List.append_nil]; exact hr, hS.ins, hS.out, hS.ta, hS.tf, hS.da, hS.db⟩, X ++ b :: G, hr⟩
    | cons c q' =>
      have hr := hS.rot
      rw [List.cons_append] at hr
      obtain ⟨e1, _⟩ := List.cons.inj hr
      exact ⟨p, c :: q', hS, q', by rw [e1]⟩
  obtain ⟨q', rfl⟩ := hq
  have hnd := hP.nd
  simp only [List.map_append, List.map_cons, List.nodup_append, List.nodup_cons, List.mem_cons, not_or] at hnd
  obtain ⟨n1, ⟨⟨n2, n3, n4⟩, ⟨n5, n6⟩, n7, n8⟩, n9⟩ := hnd
  have hna : tailE E a ∉ Gl := fun h => by
    rcases (hG _).1 h with k | k
    · exact n2 k
    · exact hP.ng a (by simp) k
  have hnf : tailE E f ∉ Gl := fun h => by
    rcases (hG _).1 h with k | k
    · exact n5 k.symm
    · exact hP.ng f (by simp) k
  have hnX : ∀ d ∈ X, tailE E (oth d) ∉ Gl := fun d hd h => by
    rcases (hG _).1 h with k | k
    · exact (hS.ins d hd).2 (by rw [k]; simp)
    · exact (hS.ins d hd).1 k
  have hGG : ∀ d ∈ G, tailE E (oth d) ∈ Gl := fun d hd => (hG _).2 (Or.inr (hS.out d hd))
  obtain ⟨e1, e2⟩ := near_rot hS
  have hl : (nearL E (rowOf A (tailE E b).toNat)).length = (rowOf A (tailE E b).toNat).length := by unfold nearL; rw [List.length_map]
  have hrk : ringK E (rowOf A (tailE E b).toNat) Gl (rowOf A (tailE E b).toNat).length = (nearL E p ++ nearL E (oth a :: q')).filter fun u => decide (u ∉ Gl) := by
    unfold ringK
    rw [← hl, List.take_length, e1]
  have hta : nearL E (oth a :: q') = tailE E a :: nearL E q' := by unfold nearL; rw [List.map_cons, oth_oth]
  have hff : (nearL E (oth a :: q') ++ nearL E p).filter (fun u => decide (u ∉ Gl)) = tailE E a :: (nearL E X ++ [tailE E f]) := by
    rw [e2, List.filter_cons_of_pos (by simpa using hna), List.filter_append, List.filter_cons_of_pos (by simpa using hnf)]
    congr 1
    have h1 : (nearL E X).filter (fun u => decide (u ∉ Gl)) = nearL E X := by
      rw [List.filter_eq_self]
      intro u hu
      obtain ⟨d, hd, rfl⟩ := List.mem_map.1 hu
      exact decide_eq_true (hnX d hd)
    have h2 : (nearL E G).filter (fun u => decide (u ∉ Gl)) = [] := by
      rw [List.filter_eq_nil_iff]
      intro u hu
      obtain ⟨d, hd, rfl⟩ := List.mem_map.1 hu
      simpa using hGG d hd
    rw [h1, h2]
  refine ⟨(nearL E p).filter (fun u => decide (u ∉ Gl)), (nearL E q').filter (fun u => decide (u ∉ Gl)), ?_, ?_⟩
  · rw [hrk, List.filter_append, hta, List.filter_cons_of_pos (by simpa using hna)]
  · rw [← hff, List.filter_append, hta, List.filter_cons_of_pos (by simpa using hna)]
theorem join_cho (hV : vRot N E A) {u v : Int} : joinB E u v = true ↔ ∃ d, isD E d ∧ tailE E d = u ∧ tailE E (oth d) = v := by
  constructor
  · intro h
    obtain ⟨d, d0, d1, d2, d3⟩ := dart_nbr (join_nbr.1 h)
    exact ⟨oth d, isD.oth ⟨d0, d1⟩, d3, by rw [oth_oth]; exact d2⟩
  · rintro ⟨d, hd, rfl, rfl⟩
    rw [join_nbr]
    have := nbr_dart (E := E) hd.oth.1 hd.oth.2
    rwa [oth_oth] at this
/-- Some vertex has no chord: if not an earlier one, then the last one that is looked at. -/
theorem ord_free (hT : trgB N E A = true) {ord D : List Int} (hP : Pee E A (fun x => x ∈ ord) D) (hm : 3 ≤ D.length) (h : ∀ t, 0 < t → t + 2 < D.length → chdK E (D.map (tailE E)) t D.length = true) : chdK E (D.map (tailE E)) (D.length - 2) D.length = false := by
  have hV := trg_valid hT
  obtain ⟨L, hL⟩ := hP.last
  have hring : Ring E A D.length (fun t => tailE E (ge D t)) (fun t => ge D t) := by
    refine ring_of hV ?_ hP.nd hP.ng
    have e : ge D (D.length - 1) = 1 := by
      have e2 : D.length - 1 = L.length := by rw [hL]; simp
      rw [e2, hL]
      exact ge_mid _ _ _
    rw [e]
    exact hP.fans
  obtain ⟨t, t0, t1, ht⟩ := free_ex hV (chk_all (trg_chk hT)).1 hring hm
  have hg : ∀ k, k < D.length → ge (D.map (tailE E)) k = tailE E (ge D k) := fun k hk => by
    rw [ge_eq _ (by rw [List.length_map]; exact hk), List.getElem_map, ← ge_eq D hk]
  have hno : chdK E (D.map (tailE E)) t D.length = false := by
    rw [chdK_no]
    intro k hk h1 h2 h3
    rw [hg t (by omega), hg k hk]
    cases hj : joinB E (tailE E (ge D t)) (tailE E (ge D k))
    · rfl
    · exact absurd ((join_cho hV).1 hj) (ht k hk h3 h1)
  by_cases e : t = D.length - 2
  · rw [← e]; exact hno
  · have := h t t0 (by omega)
    rw [hno] at this
    cases this
/-- A round. -/
theorem ord_step (hT : trgB N E A = true) {ord D : List Int} (hP : Pee E A (fun x => x ∈ ord) D) {t : Nat} (h0 : 0 < t) (h1 : t + 1 < D.length) (hc : chdK E (D.map (tailE E)) t D.length = false) :
    ∃ L1 a b f M X G p q, D = L1 ++ a :: b :: f :: M ∧ t = L1.length + 1 ∧ (∀ d, isD E d → tailE E d = tailE E b → ∀ x, x ∈ L1 ∨ x ∈ M → tailE E (oth d) ≠ tailE E x) ∧ Spot E A (fun x => x ∈ ord) L1 a b f M X G p q := by
  have hV := trg_valid hT
  obtain ⟨L1, a, b, f, M, rfl, ht⟩ := split3 h0 h1
  rw [chdK_no] at hc
  have hg : ∀ k, k < (L1 ++ a :: b :: f :: M).length → ge ((L1 ++ a :: b :: f :: M).map (tailE E)) k = tailE E (ge (L1 ++ a :: b :: f :: M) k) := fun k hk => by
    rw [ge_eq _ (by rw [List.length_map]; exact hk), List.getElem_map, ← ge_eq _ hk]
  have hb : ge (L1 ++ a :: b :: f :: M) t = b := by
    rw [show L1 ++ a :: b :: f :: M = (L1 ++ [a]) ++ b :: (f :: M) by simp, show t = (L1 ++ [a]).length by rw [ht]; simp]
    exact ge_mid _ _ _
  have hfr : ∀ d, isD E d → tailE E d = tailE E b → ∀ x, x ∈ L1 ∨ x ∈ M → tailE E (oth d) ≠ tailE E x := fun d hd htd x hx e => by
    have hk : ∃ k, k < (L1 ++ a :: b :: f :: M).length ∧ ge (L1 ++ a :: b :: f :: M) k = x ∧ (k < L1.length ∨ L1.length + 3 ≤ k) := by
      rcases hx with hx | hx
      · obtain ⟨k, hk, e⟩ := mem_ge.1 hx
        exact ⟨k, by simp; omega, by rw [geA_l _ hk]; exact e, Or.inl hk⟩
      · obtain ⟨k, hk, e⟩ := mem_ge.1 hx
        refine ⟨L1.length + 3 + k, by simp; omega, ?_, Or.inr (by omega)⟩
        rw [show L1 ++ a :: b :: f :: M = (L1 ++ [a, b, f]) ++ M by simp, show L1.length + 3 + k = (L1 ++ [a, b, f]).length + k by simp, geA_r]
        exact e
    obtain ⟨k, hk, hkx, hor⟩ := hk
    have := hc k hk (by omega) (by omega) (by omega)
    rw [hg t (by omega), hb, hg k hk, hkx] at this
    have hj := (join_cho hV (u := tailE E b) (v := tailE E x)).2 ⟨d, hd, htd, e⟩
    rw [this] at hj
    cases hj
  obtain ⟨X, G, p, q, hS⟩ := spot_ex hT hP hfr
  exact ⟨L1, a, b, f, M, X, G, p, q, rfl, ht, hfr, hS⟩
/-- The state of the peeling: the contour C, what is gone (the last one first). -/
inductive Stt (E : List (Int × Int)) (A : List (List Int)) (D0 : List Int) (C ord : List Int) : Prop
  | more (D : List Int) (hC : C = D.map (tailE E)) (h3 : 3 ≤ D.length) (hP : Pee E A (fun x => x ∈ ord) D) (hn : ord.Nodup) (hr : ∀ u ∈ ord, 0 ≤ u ∧ u < (A.length : Int)) (he : ord = [] → D.length = 3) (hk : ∀ R, Peels E A ord D R → Peels E A [] D0 (ord ++ R))
  | done (h2 : C.length = 2) (hn : ord.Nodup) (hr : ∀ u ∈ ord, 0 ≤ u ∧ u < (A.length : Int)) (hR : Peels E A [] D0 ord)
theorem stt_len (hT : trgB N E A = true) {D0 C ord : List Int} (h : Stt E A D0 C ord) : C.length ≤ A.length ∧ 2 ≤ C.length ∧ ord.length ≤ A.length ∧ ∀ u ∈ ord, 0 ≤ u ∧ u < (A.length : Int) := by
  have hV := trg_valid hT
  have hN3 := trg_three hT
  have hal := hV.al
  cases h with
  | more D hC h3 hP hn hr he hk =>
    subst hC
    exact ⟨nodup_len hP.nd (fans_range hV hP), by rw [List.length_map]; omega, nodup_len hn hr, hr⟩
  | done h2 hn hr hR => exact ⟨by omega, by omega, nodup_len hn hr, hr⟩
/-- The next state. -/
theorem stt_next (hT : trgB N E A = true) {D0 D ord : List Int} (h3 : 3 ≤ D.length) (hP : Pee E A (fun x => x ∈ ord) D) (hn : ord.Nodup) (hr : ∀ u ∈ ord, 0 ≤ u ∧ u < (A.length : Int)) (hk : ∀ R, Peels E A ord D R → Peels E A [] D0 (ord ++ R)) {s : Nat} (h1 : s + 2 < D.length) (hc : chdK E (D.map (tailE E)) (s + 1) D.length = false) :
    ∃ (v : Nat) (r1 r2 Y : List Int), ge (D.map (tailE E)) (s + 1) = (v : Int) ∧ v < A.length ∧ (v : Int) ∉ ord ∧ (∀ Gl, (∀ u, u ∈ Gl ↔ u = (v : Int) ∨ u ∈ ord) → ∃ r1 r2, ringK E (rowOf A v) Gl (rowOf A v).length = r1 ++ ge (D.map (tailE E)) s :: r2 ∧ (ge (D.map (tailE E)) s :: r2) ++ r1 = ge (D.map (tailE E)) s :: (Y ++ [ge (D.map (tailE E)) (s + 2)])) ∧
      (ge (D.map (tailE E)) s :: (Y ++ [ge (D.map (tailE E)) (s + 2)])).Nodup ∧ Stt E A D0 ((D.map (tailE E)).take (s + 1) ++ (Y ++ (D.map (tailE E)).drop (s + 2))) (ord ++ [(v : Int)]) := by
  have hV := trg_valid hT
  obtain ⟨L1, a, b, f, M, X, G, p, q, rfl, ht, hfr, hS⟩ := ord_step hT hP (t := s + 1) (by omega) (by omega) hc
  obtain rfl : s = L1.length := by omega
  have hbr := head_in hV hS.db
  obtain ⟨v, hv⟩ : ∃ v : Nat, tailE E b = (v : Int) := ⟨(tailE E b).toNat, by omega⟩
  have hvn : (tailE E b).toNat = v := by omega
  have hmap : (L1 ++ a :: b :: f :: M).map (tailE E) = L1.map (tailE E) ++ tailE E a :: tailE E b :: tailE E f :: M.map (tailE E) := by simp
  have hLl : L1.length = (L1.map (tailE E)).length := by rw [List.length_map]
  have g0 : ge ((L1 ++ a :: b :: f :: M).map (tailE E)) L1.length = tailE E a := by rw [hmap, hLl]; exact ge_mid _ _ _
  have g1 : ge ((L1 ++ a :: b :: f :: M).map (tailE E)) (L1.length + 1) = tailE E b := by
    rw [hmap, show L1.map (tailE E) ++ tailE E a :: tailE E b :: tailE E f :: M.map (tailE E) = (L1.map (tailE E) ++ [tailE E a]) ++ tailE E b :: (tailE E f :: M.map (tailE E)) by simp, show L1.length + 1 = (L1.map (tailE E) ++ [tailE E a]).length by simp]
    exact ge_mid _ _ _
  have g2 : ge ((L1 ++ a :: b :: f :: M).map (tailE E)) (L1.length + 2) = tailE E f := by
    rw [hmap, show L1.map (tailE E) ++ tailE E a :: tailE E b :: tailE E f :: M.map (tailE E) = (L1.map (tailE E) ++ [tailE E a, tailE E b]) ++ tailE E f :: M.map (tailE E) by simp, show L1.length + 2 = (L1.map (tailE E) ++ [tailE E a, tailE E b]).length by simp]
    exact ge_mid _ _ _
  have htk : ((L1 ++ a :: b :: f :: M).map (tailE E)).take (L1.length + 1) = L1.map (tailE E) ++ [tailE E a] := by
    rw [hmap, show L1.map (tailE E) ++ tailE E a :: tailE E b :: tailE E f :: M.map (tailE E) = (L1.map (tailE E) ++ [tailE E a]) ++ (tailE E b :: tailE E f :: M.map (tailE E)) by simp, show L1.length + 1 = (L1.map (tailE E) ++ [tailE E a]).length by simp]
    exact List.take_left
  have hdp : ((L1 ++ a :: b :: f :: M).map (tailE E)).drop (L1.length + 2) = (f :: M).map (tailE E) := by
    rw [hmap, show L1.map (tailE E) ++ tailE E a :: tailE E b :: tailE E f :: M.map (tailE E) = (L1.map (tailE E) ++ [tailE E a, tailE E b]) ++ (f :: M).map (tailE E) by simp, show L1.length + 2 = (L1.map (tailE E) ++ [tailE E a, tailE E b]).length by simp]
    exact List.drop_left
  have hnew : L1.map (tailE E) ++ [tailE E a] ++ (nearL E X ++ (f :: M).map (tailE E)) = (L1 ++ ((oth a :: X).map (thd A) ++ f :: M)).map (tailE E) := by
    rw [new_tails hT hS]
    simp [nearL]
  obtain ⟨n1, n2⟩ := take_nd hT hP hS hn hr
  refine ⟨v, [], [], nearL E X, by rw [g1]; exact hv, by omega, by rw [← hv]; exact hP.ng b (by simp), fun Gl hG => ?_, ?_, ?_⟩
  · obtain ⟨r1, r2, e1, e2⟩ := ring_spot hT hP hS (Gl := Gl) (fun u => by rw [hv]; exact hG u)
    rw [hvn] at e1
    exact ⟨r1, r2, by rw [g0]; exact e1, by rw [g0, g2]; exact e2⟩
  · rw [g0, g2]
    by_cases hne : L1 ≠ [] ∨ M ≠ [] ∨ X ≠ []
    · have hP' := pee_take (go' := fun x => x ∈ ord ++ [tailE E b]) hT hP hfr hS (fun x => by simp) hne
      have hnd := hP'.nd
      rw [← hnew] at hnd
      refine hnd.sublist ?_
      have : (tailE E a :: (nearL E X ++ [tailE E f])).Sublist (tailE E a :: (nearL E X ++ (f :: M).map (tailE E))) := List.Sublist.cons_cons _ (List.Sublist.append (List.Sublist.refl _) (List.Sublist.cons_cons _ (List.nil_sublist _)))
      refine this.trans ?_
      rw [List.append_assoc]
      exact List.sublist_append_right _ _
    · simp only [not_or, Classical.not_not] at hne
      obtain ⟨rfl, rfl, rfl⟩ := hne
      have hnd := hP.nd
      have h2 : (([a, b, f] : List Int).map (tailE E)).Nodup := hnd
      simp at h2
      simp [nearL]
      exact fun e => h2.1.2 e
  · rw [htk, hdp, hnew, ← hv]
    by_cases hne : L1 ≠ [] ∨ M ≠ [] ∨ X ≠ []
    · have hP' := pee_take (go' := fun x => x ∈ ord ++ [tailE E b]) hT hP hfr hS (fun x => by simp) hne
      refine Stt.more _ rfl ?_ hP' n1 n2 (fun e => by simp at e) (fun R hR => ?_)
      · simp only [List.length_append, List.length_cons, List.length_map]
        rcases hne with k | k | k <;> have := List.length_pos_iff.2 k <;> omega
      · rw [List.append_assoc]
        exact hk _ (Peels.take hP hfr hS hne hR)
    · simp only [not_or, Classical.not_not] at hne
      obtain ⟨rfl, rfl, rfl⟩ := hne
      refine Stt.done (by simp) n1 n2 ?_
      exact hk _ (Peels.fin hP hS)
end
end Go.Proofs.YtlealdicoceekaaDoor

/- Order of the reference. -/
namespace Go.Proofs.YtlealdicoceekaaDoor
open Go.RowKit
attribute [local go_sem ↓] Go.wp_at_zero Go.wp_at_succ

theorem Ints.three {w : World} {b : Nat} {x y z : Int} (h0 : w.cell? ⟨b, 0, none⟩ = some (.int .i64 x)) (h1 : w.cell? ⟨b, 1, none⟩ = some (.int .i64 y)) (h2 : w.cell? ⟨b, 2, none⟩ = some (.int .i64 z)) (hb : ∀ u ∈ [x, y, z], -9223372036854775808 ≤ u ∧ u ≤ 9223372036854775807) : Ints w (some ⟨b, 0, none⟩) [x, y, z] := by
  refine ⟨by simp, hb, b, 0, fun _ => ⟨rfl, World.block_lt_of_cell? w _ h0⟩, fun i hi => ?_⟩
  match i, hi with
  | 0, _ => simpa [ge] using h0
  | 1, _ => simpa [ge] using h1
  | 2, _ => simpa [ge] using h2
section
variable {N : Int} {E : List (Int × Int)} {A : List (List Int)}
/-- The first vertex without a chord. -/
theorem ord_pick (hT : trgB N E A = true) {ord D : List Int} (hP : Pee E A (fun x => x ∈ ord) D) (hm : 3 ≤ D.length) : ∃ t, 0 < t ∧ t + 2 ≤ D.length ∧ (∀ j, 0 < j → j < t → chdK E (D.map (tailE E)) j D.length = true) ∧ chdK E (D.map (tailE E)) t D.length = false := by
  have key : ∀ n, n + 2 ≤ D.length → (∃ t, 0 < t ∧ t ≤ n ∧ (∀ j, 0 < j → j < t → chdK E (D.map (tailE E)) j D.length = true) ∧ chdK E (D.map (tailE E)) t D.length = false) ∨ ∀ j, 0 < j → j ≤ n → chdK E (D.map (tailE E)) j D.length = true := by
    intro n
    induction n with
    | zero => exact fun _ => Or.inr fun j a b => by omega
    | succ n ih =>
      intro hn
      rcases ih (by omega) with ⟨t, a, b, c, d⟩ | h
      · exact Or.inl ⟨t, a, by omega, c, d⟩
      · cases hc : chdK E (D.map (tailE E)) (n + 1) D.length
        · exact Or.inl ⟨n + 1, by omega, Nat.le_refl _, fun j a b => h j a (by omega), hc⟩
        · refine Or.inr fun j a b => ?_
          by_cases e : j = n + 1
          · rw [e]; exact hc
          · exact h j a (by omega)
  rcases key (D.length - 2) (by omega) with ⟨t, a, b, c, d⟩ | h
  · exact ⟨t, a, by omega, c, d⟩
  · have := ord_free hT hP hm fun t a b => h t a (by omega)
    rw [h (D.length - 2) (by omega) (Nat.le_refl _)] at this
    cases this
end
/-- What Order of the reference returns. -/
def OrdPost (E : List (Int × Int)) (A : List (List Int)) (w : World) (e : Ending) (w' : World) : Prop :=
  Grew w w' ∧ ∃ R : List Int, Peels E A [] [oth (nxF A (nxF A 0)), oth (nxF A 0), 1] R ∧ ∃ q cap, e = .returned (.tuple #[.slice q (R.length + 2) cap, .int .i64 0]) ∧ Ints w' q (tailE E 0 :: tailE E 1 :: R.reverse) ∧ R.length + 2 ≤ cap ∧ cap ≤ maxLen
set_option maxRecDepth 8000 in
set_option maxHeartbeats 32000000 in
theorem order_l (N : Int) (pE pA : Option Addr) (nE nA cE cA : Nat) (E : List (Int × Int)) (A : List (List Int)) (w : World) (hR : RotAt w pE pA E A) (hRI : RotIn w pE pA cE E A) (hT : trgB N E A = true) (hnE : E.length = nE) (hnA : A.length = nA) :
    Calls Tryd.prog 22 #[.agg #[.int .i64 N, .slice pE nE cE, .slice pA nA cA]] w (OrdPost E A w) := by
  have hV := trg_valid hT
  have hal := hV.al
  have hN3 := trg_three hT
  obtain rfl : N = (nA : Int) := by omega
  have HR := Lib.hid hR
  have HV := Lib.hid hV
  have HT := Lib.hid hT
  have HnE := Lib.hid hnE
  have HnA := Lib.hid hnA
  have hnA1 : nA ≤ 100 := by have := hR.a1; omega
  have Htr : Hid (∀ W1, Grew w W1 → Calls Tryd.prog 21 #[.agg #[.int .i64 nA, .slice pE nE cE, .slice pA nA cA]] W1 fun e w' => e = .returned (.bool true) ∧ Grew W1 w') := Lib.hid (fun W1 h => by
    have := trg_r nA pE pA nE nA cE cA E A W1 (hRI.grew h) hnE hnA
    rw [hT] at this
    exact this)
  have hst := pee_start hT
  obtain ⟨i0, i1⟩ := dart01 hT
  have e0 : tailF nA E A 0 = tailE E 0 := tailF_eq hV i0
  have e1 : tailF nA E A 1 = tailE E 1 := tailF_eq hV i1
  obtain ⟨y1, hy1⟩ : ∃ y1 : Nat, tailE E 0 = (y1 : Int) := ⟨(tailE E 0).toNat, by have := head_in hV i0; omega⟩
  obtain ⟨y2, hy2⟩ : ∃ y2 : Nat, tailE E 1 = (y2 : Int) := ⟨(tailE E 1).toNat, by have := head_in hV i1; omega⟩
  have hthr : thirdR nA E A = thirdF nA E A := third_same hT
  have hpl : peel0 nA E A = [(y1 : Int), thirdF nA E A, (y2 : Int)] := by unfold peel0; rw [e0, e1, hy1, hy2]
  have h3r : 0 ≤ thirdF nA E A ∧ thirdF nA E A < (nA : Int) := by
    have := fans_range hV hst.1 (thirdF nA E A) (by rw [hst.2, hpl]; simp)
    omega
  obtain ⟨y3, hy3⟩ : ∃ y3 : Nat, thirdF nA E A = (y3 : Int) := ⟨(thirdF nA E A).toNat, by omega⟩
  rw [hy3] at hpl hthr
  have hy1n : y1 < nA := by have := head_in hV i0; omega
  have hy2n : y2 < nA := by have := head_in hV i1; omega
  have hy3n : y3 < nA := by omega
  have Hy1 := Lib.hid hy1
  have Hy2 := Lib.hid hy2
  obtain ⟨D0, hD0⟩ : ∃ D0, [oth (nxF A (nxF A 0)), oth (nxF A 0), 1] = D0 := ⟨_, rfl⟩
  have Hst0 : Hid (Stt E A D0 [(y1 : Int), (y3 : Int), (y2 : Int)] []) := Lib.hid (by
    rw [← hD0]
    exact Stt.more _ (by rw [hst.2, hpl]) (by simp) hst.1 (by simp) (fun u hu => by cases hu) (fun _ => rfl) (fun R hR => by simpa using hR))
  have Hend : Hid (∀ W1, Grew w W1 → Calls Tryd.prog 48 #[.agg #[.int .i64 nA, .slice pE nE cE, .slice pA nA cA]] W1 fun e w' => e = .returned (.tuple #[.int .i64 y1, .int .i64 y2, .int .i64 y3]) ∧ Grew W1 w') := Lib.hid (fun W1 h => by
    have := ends_r nA pE pA nE nA cE cA E A W1 (HR.out.grew h) HT.out hnE hnA
    rw [e0, e1, hthr, hy1, hy2] at this
    exact this)
  have HD0 := Lib.hid hD0
  have hnE100 := hR.e1
  clear hR hRI hT hV hal hst hpl hthr hy1 hy2 hy3 e0 e1 i0 i1 h3r hD0 hnE hnA
  go_enter Tryd.func22, Tryd.ntmps22
  go_upto_region 1 with fail
  have HgB : Hid (Grew w (w.alloc (.cells #[.int .i64 nA, .slice pE nE cE, .slice pA nA cA] 25))) := Lib.hid ((Grew.refl w).alloc _)
  have k0 : (w.alloc (.cells #[.int .i64 nA, .slice pE nE cE, .slice pA nA cA] 25)).cell? ⟨w.heap.size, 0, none⟩ = some (.int .i64 nA) := by simp [go_sem]
  have k1 : (w.alloc (.cells #[.int .i64 nA, .slice pE nE cE, .slice pA nA cA] 25)).cell? ⟨w.heap.size, 1, none⟩ = some (.slice pE nE cE) := by simp [go_sem]
  have k2 : (w.alloc (.cells #[.int .i64 nA, .slice pE nE cE, .slice pA nA cA] 25)).cell? ⟨w.heap.size, 2, none⟩ = some (.slice pA nA cA) := by simp [go_sem]
  obtain ⟨wB, hwB⟩ : ∃ wB, w.alloc (.cells #[.int .i64 nA, .slice pE nE cE, .slice pA nA cA] 25) = wB := ⟨_, rfl⟩
  rw [hwB] at HgB k0 k1 k2 ⊢
  have hwl := World.block_lt_of_cell? wB _ k0
  dsimp only at hwl
  clear hwB
  go_upto_region 4 with (first
    | (go_at_call 21; apply Calls.mono; (with_reducible exact Htr.out _ (HgB.out.trans (by (repeat (first | exact gR _ | refine gO ?_ _ | refine gA ?_ _ | refine gD ?_ | refine gN ?_ _))))); rintro e w2 ⟨rfl, hg2⟩; have Hg2 := Lib.hid ((show Grew wB _ by (repeat (first | exact gR _ | refine gO ?_ _ | refine gA ?_ _ | refine gD ?_ | refine gN ?_ _))).trans hg2); have n0 := Hg2.out.cellEq k0; have n1 := Hg2.out.cellEq k1; have n2 := Hg2.out.cellEq k2; have hlw2 := World.block_lt_of_cell? w2 _ n0; dsimp only at hlw2; clear hg2)
    | (go_at_call 48; apply Calls.mono; (with_reducible exact Hend.out _ (HgB.out.trans (Hg2.out.trans (by (repeat (first | exact gR _ | refine gO ?_ _ | refine gA ?_ _ | refine gD ?_ | refine gN ?_ _)))))); rintro e w3 ⟨rfl, hg3⟩; have Hg3 := Lib.hid (Hg2.out.trans ((show Grew w2 _ by (repeat (first | exact gR _ | refine gO ?_ _ | refine gA ?_ _ | refine gD ?_ | refine gN ?_ _))).trans hg3)); have m0 := Hg3.out.cellEq k0; have m1 := Hg3.out.cellEq k1; have m2 := Hg3.out.cellEq k2; have hlw3 := World.block_lt_of_cell? w3 _ m0; dsimp only at hlw3; clear hg3))
  have M0 := Lib.hid m0
  have M1 := Lib.hid m1
  have M2 := Lib.hid m2
  have Hg3w : Hid (Grew w w3) := Lib.hid (HgB.out.trans Hg3.out)
  clear n0 n1 n2 hlw2 m0 m1 m2 k0 k1 k2 Hg2 HgB hwl Hg3
  go_upto_region 5 with fail
  have HC0 : Hid (Ints (w3.alloc (.cells #[.int .i64 y1, .int .i64 y3, .int .i64 y2] 3)) (some ⟨w3.heap.size, 0, none⟩) [(y1 : Int), (y3 : Int), (y2 : Int)]) := Lib.hid (Ints.three (by simp [go_sem]) (by simp [go_sem]) (by simp [go_sem]) (fun u hu => by
    simp only [List.mem_cons, List.not_mem_nil, or_false] at hu
    rcases hu with rfl | rfl | rfl <;> omega))
  have HgC : Hid (Grew w3 (w3.alloc (.cells #[.int .i64 y1, .int .i64 y3, .int .i64 y2] 3))) := Lib.hid ((Grew.refl w3).alloc _)
  obtain ⟨w4, hw4⟩ : ∃ w4, w3.alloc (.cells #[.int .i64 y1, .int .i64 y3, .int .i64 y2] 3) = w4 := ⟨_, rfl⟩
  rw [hw4] at HC0 HgC ⊢
  clear hw4
  go_wp2
  go_loopg [7, 8, 9, 10] (nA) (fun k vl vg _ _ wr => ∃ C ord : List Int, ord.length + k = nA ∧ Stt E A D0 C ord ∧ Grew w3 wr ∧ (∃ q cap, vl = .slice q C.length cap ∧ Ints wr q C ∧ C.length ≤ cap ∧ cap ≤ maxLen) ∧ ∃ q2 cap2, vg = .slice q2 ord.length cap2 ∧ Ints wr q2 ord.reverse ∧ (q2 = none → ord.length = 0 ∧ cap2 = 0))
  case atStart => exact ⟨_, [], by simp, Hst0.out, HgC.out.trans (by (repeat (first | exact gR _ | refine gO ?_ _ | refine gA ?_ _ | refine gD ?_ | refine gN ?_ _))), ⟨_, 3, rfl, HC0.out.grew (by (repeat (first | exact gR _ | refine gO ?_ _ | refine gA ?_ _ | refine gD ?_ | refine gN ?_ _))), by simp, by decide⟩, none, 0, rfl, Ints.nil _ _, fun _ => ⟨rfl, rfl⟩⟩
  case round =>
    clear HC0 HgC
    obtain ⟨C, ord, hk, hst, hg, ⟨q, cap, rfl, hIC, hc1, hc2⟩, q2, cap2, rfl, hIg, hnil⟩ := hrel
    have Hst := Lib.hid hst
    have Hg := Lib.hid hg
    have HIC := Lib.hid hIC
    have HIg := Lib.hid hIg
    have hsl := stt_len HT.out hst
    have Hgw : Hid (Grew w wr) := Lib.hid (Hg3w.out.trans hg)
    have HcM : Hid (C.length ≤ nA) := Lib.hid (by rw [← HnA.out]; exact hsl.1)
    have HoM : Hid (∀ u ∈ ord, 0 ≤ u ∧ u < (nA : Int)) := Lib.hid (by rw [← HnA.out]; exact hsl.2.2.2)
    have hcl2 := hsl.2.1
    obtain ⟨m, hm⟩ : ∃ m, C.length = m := ⟨_, rfl⟩
    have Hm := Lib.hid hm
    rw [hm] at hc1 hcl2 ⊢
    have hmn : m ≤ nA := by rw [← hm]; exact HcM.out
    obtain ⟨l, hl⟩ : ∃ l, ord.length = l := ⟨_, rfl⟩
    have Hl := Lib.hid hl
    rw [hl] at hk hnil ⊢
    have Hnil := Lib.hid hnil
    clear hst hg hIC hIg hsl hm hl hnil
    have hgl : (ord.reverse).length = l := by rw [List.length_reverse, Hl.out]
    rcases Hst.out with ⟨D, hC, h3, hP, hn, hr, he, hkk⟩ | ⟨h2, hn, hr, hRR⟩
    case done =>
      have hm2 : ¬ 2 < (m : Int) := by have := Hm.out; omega
      have HRR := Lib.hid hRR
      clear hn hr hRR h2
      go_wp2_with ((at_builtin; refine wp_append_owns rfl _ _ 26 rfl 3 1 8 (.int .i64 0) Tryd.underlying26 Tryd.infoInt rfl (by decide) (wr.heap.size) _ 0 _ _ _ ((Owns.nil wr wr.heap.size).made (Nat.le_refl _) #[.int .i64 y1, .int .i64 y2] 3 1 2 wr.heap.size rfl (by decide) rfl) rfl rfl _ _ _ rfl (intVs (ord.reverse)) (by rw [intVs_length, Nat.mul_one]; try first | rfl | assumption | (simp; done) | omega) (Hnil.out) (Ints.newsO (HIg.out.grew (by (repeat (first | exact gR _ | refine gO ?_ _ | refine gA ?_ _ | refine gD ?_ | refine gN ?_ _))))) (intVs_one _) (by simp only [maxLen]; omega) (by omega) (by first | rfl | omega | (simp <;> omega)) ?_; intro v1 w1 hO1 hg1 hb1 hv1; have Hg2 := Lib.hid (Grew.grownBy (w0 := wr) (show Grew wr _ by (repeat (first | exact gR _ | refine gO ?_ _ | refine gA ?_ _ | refine gD ?_ | refine gN ?_ _))) hg1 (fun g h => by have := hb1 g h; omega)); have HO2 := Lib.hid hO1; clear hO1 hg1 hb1 hv1))
      have h5 := HO2.out
      have hle : (tailE E 0 :: tailE E 1 :: ord.reverse) = (y1 : Int) :: (y2 : Int) :: ord.reverse := by rw [Hy1.out, Hy2.out]
      rw [List.set_cons_zero, show #[Value.int .i64 y1, .int .i64 y2].toList ++ intVs ord.reverse = intVs ((y1 : Int) :: (y2 : Int) :: ord.reverse) by rfl] at h5
      obtain ⟨q5, cap5, e1, e2, e3, e4, e5, e6⟩ := own_ints h5 (k := 0) rfl (fun y hy => by
        rcases List.mem_cons.1 hy with rfl | hy
        · omega
        · rcases List.mem_cons.1 hy with rfl | hy
          · omega
          · have := HoM.out y (List.mem_reverse.1 hy); omega)
      subst e1
      have H6 := Lib.hid e6
      clear h5 e6 HO2
      go_ret2
      refine ⟨Hgw.out.trans (Hg2.out.trans (by (repeat (first | exact gR _ | refine gO ?_ _ | refine gA ?_ _ | refine gD ?_ | refine gN ?_ _)))), ord, by rw [HD0.out]; exact HRR.out, q5, cap5, ?_, by rw [hle]; exact H6.out _ (by (repeat (first | exact gR _ | refine gO ?_ _ | refine gA ?_ _ | refine gD ?_ | refine gN ?_ _))), ?_, e4⟩
      · rw [Hl.out, show l + 2 = 2 + l by omega]; rfl
      · rw [Hl.out]; omega
    case more =>
      have hDm : D.length = m := by have := Hm.out; rw [hC, List.length_map] at this; exact this
      obtain ⟨tt, ht0, ht1, hall, hfree⟩ := ord_pick HT.out hP h3
      rw [hDm] at hall hfree ht1 h3
      obtain ⟨s, rfl⟩ : ∃ s, tt = s + 1 := ⟨tt - 1, by omega⟩
      obtain ⟨y, _, _, Y, hy1, hy2, hy3, hring, hndY, hsn⟩ := stt_next HT.out (by omega) hP hn hr hkk (s := s) (by omega) (by rw [hDm]; exact hfree)
      rw [← hC] at hy1 hring hndY hsn hall hfree
      have Hall := Lib.hid hall
      have Hfree := Lib.hid hfree
      have Hy := Lib.hid hy1
      have Hsn := Lib.hid hsn
      have hyn : y < nA := by have := HnA.out; omega
      have hl1 : l + 1 ≤ nA := by
        have h1 := (stt_len HT.out hsn).2.2.1
        rw [List.length_append, List.length_singleton, Hl.out, HnA.out] at h1
        exact h1
      have hl0 : l = 0 → m = 3 := fun e => by
        have := he (List.length_eq_zero_iff.1 (by rw [Hl.out]; exact e))
        omega
      obtain ⟨C', hC'⟩ : ∃ C', C.take (s + 1) ++ (Y ++ C.drop (s + 2)) = C' := ⟨_, rfl⟩
      rw [hC'] at Hsn
      obtain ⟨bC, oC, rfl, lC, cC'⟩ := HIC.out.cells (by rw [Hm.out]; omega)
      have HcC := Lib.hid cC'
      obtain ⟨wo, hwo⟩ : ∃ wo, wo = wr := ⟨_, rfl⟩
      subst hwo
      have Hun : Hid (∀ W1 pG cG, Grew wo W1 → Ints W1 pG ((y : Int) :: ord.reverse) → Calls Tryd.prog 50 #[.agg #[.int .i64 nA, .slice pE nE cE, .slice pA nA cA], .slice (some ⟨bC, oC, none⟩) m cap, .int .i64 ((s : Int) + 1), .slice pG (1 + l) cG] W1 (NewI C' W1)) := Lib.hid (fun W1 pG cG hg hI => by
        obtain ⟨r1, r2, e1, e2⟩ := hring ((y : Int) :: ord.reverse) (fun u => by simp)
        have := uncover_l nA pE pA (some ⟨bC, oC, none⟩) pG nE nA m (1 + l) cE cA cap cG E A C ((y : Int) :: ord.reverse) s y W1 (HR.out.grew (Hgw.out.trans hg)) HV.out (HIC.out.grew hg) hI HnE.out HnA.out Hm.out (by simp [Hl.out]; omega) (by omega) hc1 hc2 (by omega) Hy.out hyn e1 e2 hndY
        rw [hC'] at this
        exact this)
      have Hch : Hid (∀ (j : Nat) W1, Grew wo W1 → 0 < j → j < m → Calls Tryd.prog 49 #[.agg #[.int .i64 nA, .slice pE nE cE, .slice pA nA cA], .slice (some ⟨bC, oC, none⟩) m cap, .int .i64 j] W1 fun e w' => e = .returned (.bool (chdK E C j m)) ∧ Grew W1 w') := Lib.hid (fun j W1 h h0 h1 => chord_l nA pE pA (some ⟨bC, oC, none⟩) nE nA m cE cA cap E C j W1 (HR.out.hE.grew (Hgw.out.trans h)) HR.out.e1 (HIC.out.grew h) (by omega) HnE.out Hm.out h0 h1 _ rfl)
      have hm2 : 2 < (m : Int) := by omega
      clear hC hDm hP hn hr hkk he hall hfree hy1 hsn hring hndY hC' cC' Hst
      go_upto_region 8 with fail
      go_loopw [9] (fun iv wk => ∃ t : Nat, 0 < t ∧ t ≤ s + 1 ∧ iv = .int .i64 t ∧ Grew wo wk) (fun iv _ => m - (intOf iv).toNat)
      case atStart => exact ⟨1, by omega, by omega, rfl, by (repeat (first | exact gR _ | refine gO ?_ _ | refine gA ?_ _ | refine gD ?_ | refine gN ?_ _))⟩
      case round =>
        obtain ⟨t, ht2, ht3, rfl, hgt⟩ := hrel
        have Hgt := Lib.hid hgt
        have m0 := (Hg.out.trans hgt).cellEq M0.out
        have m1 := (Hg.out.trans hgt).cellEq M1.out
        have m2 := (Hg.out.trans hgt).cellEq M2.out
        have hlwr := World.block_lt_of_cell? wr _ m0
        dsimp only at hlwr
        clear hgt
        by_cases htt : t < s + 1
        · have hti : (t : Int) < (m : Int) - 2 := by omega
          have Hc2 : Hid (∀ W1, Grew wo W1 → Calls Tryd.prog 49 #[.agg #[.int .i64 nA, .slice pE nE cE, .slice pA nA cA], .slice (some ⟨bC, oC, none⟩) m cap, .int .i64 t] W1 fun e w' => e = .returned (.bool true) ∧ Grew W1 w') := Lib.hid (fun W1 h => by
            have := Hch.out t W1 h ht2 (by omega)
            rw [Hall.out t ht2 htt] at this
            exact this)
          go_wp2_with ((go_at_call 49; apply Calls.mono; (with_reducible exact Hc2.out _ (Hgt.out.trans (by (repeat (first | exact gR _ | refine gO ?_ _ | refine gA ?_ _ | refine gD ?_ | refine gN ?_ _))))); rintro e w' ⟨rfl, x, rfl⟩))
          go_roundw
          case rel => exact ⟨t + 1, by omega, by omega, by go_num, Hgt.out.trans (by (repeat (first | exact gR _ | refine gO ?_ _ | refine gA ?_ _ | refine gD ?_ | refine gN ?_ _)))⟩
          case measure => (simp [intOf] <;> omega)
        · obtain rfl : t = s + 1 := by omega
          by_cases hlast : s + 3 < m
          · have hti : (s : Int) + 1 < (m : Int) - 2 := by omega
            have hlz : ¬ (l : Int) = 0 := fun e => by have := hl0 (by omega); omega
            have Hc2 : Hid (∀ W1, Grew wo W1 → Calls Tryd.prog 49 #[.agg #[.int .i64 nA, .slice pE nE cE, .slice pA nA cA], .slice (some ⟨bC, oC, none⟩) m cap, .int .i64 ((s : Int) + 1)] W1 fun e w' => e = .returned (.bool false) ∧ Grew W1 w') := Lib.hid (fun W1 h => by
              have := Hch.out (s + 1) W1 h ht2 (by omega)
              rw [Hfree.out] at this
              push_cast at this
              exact this)
            go_upto_region 12 with (go_at_call 49; apply Calls.mono; (with_reducible exact Hc2.out _ (Hgt.out.trans (by (repeat (first | exact gR _ | refine gO ?_ _ | refine gA ?_ _ | refine gD ?_ | refine gN ?_ _))))); rintro e w5 ⟨rfl, hg5⟩; have Hg5 := Lib.hid (Hgt.out.trans ((show Grew wr _ by (repeat (first | exact gR _ | refine gO ?_ _ | refine gA ?_ _ | refine gD ?_ | refine gN ?_ _))).trans hg5)); clear hg5)
            clear m0 m1 m2 hlwr
            have m0 := (Hg.out.trans Hg5.out).cellEq M0.out
            have m1 := (Hg.out.trans Hg5.out).cellEq M1.out
            have m2 := (Hg.out.trans Hg5.out).cellEq M2.out
            have hlw5 := World.block_lt_of_cell? w5 _ m0
            dsimp only at hlw5
            have c1 : w5.cell? ⟨bC, oC + (s + 1), none⟩ = some (.int .i64 y) := by
              have := HcC.out w5 Hg5.out (s + 1) (by rw [Hm.out]; omega)
              rw [Hy.out] at this
              exact this
            have lC5 := Nat.lt_of_lt_of_le lC Hg5.out.below.size
            have hti5 : (s : Int) + 1 < (m : Int) := by omega
            have hti6 : 0 ≤ (s : Int) + 1 := by omega
            refine wp_region_T (s := 12) (S := fun w' => w'.cell? ⟨w.heap.size, 0, none⟩ = some (.int .i64 nA) ∧ w'.cell? ⟨w.heap.size, 1, none⟩ = some (.slice pE nE cE) ∧ w'.cell? ⟨w.heap.size, 2, none⟩ = some (.slice pA nA cA) ∧ w'.cell? ⟨bC, oC + (s + 1), none⟩ = some (.int .i64 y)) (by kernel_rfl) ⟨by simpa using m0, by simpa using m1, by simpa using m2, by simpa using c1⟩ (fun hH => ?_)
            refine wpAnyT_takeV (i := 0) (v := ?_) rfl (by kernel_rfl) (by kernel_rfl) (by kernel_rfl) (by decide) (fun _ _ _ h => h) (Or.inl ⟨by rfl, ?_⟩) (by assumption) ?_
            rotate_left
            · (intro w hSw; (try dsimp only at hSw); go_simp; (try with_reducible rfl))
            (try simp only [Act.put, List.setIfInBounds_toArray, List.set_cons_zero, List.set_cons_succ])
            refine wpAnyT_takeV (i := 1) (v := ?_) rfl (by kernel_rfl) (by kernel_rfl) (by kernel_rfl) (by decide) (fun _ _ _ h => h) (Or.inl ⟨by rfl, ?_⟩) (by assumption) ?_
            rotate_left
            · (intro w hSw; (try dsimp only at hSw); go_simp; (try with_reducible rfl))
            (try simp only [Act.put, List.setIfInBounds_toArray, List.set_cons_zero, List.set_cons_succ])
            refine wpAnyT_takeV (i := 2) (v := ?_) rfl (by kernel_rfl) (by kernel_rfl) (by kernel_rfl) (by decide) (fun _ _ _ h => h) (Or.inl ⟨by rfl, ?_⟩) (by assumption) ?_
            rotate_left
            · (intro w hSw; (try dsimp only at hSw); go_simp; (try with_reducible rfl))
            (try simp only [Act.put, List.setIfInBounds_toArray, List.set_cons_zero, List.set_cons_succ])
            refine wpAnyT_takeV (i := 3) (v := ?_) rfl (by kernel_rfl) (by kernel_rfl) (by kernel_rfl) (by decide) (fun _ _ _ h => h) (Or.inl ⟨by rfl, ?_⟩) (by assumption) ?_
            rotate_left
            · (intro w hSw; (try dsimp only at hSw); go_simp; (try with_reducible rfl))
            (try simp only [Act.put, List.setIfInBounds_toArray, List.set_cons_zero, List.set_cons_succ])
            refine wpAnyT_takeV (i := 4) (v := ?_) rfl (by kernel_rfl) (by kernel_rfl) (by kernel_rfl) (by decide) (fun _ _ _ h => h) (Or.inl ⟨by rfl, ?_⟩) (by assumption) ?_
            rotate_left
            · (intro w hSw; (try dsimp only at hSw); go_simp; (try with_reducible rfl))
            (try simp only [Act.put, List.setIfInBounds_toArray, List.set_cons_zero, List.set_cons_succ])
            refine wpAnyT_takeV (i := 5) (v := ?_) rfl (by kernel_rfl) (by kernel_rfl) (by kernel_rfl) (by decide) (fun _ _ _ h => h) (Or.inl ⟨by rfl, ?_⟩) (by assumption) ?_
            rotate_left
            · (intro w hSw; (try dsimp only at hSw); go_simp; (try with_reducible rfl))
            (try simp only [Act.put, List.setIfInBounds_toArray, List.set_cons_zero, List.set_cons_succ])
            refine wpAnyT_takeV (i := 6) (v := ?_) rfl (by kernel_rfl) (by kernel_rfl) (by kernel_rfl) (by decide) (fun _ _ _ h => h) (Or.inl ⟨by rfl, ?_⟩) (by assumption) ?_
            rotate_left
            · (intro w hSw; (try dsimp only at hSw); go_simp; (try with_reducible rfl))
            (try simp only [Act.put, List.setIfInBounds_toArray, List.set_cons_zero, List.set_cons_succ])
            refine wpAnyT_takeV (i := 8) (v := ?_) rfl (by kernel_rfl) (by kernel_rfl) (by kernel_rfl) (by decide) (fun _ _ _ h => h) (Or.inl ⟨by rfl, ?_⟩) (by assumption) ?_
            rotate_left
            · (intro w hSw; (try dsimp only at hSw); go_simp; (try with_reducible rfl))
            (try simp only [Act.put, List.setIfInBounds_toArray, List.set_cons_zero, List.set_cons_succ])
            obtain ⟨wk, hwk⟩ : ∃ wk, w5.drew = wk := ⟨_, rfl⟩
            have Hcur : Hid (Grew w5 wk) := Lib.hid (by rw [← hwk]; exact (Grew.refl w5).drew)
            rw [hwk] at hH ⊢
            clear hwk m0 m1 m2 c1
            have m0 := hH.1
            have m1 := hH.2.1
            have m2 := hH.2.2.1
            have c1 := hH.2.2.2
            have lC6 := Nat.lt_of_lt_of_le lC5 Hcur.out.below.size
            have hlw6 := Nat.lt_of_lt_of_le hlw5 Hcur.out.below.size
            refine wpAnyT_all (rs := [7]) (by kernel_rfl) (by simp) (AllT.consL (i := 7) rfl (fun K hK => ?_) AllT.nil)
            go_simp
            refine hK.out _ _ ?_ (fun hH => ?_)
            · (first | (simp [go_sem, ↓IntWalk.iteOmega, *]; done) | go_keep)
            clear hK K
            (try simp only [Act.put, List.setIfInBounds_toArray, List.set_cons_zero, List.set_cons_succ])
            refine wpAnyT_all (rs := [9]) (by kernel_rfl) (by simp) (AllT.consL (i := 9) rfl (fun K hK => ?_) AllT.nil)
            refine step_append_owns rfl _ _ 26 rfl 3 1 8 (.int .i64 0) Tryd.underlying26 Tryd.infoInt rfl (by decide) (wk.heap.size) _ 0 _ _ _ ((Owns.nil wk wk.heap.size).made (Nat.le_refl _) #[.int .i64 y] 3 1 1 wk.heap.size rfl (by decide) rfl) rfl rfl _ _ _ rfl (intVs (ord.reverse)) (by rw [intVs_length, Nat.mul_one]; try first | rfl | assumption | (simp; done) | omega) (Hnil.out) (Ints.newsO (HIg.out.grew (Hg5.out.trans (Hcur.out.trans (by (repeat (first | exact gR _ | refine gO ?_ _ | refine gA ?_ _ | refine gD ?_ | refine gN ?_ _))))))) (intVs_one _) (by simp only [maxLen]; omega) (by omega) (by first | rfl | omega | (simp <;> omega)) ?_; intro v1 w1 hO1 hg1 hb1 hv1; have Hg6 := Lib.hid (Grew.grownBy (w0 := wk) (show Grew wk _ by (repeat (first | exact gR _ | refine gO ?_ _ | refine gA ?_ _ | refine gD ?_ | refine gN ?_ _))) hg1 (fun g h => by have := hb1 g h; omega)); have HO6 := Lib.hid hO1; clear hO1 hg1 hb1 hv1
            have h5 := HO6.out
            rw [List.set_cons_zero, show #[Value.int .i64 (y : Int)].toList ++ intVs ord.reverse = intVs ((y : Int) :: ord.reverse) by rfl] at h5
            obtain ⟨q5, cap5, e1, e2, e3, e4, e5, e6⟩ := own_ints h5 (k := 0) rfl (fun z hz => by
              rcases List.mem_cons.1 hz with rfl | hz
              · omega
              · have := HoM.out z (List.mem_reverse.1 hz); omega)
            subst e1
            have H6 := Lib.hid (e6 w1 (Grew.refl _))
            have q0 := Hg6.out.cellEq m0
            have q1 := Hg6.out.cellEq m1
            have q2 := Hg6.out.cellEq m2
            have q3 := Hg6.out.cellEq c1
            refine hK.out _ _ ⟨q0, q1, q2, q3⟩ (fun hH => ?_)
            clear hK K h5 e6 e5 HO6
            (try simp only [Act.put, List.setIfInBounds_toArray, List.set_cons_zero, List.set_cons_succ])
            refine wpAnyT_all (rs := [10]) (by kernel_rfl) (by simp) (AllT.consL (i := 10) rfl (fun K hK => ?_) AllT.nil)
            go_simp; go_wp2_with (go_at_call 50; apply Calls.mono; (with_reducible exact Hun.out _ _ _ (Hg5.out.trans (Hcur.out.trans (Hg6.out.trans (by (repeat (first | exact gR _ | refine gO ?_ _ | refine gA ?_ _ | refine gD ?_ | refine gN ?_ _)))))) (H6.out.grew (by (repeat (first | exact gR _ | refine gO ?_ _ | refine gA ?_ _ | refine gD ?_ | refine gN ?_ _))))); rintro e w9 ⟨hg9, q9, cap9, rfl, hI9, hc91, hc92⟩; have hgx := Grew.trans (show Grew w1 _ by (repeat (first | exact gR _ | refine gO ?_ _ | refine gA ?_ _ | refine gD ?_ | refine gN ?_ _))) hg9; have Hg9 := Lib.hid (Hg5.out.trans (Hcur.out.trans (Hg6.out.trans hgx))); have HI9 := Lib.hid hI9; have q0 := hgx.cellEq q0; have q1 := hgx.cellEq q1; have q2 := hgx.cellEq q2; have q3 := hgx.cellEq q3; clear hgx hg9 hI9)
            refine hK.out _ _ ?_ (fun hH => ?_)
            · (first | (simp [go_sem, ↓IntWalk.iteOmega, *]; done) | go_keep)
            clear hK K
            (try simp only [Act.put, List.setIfInBounds_toArray, List.set_cons_zero, List.set_cons_succ])
            refine wpAnyT_all (rs := [11]) (by kernel_rfl) (by simp) (AllT.consL (i := 11) rfl (fun K hK => ?_) AllT.nil)
            go_simp
            refine hK.out _ _ ?_ (fun hH => ?_)
            · (first | (simp [go_sem, ↓IntWalk.iteOmega, *]; done) | go_keep)
            clear hK K
            (try simp only [Act.put, List.setIfInBounds_toArray, List.set_cons_zero, List.set_cons_succ])
            refine wpAnyT_done (by kernel_rfl) ?_ _
            have lC9 := Nat.lt_of_lt_of_le lC Hg9.out.below.size
            have HCl : Hid (C'.length ≤ 100) := Lib.hid (by have := (stt_len HT.out Hsn.out).1; have := HnA.out; omega)
            go_wp2_with ((at_builtin; refine wp_append_owns rfl _ _ 26 rfl 3 1 8 (.int .i64 0) Tryd.underlying26 Tryd.infoInt rfl (by decide) (w9.heap.size) _ 0 _ _ _ ((Owns.nil w9 w9.heap.size).made (Nat.le_refl _) #[.int .i64 y] 3 1 1 w9.heap.size rfl (by decide) rfl) rfl rfl _ _ _ rfl (intVs (ord.reverse)) (by rw [intVs_length, Nat.mul_one]; try first | rfl | assumption | (simp; done) | omega) (Hnil.out) (Ints.newsO (HIg.out.grew (Hg9.out.trans (by (repeat (first | exact gR _ | refine gO ?_ _ | refine gA ?_ _ | refine gD ?_ | refine gN ?_ _)))))) (intVs_one _) (by simp only [maxLen]; omega) (by omega) (by first | rfl | omega | (simp <;> omega)) ?_; intro v1 w1 hO1 hg1 hb1 hv1; have Hg10 := Lib.hid (Grew.grownBy (w0 := w9) (show Grew w9 _ by (repeat (first | exact gR _ | refine gO ?_ _ | refine gA ?_ _ | refine gD ?_ | refine gN ?_ _))) hg1 (fun g h => by have := hb1 g h; omega)); have HO10 := Lib.hid hO1; clear hO1 hg1 hb1 hv1))
            have h5 := HO10.out
            rw [List.set_cons_zero, show #[Value.int .i64 (y : Int)].toList ++ intVs ord.reverse = intVs ((y : Int) :: ord.reverse) by rfl] at h5
            obtain ⟨q7, cap7, f1, f2, f3, f4, f5, f6⟩ := own_ints h5 (k := 0) rfl (fun z hz => by
              rcases List.mem_cons.1 hz with rfl | hz
              · omega
              · have := HoM.out z (List.mem_reverse.1 hz); omega)
            have hq7 : q7 = none → False := fun e => by
              subst e
              subst f1
              rcases (h5.get (k := 0) rfl).2 with ⟨a1, a2⟩ | ⟨g, cc, a1, _⟩
              · omega
              · cases a1
            subst f1
            have H7 := Lib.hid (f6 _ (Grew.refl _))
            have Hq7 := Lib.hid hq7
            have hrv : (ord ++ [(y : Int)]).reverse = (y : Int) :: ord.reverse := by simp
            have Hrv := Lib.hid hrv
            have Hol : Hid ((ord ++ [(y : Int)]).length = 1 + l) := Lib.hid (by rw [List.length_append, List.length_singleton, Hl.out, Nat.add_comm])
            clear h5 f6 f5 f2 HO10 hq7 hrv e2
            obtain ⟨k', rfl⟩ : ∃ k', gk = k' + 1 := ⟨gk - 1, by omega⟩
            go_roundg k'
            case rel => exact ⟨C', ord ++ [(y : Int)], by rw [Hol.out]; omega, Hsn.out, Hg.out.trans (Hg9.out.trans (Hg10.out.trans (by (repeat (first | exact gR _ | refine gO ?_ _ | refine gA ?_ _ | refine gD ?_ | refine gN ?_ _))))), ⟨q9, cap9, rfl, HI9.out.grew (Hg10.out.trans (by (repeat (first | exact gR _ | refine gO ?_ _ | refine gA ?_ _ | refine gD ?_ | refine gN ?_ _)))), hc91, hc92⟩, q7, cap7, by rw [Hol.out], by rw [Hrv.out]; exact H7.out.grew (by (repeat (first | exact gR _ | refine gO ?_ _ | refine gA ?_ _ | refine gD ?_ | refine gN ?_ _))), fun e => (Hq7.out e).elim⟩
            case measure => omega
          · have hti : ¬ (s : Int) + 1 < (m : Int) - 2 := by omega
            by_cases hlz : l = 0
            · have hs0 : s = 0 := by have := hl0 hlz; omega
              have hlz2 : (l : Int) = 0 := by omega
              have Hun1 : Hid (∀ W1 pG cG, Grew wo W1 → Ints W1 pG ((y : Int) :: ord.reverse) → Calls Tryd.prog 50 #[.agg #[.int .i64 nA, .slice pE nE cE, .slice pA nA cA], .slice (some ⟨bC, oC, none⟩) m cap, .int .i64 1, .slice pG (1 + l) cG] W1 (NewI C' W1)) := Lib.hid (fun W1 pG cG h1 h2 => by
                have := Hun.out W1 pG cG h1 h2
                rw [hs0] at this
                exact this)
              replace Hun := Hun1
              have Hs0 := Lib.hid hs0
              have hm3 : (1 : Int) < (m : Int) := by omega
              clear Hun1 hs0 hlz
              go_upto_region 12 with fail
              have Hg5 := Hgt
              obtain ⟨w5, hw5⟩ : ∃ w5, w5 = wr := ⟨_, rfl⟩
              subst hw5
              clear m0 m1 m2 hlwr
              have m0 := (Hg.out.trans Hg5.out).cellEq M0.out
              have m1 := (Hg.out.trans Hg5.out).cellEq M1.out
              have m2 := (Hg.out.trans Hg5.out).cellEq M2.out
              have hlw5 := World.block_lt_of_cell? w5 _ m0
              dsimp only at hlw5
              have c1 : w5.cell? ⟨bC, oC + 1, none⟩ = some (.int .i64 y) := by
                have := HcC.out w5 Hg5.out (s + 1) (by rw [Hm.out]; omega)
                rw [Hy.out] at this
                rw [Hs0.out] at this; exact this
              have lC5 := Nat.lt_of_lt_of_le lC Hg5.out.below.size
              have hti5 : (1 : Int) < (m : Int) := by omega
              have hti6 : 0 ≤ (1 : Int) := by omega
              refine wp_region_T (s := 12) (S := fun w' => w'.cell? ⟨w.heap.size, 0, none⟩ = some (.int .i64 nA) ∧ w'.cell? ⟨w.heap.size, 1, none⟩ = some (.slice pE nE cE) ∧ w'.cell? ⟨w.heap.size, 2, none⟩ = some (.slice pA nA cA) ∧ w'.cell? ⟨bC, oC + 1, none⟩ = some (.int .i64 y)) (by kernel_rfl) ⟨by simpa using m0, by simpa using m1, by simpa using m2, by simpa using c1⟩ (fun hH => ?_)
              refine wpAnyT_takeV (i := 0) (v := ?_) rfl (by kernel_rfl) (by kernel_rfl) (by kernel_rfl) (by decide) (fun _ _ _ h => h) (Or.inl ⟨by rfl, ?_⟩) (by assumption) ?_
              rotate_left
              · (intro w hSw; (try dsimp only at hSw); go_simp; (try with_reducible rfl))
              (try simp only [Act.put, List.setIfInBounds_toArray, List.set_cons_zero, List.set_cons_succ])
              refine wpAnyT_takeV (i := 1) (v := ?_) rfl (by kernel_rfl) (by kernel_rfl) (by kernel_rfl) (by decide) (fun _ _ _ h => h) (Or.inl ⟨by rfl, ?_⟩) (by assumption) ?_
              rotate_left
              · (intro w hSw; (try dsimp only at hSw); go_simp; (try with_reducible rfl))
              (try simp only [Act.put, List.setIfInBounds_toArray, List.set_cons_zero, List.set_cons_succ])
              refine wpAnyT_takeV (i := 2) (v := ?_) rfl (by kernel_rfl) (by kernel_rfl) (by kernel_rfl) (by decide) (fun _ _ _ h => h) (Or.inl ⟨by rfl, ?_⟩) (by assumption) ?_
              rotate_left
              · (intro w hSw; (try dsimp only at hSw); go_simp; (try with_reducible rfl))
              (try simp only [Act.put, List.setIfInBounds_toArray, List.set_cons_zero, List.set_cons_succ])
              refine wpAnyT_takeV (i := 3) (v := ?_) rfl (by kernel_rfl) (by kernel_rfl) (by kernel_rfl) (by decide) (fun _ _ _ h => h) (Or.inl ⟨by rfl, ?_⟩) (by assumption) ?_
              rotate_left
              · (intro w hSw; (try dsimp only at hSw); go_simp; (try with_reducible rfl))
              (try simp only [Act.put, List.setIfInBounds_toArray, List.set_cons_zero, List.set_cons_succ])
              refine wpAnyT_takeV (i := 4) (v := ?_) rfl (by kernel_rfl) (by kernel_rfl) (by kernel_rfl) (by decide) (fun _ _ _ h => h) (Or.inl ⟨by rfl, ?_⟩) (by assumption) ?_
              rotate_left
              · (intro w hSw; (try dsimp only at hSw); go_simp; (try with_reducible rfl))
              (try simp only [Act.put, List.setIfInBounds_toArray, List.set_cons_zero, List.set_cons_succ])
              refine wpAnyT_takeV (i := 5) (v := ?_) rfl (by kernel_rfl) (by kernel_rfl) (by kernel_rfl) (by decide) (fun _ _ _ h => h) (Or.inl ⟨by rfl, ?_⟩) (by assumption) ?_
              rotate_left
              · (intro w hSw; (try dsimp only at hSw); go_simp; (try with_reducible rfl))
              (try simp only [Act.put, List.setIfInBounds_toArray, List.set_cons_zero, List.set_cons_succ])
              refine wpAnyT_takeV (i := 6) (v := ?_) rfl (by kernel_rfl) (by kernel_rfl) (by kernel_rfl) (by decide) (fun _ _ _ h => h) (Or.inl ⟨by rfl, ?_⟩) (by assumption) ?_
              rotate_left
              · (intro w hSw; (try dsimp only at hSw); go_simp; (try with_reducible rfl))
              (try simp only [Act.put, List.setIfInBounds_toArray, List.set_cons_zero, List.set_cons_succ])
              refine wpAnyT_takeV (i := 8) (v := ?_) rfl (by kernel_rfl) (by kernel_rfl) (by kernel_rfl) (by decide) (fun _ _ _ h => h) (Or.inl ⟨by rfl, ?_⟩) (by assumption) ?_
              rotate_left
              · (intro w hSw; (try dsimp only at hSw); go_simp; (try with_reducible rfl))
              (try simp only [Act.put, List.setIfInBounds_toArray, List.set_cons_zero, List.set_cons_succ])
              obtain ⟨wk, hwk⟩ : ∃ wk, w5.drew = wk := ⟨_, rfl⟩
              have Hcur : Hid (Grew w5 wk) := Lib.hid (by rw [← hwk]; exact (Grew.refl w5).drew)
              rw [hwk] at hH ⊢
              clear hwk m0 m1 m2 c1
              have m0 := hH.1
              have m1 := hH.2.1
              have m2 := hH.2.2.1
              have c1 := hH.2.2.2
              have lC6 := Nat.lt_of_lt_of_le lC5 Hcur.out.below.size
              have hlw6 := Nat.lt_of_lt_of_le hlw5 Hcur.out.below.size
              refine wpAnyT_all (rs := [7]) (by kernel_rfl) (by simp) (AllT.consL (i := 7) rfl (fun K hK => ?_) AllT.nil)
              go_simp
              refine hK.out _ _ ?_ (fun hH => ?_)
              · (first | (simp [go_sem, ↓IntWalk.iteOmega, *]; done) | go_keep)
              clear hK K
              (try simp only [Act.put, List.setIfInBounds_toArray, List.set_cons_zero, List.set_cons_succ])
              refine wpAnyT_all (rs := [9]) (by kernel_rfl) (by simp) (AllT.consL (i := 9) rfl (fun K hK => ?_) AllT.nil)
              refine step_append_owns rfl _ _ 26 rfl 3 1 8 (.int .i64 0) Tryd.underlying26 Tryd.infoInt rfl (by decide) (wk.heap.size) _ 0 _ _ _ ((Owns.nil wk wk.heap.size).made (Nat.le_refl _) #[.int .i64 y] 3 1 1 wk.heap.size rfl (by decide) rfl) rfl rfl _ _ _ rfl (intVs (ord.reverse)) (by rw [intVs_length, Nat.mul_one]; try first | rfl | assumption | (simp; done) | omega) (Hnil.out) (Ints.newsO (HIg.out.grew (Hg5.out.trans (Hcur.out.trans (by (repeat (first | exact gR _ | refine gO ?_ _ | refine gA ?_ _ | refine gD ?_ | refine gN ?_ _))))))) (intVs_one _) (by simp only [maxLen]; omega) (by omega) (by first | rfl | omega | (simp <;> omega)) ?_; intro v1 w1 hO1 hg1 hb1 hv1; have Hg6 := Lib.hid (Grew.grownBy (w0 := wk) (show Grew wk _ by (repeat (first | exact gR _ | refine gO ?_ _ | refine gA ?_ _ | refine gD ?_ | refine gN ?_ _))) hg1 (fun g h => by have := hb1 g h; omega)); have HO6 := Lib.hid hO1; clear hO1 hg1 hb1 hv1
              have h5 := HO6.out
              rw [List.set_cons_zero, show #[Value.int .i64 (y : Int)].toList ++ intVs ord.reverse = intVs ((y : Int) :: ord.reverse) by rfl] at h5
              obtain ⟨q5, cap5, e1, e2, e3, e4, e5, e6⟩ := own_ints h5 (k := 0) rfl (fun z hz => by
                rcases List.mem_cons.1 hz with rfl | hz
                · omega
                · have := HoM.out z (List.mem_reverse.1 hz); omega)
              subst e1
              have H6 := Lib.hid (e6 w1 (Grew.refl _))
              have q0 := Hg6.out.cellEq m0
              have q1 := Hg6.out.cellEq m1
              have q2 := Hg6.out.cellEq m2
              have q3 := Hg6.out.cellEq c1
              refine hK.out _ _ ⟨q0, q1, q2, q3⟩ (fun hH => ?_)
              clear hK K h5 e6 e5 HO6
              (try simp only [Act.put, List.setIfInBounds_toArray, List.set_cons_zero, List.set_cons_succ])
              refine wpAnyT_all (rs := [10]) (by kernel_rfl) (by simp) (AllT.consL (i := 10) rfl (fun K hK => ?_) AllT.nil)
              go_simp; go_wp2_with (go_at_call 50; apply Calls.mono; (with_reducible exact Hun.out _ _ _ (Hg5.out.trans (Hcur.out.trans (Hg6.out.trans (by (repeat (first | exact gR _ | refine gO ?_ _ | refine gA ?_ _ | refine gD ?_ | refine gN ?_ _)))))) (H6.out.grew (by (repeat (first | exact gR _ | refine gO ?_ _ | refine gA ?_ _ | refine gD ?_ | refine gN ?_ _))))); rintro e w9 ⟨hg9, q9, cap9, rfl, hI9, hc91, hc92⟩; have hgx := Grew.trans (show Grew w1 _ by (repeat (first | exact gR _ | refine gO ?_ _ | refine gA ?_ _ | refine gD ?_ | refine gN ?_ _))) hg9; have Hg9 := Lib.hid (Hg5.out.trans (Hcur.out.trans (Hg6.out.trans hgx))); have HI9 := Lib.hid hI9; have q0 := hgx.cellEq q0; have q1 := hgx.cellEq q1; have q2 := hgx.cellEq q2; have q3 := hgx.cellEq q3; clear hgx hg9 hI9)
              refine hK.out _ _ ?_ (fun hH => ?_)
              · (first | (simp [go_sem, ↓IntWalk.iteOmega, *]; done) | go_keep)
              clear hK K
              (try simp only [Act.put, List.setIfInBounds_toArray, List.set_cons_zero, List.set_cons_succ])
              refine wpAnyT_all (rs := [11]) (by kernel_rfl) (by simp) (AllT.consL (i := 11) rfl (fun K hK => ?_) AllT.nil)
              go_simp
              refine hK.out _ _ ?_ (fun hH => ?_)
              · (first | (simp [go_sem, ↓IntWalk.iteOmega, *]; done) | go_keep)
              clear hK K
              (try simp only [Act.put, List.setIfInBounds_toArray, List.set_cons_zero, List.set_cons_succ])
              refine wpAnyT_done (by kernel_rfl) ?_ _
              have lC9 := Nat.lt_of_lt_of_le lC Hg9.out.below.size
              have HCl : Hid (C'.length ≤ 100) := Lib.hid (by have := (stt_len HT.out Hsn.out).1; have := HnA.out; omega)
              go_wp2_with ((at_builtin; refine wp_append_owns rfl _ _ 26 rfl 3 1 8 (.int .i64 0) Tryd.underlying26 Tryd.infoInt rfl (by decide) (w9.heap.size) _ 0 _ _ _ ((Owns.nil w9 w9.heap.size).made (Nat.le_refl _) #[.int .i64 y] 3 1 1 w9.heap.size rfl (by decide) rfl) rfl rfl _ _ _ rfl (intVs (ord.reverse)) (by rw [intVs_length, Nat.mul_one]; try first | rfl | assumption | (simp; done) | omega) (Hnil.out) (Ints.newsO (HIg.out.grew (Hg9.out.trans (by (repeat (first | exact gR _ | refine gO ?_ _ | refine gA ?_ _ | refine gD ?_ | refine gN ?_ _)))))) (intVs_one _) (by simp only [maxLen]; omega) (by omega) (by first | rfl | omega | (simp <;> omega)) ?_; intro v1 w1 hO1 hg1 hb1 hv1; have Hg10 := Lib.hid (Grew.grownBy (w0 := w9) (show Grew w9 _ by (repeat (first | exact gR _ | refine gO ?_ _ | refine gA ?_ _ | refine gD ?_ | refine gN ?_ _))) hg1 (fun g h => by have := hb1 g h; omega)); have HO10 := Lib.hid hO1; clear hO1 hg1 hb1 hv1))
              have h5 := HO10.out
              rw [List.set_cons_zero, show #[Value.int .i64 (y : Int)].toList ++ intVs ord.reverse = intVs ((y : Int) :: ord.reverse) by rfl] at h5
              obtain ⟨q7, cap7, f1, f2, f3, f4, f5, f6⟩ := own_ints h5 (k := 0) rfl (fun z hz => by
                rcases List.mem_cons.1 hz with rfl | hz
                · omega
                · have := HoM.out z (List.mem_reverse.1 hz); omega)
              have hq7 : q7 = none → False := fun e => by
                subst e
                subst f1
                rcases (h5.get (k := 0) rfl).2 with ⟨a1, a2⟩ | ⟨g, cc, a1, _⟩
                · omega
                · cases a1
              subst f1
              have H7 := Lib.hid (f6 _ (Grew.refl _))
              have Hq7 := Lib.hid hq7
              have hrv : (ord ++ [(y : Int)]).reverse = (y : Int) :: ord.reverse := by simp
              have Hrv := Lib.hid hrv
              have Hol : Hid ((ord ++ [(y : Int)]).length = 1 + l) := Lib.hid (by rw [List.length_append, List.length_singleton, Hl.out, Nat.add_comm])
              clear h5 f6 f5 f2 HO10 hq7 hrv e2
              obtain ⟨k', rfl⟩ : ∃ k', gk = k' + 1 := ⟨gk - 1, by omega⟩
              go_roundg k'
              case rel => exact ⟨C', ord ++ [(y : Int)], by rw [Hol.out]; omega, Hsn.out, Hg.out.trans (Hg9.out.trans (Hg10.out.trans (by (repeat (first | exact gR _ | refine gO ?_ _ | refine gA ?_ _ | refine gD ?_ | refine gN ?_ _))))), ⟨q9, cap9, rfl, HI9.out.grew (Hg10.out.trans (by (repeat (first | exact gR _ | refine gO ?_ _ | refine gA ?_ _ | refine gD ?_ | refine gN ?_ _)))), hc91, hc92⟩, q7, cap7, by rw [Hol.out], by rw [Hrv.out]; exact H7.out.grew (by (repeat (first | exact gR _ | refine gO ?_ _ | refine gA ?_ _ | refine gD ?_ | refine gN ?_ _))), fun e => (Hq7.out e).elim⟩
              case measure => omega
            · have hlz2 : ¬ (l : Int) = 0 := by omega
              go_upto_region 12 with fail
              have Hg5 := Hgt
              obtain ⟨w5, hw5⟩ : ∃ w5, w5 = wr := ⟨_, rfl⟩
              subst hw5
              clear m0 m1 m2 hlwr
              have m0 := (Hg.out.trans Hg5.out).cellEq M0.out
              have m1 := (Hg.out.trans Hg5.out).cellEq M1.out
              have m2 := (Hg.out.trans Hg5.out).cellEq M2.out
              have hlw5 := World.block_lt_of_cell? w5 _ m0
              dsimp only at hlw5
              have c1 : w5.cell? ⟨bC, oC + (s + 1), none⟩ = some (.int .i64 y) := by
                have := HcC.out w5 Hg5.out (s + 1) (by rw [Hm.out]; omega)
                rw [Hy.out] at this
                exact this
              have lC5 := Nat.lt_of_lt_of_le lC Hg5.out.below.size
              have hti5 : (s : Int) + 1 < (m : Int) := by omega
              have hti6 : 0 ≤ (s : Int) + 1 := by omega
              refine wp_region_T (s := 12) (S := fun w' => w'.cell? ⟨w.heap.size, 0, none⟩ = some (.int .i64 nA) ∧ w'.cell? ⟨w.heap.size, 1, none⟩ = some (.slice pE nE cE) ∧ w'.cell? ⟨w.heap.size, 2, none⟩ = some (.slice pA nA cA) ∧ w'.cell? ⟨bC, oC + (s + 1), none⟩ = some (.int .i64 y)) (by kernel_rfl) ⟨by simpa using m0, by simpa using m1, by simpa using m2, by simpa using c1⟩ (fun hH => ?_)
              refine wpAnyT_takeV (i := 0) (v := ?_) rfl (by kernel_rfl) (by kernel_rfl) (by kernel_rfl) (by decide) (fun _ _ _ h => h) (Or.inl ⟨by rfl, ?_⟩) (by assumption) ?_
              rotate_left
              · (intro w hSw; (try dsimp only at hSw); go_simp; (try with_reducible rfl))
              (try simp only [Act.put, List.setIfInBounds_toArray, List.set_cons_zero, List.set_cons_succ])
              refine wpAnyT_takeV (i := 1) (v := ?_) rfl (by kernel_rfl) (by kernel_rfl) (by kernel_rfl) (by decide) (fun _ _ _ h => h) (Or.inl ⟨by rfl, ?_⟩) (by assumption) ?_
              rotate_left
              · (intro w hSw; (try dsimp only at hSw); go_simp; (try with_reducible rfl))
              (try simp only [Act.put, List.setIfInBounds_toArray, List.set_cons_zero, List.set_cons_succ])
              refine wpAnyT_takeV (i := 2) (v := ?_) rfl (by kernel_rfl) (by kernel_rfl) (by kernel_rfl) (by decide) (fun _ _ _ h => h) (Or.inl ⟨by rfl, ?_⟩) (by assumption) ?_
              rotate_left
              · (intro w hSw; (try dsimp only at hSw); go_simp; (try with_reducible rfl))
              (try simp only [Act.put, List.setIfInBounds_toArray, List.set_cons_zero, List.set_cons_succ])
              refine wpAnyT_takeV (i := 3) (v := ?_) rfl (by kernel_rfl) (by kernel_rfl) (by kernel_rfl) (by decide) (fun _ _ _ h => h) (Or.inl ⟨by rfl, ?_⟩) (by assumption) ?_
              rotate_left
              · (intro w hSw; (try dsimp only at hSw); go_simp; (try with_reducible rfl))
              (try simp only [Act.put, List.setIfInBounds_toArray, List.set_cons_zero, List.set_cons_succ])
              refine wpAnyT_takeV (i := 4) (v := ?_) rfl (by kernel_rfl) (by kernel_rfl) (by kernel_rfl) (by decide) (fun _ _ _ h => h) (Or.inl ⟨by rfl, ?_⟩) (by assumption) ?_
              rotate_left
              · (intro w hSw; (try dsimp only at hSw); go_simp; (try with_reducible rfl))
              (try simp only [Act.put, List.setIfInBounds_toArray, List.set_cons_zero, List.set_cons_succ])
              refine wpAnyT_takeV (i := 5) (v := ?_) rfl (by kernel_rfl) (by kernel_rfl) (by kernel_rfl) (by decide) (fun _ _ _ h => h) (Or.inl ⟨by rfl, ?_⟩) (by assumption) ?_
              rotate_left
              · (intro w hSw; (try dsimp only at hSw); go_simp; (try with_reducible rfl))
              (try simp only [Act.put, List.setIfInBounds_toArray, List.set_cons_zero, List.set_cons_succ])
              refine wpAnyT_takeV (i := 6) (v := ?_) rfl (by kernel_rfl) (by kernel_rfl) (by kernel_rfl) (by decide) (fun _ _ _ h => h) (Or.inl ⟨by rfl, ?_⟩) (by assumption) ?_
              rotate_left
              · (intro w hSw; (try dsimp only at hSw); go_simp; (try with_reducible rfl))
              (try simp only [Act.put, List.setIfInBounds_toArray, List.set_cons_zero, List.set_cons_succ])
              refine wpAnyT_takeV (i := 8) (v := ?_) rfl (by kernel_rfl) (by kernel_rfl) (by kernel_rfl) (by decide) (fun _ _ _ h => h) (Or.inl ⟨by rfl, ?_⟩) (by assumption) ?_
              rotate_left
              · (intro w hSw; (try dsimp only at hSw); go_simp; (try with_reducible rfl))
              (try simp only [Act.put, List.setIfInBounds_toArray, List.set_cons_zero, List.set_cons_succ])
              obtain ⟨wk, hwk⟩ : ∃ wk, w5.drew = wk := ⟨_, rfl⟩
              have Hcur : Hid (Grew w5 wk) := Lib.hid (by rw [← hwk]; exact (Grew.refl w5).drew)
              rw [hwk] at hH ⊢
              clear hwk m0 m1 m2 c1
              have m0 := hH.1
              have m1 := hH.2.1
              have m2 := hH.2.2.1
              have c1 := hH.2.2.2
              have lC6 := Nat.lt_of_lt_of_le lC5 Hcur.out.below.size
              have hlw6 := Nat.lt_of_lt_of_le hlw5 Hcur.out.below.size
              refine wpAnyT_all (rs := [7]) (by kernel_rfl) (by simp) (AllT.consL (i := 7) rfl (fun K hK => ?_) AllT.nil)
              go_simp
              refine hK.out _ _ ?_ (fun hH => ?_)
              · (first | (simp [go_sem, ↓IntWalk.iteOmega, *]; done) | go_keep)
              clear hK K
              (try simp only [Act.put, List.setIfInBounds_toArray, List.set_cons_zero, List.set_cons_succ])
              refine wpAnyT_all (rs := [9]) (by kernel_rfl) (by simp) (AllT.consL (i := 9) rfl (fun K hK => ?_) AllT.nil)
              refine step_append_owns rfl _ _ 26 rfl 3 1 8 (.int .i64 0) Tryd.underlying26 Tryd.infoInt rfl (by decide) (wk.heap.size) _ 0 _ _ _ ((Owns.nil wk wk.heap.size).made (Nat.le_refl _) #[.int .i64 y] 3 1 1 wk.heap.size rfl (by decide) rfl) rfl rfl _ _ _ rfl (intVs (ord.reverse)) (by rw [intVs_length, Nat.mul_one]; try first | rfl | assumption | (simp; done) | omega) (Hnil.out) (Ints.newsO (HIg.out.grew (Hg5.out.trans (Hcur.out.trans (by (repeat (first | exact gR _ | refine gO ?_ _ | refine gA ?_ _ | refine gD ?_ | refine gN ?_ _))))))) (intVs_one _) (by simp only [maxLen]; omega) (by omega) (by first | rfl | omega | (simp <;> omega)) ?_; intro v1 w1 hO1 hg1 hb1 hv1; have Hg6 := Lib.hid (Grew.grownBy (w0 := wk) (show Grew wk _ by (repeat (first | exact gR _ | refine gO ?_ _ | refine gA ?_ _ | refine gD ?_ | refine gN ?_ _))) hg1 (fun g h => by have := hb1 g h; omega)); have HO6 := Lib.hid hO1; clear hO1 hg1 hb1 hv1
              have h5 := HO6.out
              rw [List.set_cons_zero, show #[Value.int .i64 (y : Int)].toList ++ intVs ord.reverse = intVs ((y : Int) :: ord.reverse) by rfl] at h5
              obtain ⟨q5, cap5, e1, e2, e3, e4, e5, e6⟩ := own_ints h5 (k := 0) rfl (fun z hz => by
                rcases List.mem_cons.1 hz with rfl | hz
                · omega
                · have := HoM.out z (List.mem_reverse.1 hz); omega)
              subst e1
              have H6 := Lib.hid (e6 w1 (Grew.refl _))
              have q0 := Hg6.out.cellEq m0
              have q1 := Hg6.out.cellEq m1
              have q2 := Hg6.out.cellEq m2
              have q3 := Hg6.out.cellEq c1
              refine hK.out _ _ ⟨q0, q1, q2, q3⟩ (fun hH => ?_)
              clear hK K h5 e6 e5 HO6
              (try simp only [Act.put, List.setIfInBounds_toArray, List.set_cons_zero, List.set_cons_succ])
              refine wpAnyT_all (rs := [10]) (by kernel_rfl) (by simp) (AllT.consL (i := 10) rfl (fun K hK => ?_) AllT.nil)
              go_simp; go_wp2_with (go_at_call 50; apply Calls.mono; (with_reducible exact Hun.out _ _ _ (Hg5.out.trans (Hcur.out.trans (Hg6.out.trans (by (repeat (first | exact gR _ | refine gO ?_ _ | refine gA ?_ _ | refine gD ?_ | refine gN ?_ _)))))) (H6.out.grew (by (repeat (first | exact gR _ | refine gO ?_ _ | refine gA ?_ _ | refine gD ?_ | refine gN ?_ _))))); rintro e w9 ⟨hg9, q9, cap9, rfl, hI9, hc91, hc92⟩; have hgx := Grew.trans (show Grew w1 _ by (repeat (first | exact gR _ | refine gO ?_ _ | refine gA ?_ _ | refine gD ?_ | refine gN ?_ _))) hg9; have Hg9 := Lib.hid (Hg5.out.trans (Hcur.out.trans (Hg6.out.trans hgx))); have HI9 := Lib.hid hI9; have q0 := hgx.cellEq q0; have q1 := hgx.cellEq q1; have q2 := hgx.cellEq q2; have q3 := hgx.cellEq q3; clear hgx hg9 hI9)
              refine hK.out _ _ ?_ (fun hH => ?_)
              · (first | (simp [go_sem, ↓IntWalk.iteOmega, *]; done) | go_keep)
              clear hK K
              (try simp only [Act.put, List.setIfInBounds_toArray, List.set_cons_zero, List.set_cons_succ])
              refine wpAnyT_all (rs := [11]) (by kernel_rfl) (by simp) (AllT.consL (i := 11) rfl (fun K hK => ?_) AllT.nil)
              go_simp
              refine hK.out _ _ ?_ (fun hH => ?_)
              · (first | (simp [go_sem, ↓IntWalk.iteOmega, *]; done) | go_keep)
              clear hK K
              (try simp only [Act.put, List.setIfInBounds_toArray, List.set_cons_zero, List.set_cons_succ])
              refine wpAnyT_done (by kernel_rfl) ?_ _
              have lC9 := Nat.lt_of_lt_of_le lC Hg9.out.below.size
              have HCl : Hid (C'.length ≤ 100) := Lib.hid (by have := (stt_len HT.out Hsn.out).1; have := HnA.out; omega)
              go_wp2_with ((at_builtin; refine wp_append_owns rfl _ _ 26 rfl 3 1 8 (.int .i64 0) Tryd.underlying26 Tryd.infoInt rfl (by decide) (w9.heap.size) _ 0 _ _ _ ((Owns.nil w9 w9.heap.size).made (Nat.le_refl _) #[.int .i64 y] 3 1 1 w9.heap.size rfl (by decide) rfl) rfl rfl _ _ _ rfl (intVs (ord.reverse)) (by rw [intVs_length, Nat.mul_one]; try first | rfl | assumption | (simp; done) | omega) (Hnil.out) (Ints.newsO (HIg.out.grew (Hg9.out.trans (by (repeat (first | exact gR _ | refine gO ?_ _ | refine gA ?_ _ | refine gD ?_ | refine gN ?_ _)))))) (intVs_one _) (by simp only [maxLen]; omega) (by omega) (by first | rfl | omega | (simp <;> omega)) ?_; intro v1 w1 hO1 hg1 hb1 hv1; have Hg10 := Lib.hid (Grew.grownBy (w0 := w9) (show Grew w9 _ by (repeat (first | exact gR _ | refine gO ?_ _ | refine gA ?_ _ | refine gD ?_ | refine gN ?_ _))) hg1 (fun g h => by have := hb1 g h; omega)); have HO10 := Lib.hid hO1; clear hO1 hg1 hb1 hv1))
              have h5 := HO10.out
              rw [List.set_cons_zero, show #[Value.int .i64 (y : Int)].toList ++ intVs ord.reverse = intVs ((y : Int) :: ord.reverse) by rfl] at h5
              obtain ⟨q7, cap7, f1, f2, f3, f4, f5, f6⟩ := own_ints h5 (k := 0) rfl (fun z hz => by
                rcases List.mem_cons.1 hz with rfl | hz
                · omega
                · have := HoM.out z (List.mem_reverse.1 hz); omega)
              have hq7 : q7 = none → False := fun e => by
                subst e
                subst f1
                rcases (h5.get (k := 0) rfl).2 with ⟨a1, a2⟩ | ⟨g, cc, a1, _⟩
                · omega
                · cases a1
              subst f1
              have H7 := Lib.hid (f6 _ (Grew.refl _))
              have Hq7 := Lib.hid hq7
              have hrv : (ord ++ [(y : Int)]).reverse = (y : Int) :: ord.reverse := by simp
              have Hrv := Lib.hid hrv
              have Hol : Hid ((ord ++ [(y : Int)]).length = 1 + l) := Lib.hid (by rw [List.length_append, List.length_singleton, Hl.out, Nat.add_comm])
              clear h5 f6 f5 f2 HO10 hq7 hrv e2
              obtain ⟨k', rfl⟩ : ∃ k', gk = k' + 1 := ⟨gk - 1, by omega⟩
              go_roundg k'
              case rel => exact ⟨C', ord ++ [(y : Int)], by rw [Hol.out]; omega, Hsn.out, Hg.out.trans (Hg9.out.trans (Hg10.out.trans (by (repeat (first | exact gR _ | refine gO ?_ _ | refine gA ?_ _ | refine gD ?_ | refine gN ?_ _))))), ⟨q9, cap9, rfl, HI9.out.grew (Hg10.out.trans (by (repeat (first | exact gR _ | refine gO ?_ _ | refine gA ?_ _ | refine gD ?_ | refine gN ?_ _)))), hc91, hc92⟩, q7, cap7, by rw [Hol.out], by rw [Hrv.out]; exact H7.out.grew (by (repeat (first | exact gR _ | refine gO ?_ _ | refine gA ?_ _ | refine gD ?_ | refine gN ?_ _))), fun e => (Hq7.out e).elim⟩
              case measure => omega
end Go.Proofs.YtlealdicoceekaaDoor
