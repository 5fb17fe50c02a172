/- Contracts of geom: lines of segments. -/
import Derived.Test.YtomkamohcdcmhaaGeom2
import Derived.Test.YtomkamohcdcmhaaLex
set_option linter.unusedSimpArgs false
set_option linter.unusedVariables false
namespace Go.Proofs.Ytomkamohcdcmhaa
open Go.RowKit


theorem valid_e {x y : Int} {b : Bool} (h : vld x y = b) (w : World) : Calls Try.prog 9 #[pt x y] w fun e w' => e = .returned (.bool b) ∧ Grew w w' := h ▸ valid_p x y w

set_option maxHeartbeats 1000000 in
theorem of_p (ax ay bx bZ : Int) (w : World) :
    Calls Try.prog 26 #[seg ax ay bx bZ] w fun e w' => e = .returned (.tuple #[seg ax ay bx bZ, .bool (vld ax ay && vld bx bZ)]) ∧ Grew w w' := by
  cases ha : vld ax ay
  all_goals
    go_enter Try.func26, Try.ntmps26
    go_wp2
    refine wp_region_lex (One 13 (fun b => (w.alloc (.cells #[.int .i64 ax, .int .i64 ay, .int .i64 bx, .int .i64 bZ] 30)).alloc (.cells (if b then #[.int .i64 ax, .int .i64 ay, .int .i64 bx, .int .i64 bZ] else #[.int .i64 0, .int .i64 0, .int .i64 0, .int .i64 0]) 34))) (by kernel_rfl) (by kernel_rfl) ?_ ?_
    · (repeat (first | exact Grew.refl _ | refine Grew.over ?_ _ | refine Grew.alloc ?_ _ | refine Grew.drew ?_ | refine Grew.drewN ?_ _))
    repeat (first
      | (refine lex_skip rfl ?_ ?_
         · exact One.keep (by decide)
         (try simp only [Act.put, List.setIfInBounds_toArray, List.set_cons_zero, List.set_cons_succ]))
      | (refine lex_pure (v := ?_) rfl ?_ (fun d w hd hr hC => ?_) ?_
         rotate_left
         · exact One.keep (by decide)
         · (obtain ⟨x, rfl⟩ := hC; simp [go_sem, ↓IntWalk.iteOmega]; try rfl)
         (try simp only [Act.put, List.setIfInBounds_toArray, List.set_cons_zero, List.set_cons_succ]))
      | (refine lex_call (v := ?_) (f := ?_) (args := ?_) rfl ?_ One.grew (fun d w hd hr hC => ?_) (fun d w hd hr hC => ?_) ?_
         rotate_left 3
         · exact One.keep (by decide)
         · (obtain ⟨x, rfl⟩ := hC; simp [go_sem, ↓IntWalk.iteOmega]; (refine ⟨?_, ?_⟩ <;> rfl))
         · (obtain ⟨x, rfl⟩ := hC; (first | (go_at_call 9; with_reducible exact valid_e ha _) | (go_at_call 9; with_reducible exact valid_p _ _ _)))
         (try simp only [Act.put, List.setIfInBounds_toArray, List.set_cons_zero, List.set_cons_succ]))
      | (refine lex_store rfl (fun d w hd hr hC => ?_) ?_
         · (unfold One at hC ⊢; rw [hd] at hC; rw [mark_same]; obtain ⟨x, rfl⟩ := hC; refine ⟨?_, ?_, ?_⟩; rotate_left; (simp [go_sem, ↓IntWalk.iteOmega]; try rfl); (simp; exact ⟨_, rfl⟩))
         (try simp only [Act.put, List.setIfInBounds_toArray, List.set_cons_zero, List.set_cons_succ])))
    refine lex_nil ?_
    intro d w hd hC
    unfold One at hC; rw [hd 13 (by decide)] at hC; obtain ⟨x, rfl⟩ := hC; simp only [if_true]
    go_wp2
    refine bodyPost_ret (v := .tuple #[seg ax ay bx bZ, .bool (vld ax ay && vld bx bZ)]) (by simp [results, Try.results26, go_sem, ha, ↓IntWalk.iteOmega]) rfl ⟨by simp [ha], ?_⟩
    (repeat (first | exact Grew.refl _ | refine Grew.over ?_ _ | refine Grew.alloc ?_ _ | refine Grew.drew ?_ | refine Grew.drewN ?_ _))

theorem over_callE {P : Program} {f : FuncId} {args : Array Value} {w x : World} {v : Value}
    (h : Calls P f args (over w x) fun e w' => e = .returned v ∧ over w x = w') :
    Calls P f args (over w x) fun e w'' => e = .returned v ∧ ∃ y, w'' = over w y :=
  h.mono fun _ _ ⟨he, hg⟩ => ⟨he, x, hg.symm⟩

/-- Within the least box around a segment. -/
def inb (ax ay bx bZ px py : Int) : Bool := decide (min ax bx ≤ px ∧ px ≤ max ax bx ∧ min ay bZ ≤ py ∧ py ≤ max ay bZ)

set_option maxHeartbeats 1000000 in
theorem spans_p (ax ay bx bZ px py : Int) (w : World) :
    Calls Try.prog 30 #[seg ax ay bx bZ, pt px py] w fun e w' => e = .returned (.bool (inb ax ay bx bZ px py)) ∧ Grew w w' := by
  go_enter Try.func30, Try.ntmps30
  go_wp2
  all_goals
    go_ret
    refine ⟨ret_bool ?_, ?_⟩
    · rw [Bool.eq_iff_iff]
      unfold inb
      simp
      try omega
    · (repeat (first | exact Grew.refl _ | refine Grew.over ?_ _ | refine Grew.alloc ?_ _ | refine Grew.drew ?_ | refine Grew.drewN ?_ _))

theorem sgn_bd (n : Int) : -1 ≤ sgn n ∧ sgn n ≤ 1 := by unfold sgn; repeat' split <;> omega
theorem sgn_zero (n : Int) : sgn n = 0 ↔ n = 0 := by unfold sgn; repeat' split <;> omega

/-- On a line's segment, all points valid. -/
def onl (ax ay bx bZ px py : Int) : Bool := inb ax ay bx bZ px py && decide (sgn (crs ax ay bx bZ px py) = 0)

set_option maxHeartbeats 1000000 in
theorem on_p (ax ay bx bZ px py : Int) (w : World) (ha : vld ax ay = true) (hb : vld bx bZ = true) (hc : vld px py = true) :
    Calls Try.prog 27 #[seg ax ay bx bZ, pt px py] w fun e w' => e = .returned (.bool (onl ax ay bx bZ px py)) ∧ Grew w w' := by
  have ka := Lib.hid ha
  have kb := Lib.hid hb
  have kc := Lib.hid hc
  clear ha hb hc
  cases h : inb ax ay bx bZ px py
  all_goals
    have kh := Lib.hid h
    go_enter Try.func27, Try.ntmps27
    go_wp2_with (first | (go_at_call 30; (with_reducible refine (spans_p _ _ _ _ _ _ _).mono ?_); rintro e w' ⟨rfl, x, rfl⟩) | (go_at_call 22; (with_reducible refine (side_p _ _ _ _ _ _ _ ka.out kb.out kc.out).mono ?_); rintro e w' ⟨rfl, x, rfl⟩))
    all_goals
      go_ret
      refine ⟨ret_bool ?_, ?_⟩
      · unfold onl
        rw [kh.out]
        rw [Bool.eq_iff_iff]
        simp
      · (repeat (first | exact Grew.refl _ | refine Grew.over ?_ _ | refine Grew.alloc ?_ _ | refine Grew.drew ?_ | refine Grew.drewN ?_ _))

/-- The ends of one segment lie on different sides of the other one's line. -/
def ptsd (ax ay bx bZ cx cy dx dy : Int) : Bool := decide (sgn (crs ax ay bx bZ cx cy) * sgn (crs ax ay bx bZ dx dy) < 0)

theorem one_bd {a b : Int} (h : -1 ≤ a ∧ a ≤ 1) (k : -1 ≤ b ∧ b ≤ 1) : -1 ≤ a * b ∧ a * b ≤ 1 := by
  have := mul_bd (n := 1) (m := 1) h.1 h.2 k.1 k.2
  omega

set_option maxHeartbeats 1000000 in
theorem parts_p (ax ay bx bZ cx cy dx dy : Int) (w : World) (ha : vld ax ay = true) (hb : vld bx bZ = true) (hc : vld cx cy = true) (hd : vld dx dy = true) :
    Calls Try.prog 29 #[seg ax ay bx bZ, seg cx cy dx dy] w fun e w' => e = .returned (.bool (ptsd ax ay bx bZ cx cy dx dy)) ∧ Grew w w' := by
  have ka := Lib.hid ha
  have kb := Lib.hid hb
  have kc := Lib.hid hc
  have kd := Lib.hid hd
  clear ha hb hc hd
  obtain ⟨m1, m2⟩ := one_bd (sgn_bd (crs ax ay bx bZ cx cy)) (sgn_bd (crs ax ay bx bZ dx dy))
  go_enter Try.func29, Try.ntmps29
  go_wp2
  refine wp_region_over (by kernel_rfl) (by kernel_rfl) ?_; (repeat (go_big_quiet_step (first | (go_at_call 22; with_reducible exact over_call (side_p _ _ _ _ _ _ _ ka.out kb.out kc.out)) | (go_at_call 22; with_reducible exact over_call (side_p _ _ _ _ _ _ _ ka.out kb.out kd.out))))); refine wpQuiet_nil ?_; rintro _ ⟨x, rfl⟩
  go_wp2
  go_ret
  refine ⟨ret_bool ?_, ?_⟩
  · unfold ptsd
    simp
  · (repeat (first | exact Grew.refl _ | refine Grew.over ?_ _ | refine Grew.alloc ?_ _ | refine Grew.drew ?_ | refine Grew.drewN ?_ _))

end Go.Proofs.Ytomkamohcdcmhaa
