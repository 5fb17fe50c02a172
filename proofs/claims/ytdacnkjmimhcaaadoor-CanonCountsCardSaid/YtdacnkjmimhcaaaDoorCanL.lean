/- The chapter's examples: awake. -/
import Derived.Test.YtdacnkjmimhcaaaDoorCanK
set_option linter.unusedSimpArgs false
set_option linter.unusedVariables false
namespace Go.Proofs.YtdacnkjmimhcaaaDoor
open Go.RowKit
attribute [local go_sem ↓] Go.wp_at_zero Go.wp_at_succ

def ThreePost (n : Nat) (xs : List Int) (w : World) (e : Ending) (w' : World) : Prop :=
  (∃ q cap, e = .returned (.tuple #[.slice q n cap, .int .i64 0]) ∧ Ints w' q xs ∧ n ≤ cap ∧ cap ≤ maxLen) ∧ ∃ x, w' = over w x
theorem TwoPost.three {n : Nat} {xs : List Int} {w : World} {P : Program} {f : FuncId} {args : Array Value} (h : Calls P f args w (TwoPost xs 0 w)) (hn : xs.length = n) : Calls P f args w (ThreePost n xs w) :=
  h.mono fun e w' ⟨hg, q, cap, h1, h2, h3, h4⟩ => ⟨⟨q, cap, by rw [h1, hn], h2, by omega, h4⟩, hg⟩
theorem ord3_l {pE pA : Option Addr} {cE cA : Nat} {w : World} (hR : RotIn w pE pA cE E3 A3) (hL : Lim w) : Calls Tryd.prog 14 #[.agg #[.int .i64 3, .slice pE 3 cE, .slice pA 3 cA]] w (ThreePost 3 [0, 1, 2] w) := by
  have h := order_p 3 pE pA 3 3 cE cA E3 A3 5 [2] w hR hL tg3 (by decide) pl3 rfl rfl
  rw [t03.1, t03.2] at h
  exact TwoPost.three h rfl
theorem ord4_l {pE pA : Option Addr} {cE cA : Nat} {w : World} (hR : RotIn w pE pA cE E4 A4) (hL : Lim w) : Calls Tryd.prog 14 #[.agg #[.int .i64 4, .slice pE 6 cE, .slice pA 4 cA]] w (ThreePost 4 [0, 1, 3, 2] w) := by
  have h := order_p 4 pE pA 6 4 cE cA E4 A4 5 [2, 3] w hR hL tg4 (by decide) pl4 rfl rfl
  rw [t04.1, t04.2] at h
  exact TwoPost.three h rfl
theorem con4_l {pE pA pO : Option Addr} {cE cA cO : Nat} {w : World} (hR : RotIn w pE pA cE E4 A4) (hL : Lim w) (hO : Ints w pO [0, 1, 3, 2]) (h1 : 4 ≤ cO) (h2 : cO ≤ maxLen) : Calls Tryd.prog 9 #[.agg #[.int .i64 4, .slice pE 6 cE, .slice pA 4 cA], .slice pO 4 cO, .int .i64 3] w (ThreePost 3 [0, 3, 1] w) := by
  have h := contour36_p 4 pE pA 6 4 cE cA E4 A4 pO 4 cO [0, 1, 3, 2] 3 w hR hL hO (by decide) h1 h2 rfl rfl rfl
  rw [ct4] at h
  exact TwoPost.three h rfl
theorem chk4_l {pE pA pO : Option Addr} {cE cA cO : Nat} {w : World} {O : List Int} {b : Bool} (hb : chkO 4 E4 A4 O = b) (hl : O.length = 4) (hR : RotIn w pE pA cE E4 A4) (hL : Lim w) (hO : Ints w pO O) (h1 : 4 ≤ cO) (h2 : cO ≤ maxLen) :
    Calls Tryd.prog 11 #[.agg #[.int .i64 4, .slice pE 6 cE, .slice pA 4 cA], .slice pO 4 cO] w fun e w' => e = .returned (.bool b) ∧ Grew w w' := by
  rw [← hb]
  exact check36_p 4 pE pA 6 4 cE cA E4 A4 pO 4 cO O w hR hL hO (by omega) h1 h2 rfl rfl hl
theorem same3_l {p q : Option Addr} {cp cq : Nat} {L : List Int} {w : World} (n : Nat) (hl : L.length = n) (hL : Ints w p L) (hM : Ints w q L) : Calls Tryd.prog 13 #[.slice p n cp, .slice q n cq] w fun e w' => e = .returned (.bool true) ∧ Grew w w' := by
  have h := same_l p q n n cp cq L L w hL hM hl hl
  rw [decide_eq_true rfl] at h
  exact h

set_option maxRecDepth 8000 in
set_option maxHeartbeats 8000000 in
theorem awake_l (w : World) (hL : Lim w) : Calls Tryd.prog 8 #[] w fun e w' => e = .returned (.bool true) ∧ Grew w w' := by
  have HL := Lib.hid hL
  clear hL
  go_enter Tryd.func8, Tryd.ntmps8
  go_upto_region 2 with fail
  obtain ⟨hR0, hG0⟩ := mat3_at w 39 3 26 #[.int .i64 0, .int .i64 1, .int .i64 1, .int .i64 2, .int .i64 2, .int .i64 0] #[.int .i64 0, .int .i64 5] #[.int .i64 2, .int .i64 1] #[.int .i64 4, .int .i64 3] w.heap.size (w.heap.size + 1) (w.heap.size + 1 + 1) (w.heap.size + 1 + 1 + 1) (w.heap.size + 1 + 1 + 1 + 1) 2 2 2 E3 [0, 5] [2, 1] [4, 3]
    rfl rfl rfl rfl rfl rfl rfl rfl rfl rfl rfl rfl (by decide) (by decide) (by decide) (by decide) (by decide)
  obtain ⟨W0, hW0⟩ : ∃ W0, mat3 w 39 3 26 #[.int .i64 0, .int .i64 1, .int .i64 1, .int .i64 2, .int .i64 2, .int .i64 0] #[.int .i64 0, .int .i64 5] #[.int .i64 2, .int .i64 1] #[.int .i64 4, .int .i64 3] (w.heap.size + 1) (w.heap.size + 1 + 1) (w.heap.size + 1 + 1 + 1) 2 2 2 = W0 := ⟨_, rfl⟩
  have hs0 : W0.heap.size = w.heap.size + 1 + 1 + 1 + 1 + 1 := by rw [← hW0]; simp [mat3]
  rw [hW0] at hR0 hG0
  generalize hWW : World.alloc _ (.cells #[.slice (some ⟨w.heap.size + 1, 0, none⟩) 2 2, .slice (some ⟨w.heap.size + 1 + 1, 0, none⟩) 2 2, .slice (some ⟨w.heap.size + 1 + 1 + 1, 0, none⟩) 2 2] 26) = W3
  have hW3 : W3 = W0 := hWW.symm.trans (by rw [← hW0]; rfl)
  subst hW3
  have HR3 := Lib.hid hR0
  have HG0 := Lib.hid hG0
  have hRI : Hid (RotIn W3 (some ⟨w.heap.size, 0, none⟩) (some ⟨w.heap.size + 1 + 1 + 1 + 1, 0, none⟩) 3 E3 A3) := Lib.hid ⟨hR0.aw, by decide, by decide, by decide⟩
  clear hR0 hG0 hWW hW0
  go_wp2_with (first
    | (go_at_call 14; apply Calls.mono; (with_reducible exact ord3_l (hRI.out.grew (by (repeat (first | exact Grew.refl _ | refine Grew.over ?_ _ | refine Grew.alloc ?_ _ | refine Grew.drew ?_ | refine Grew.drewN ?_ _)))) (HL.out.grew (HG0.out.trans (by (repeat (first | exact Grew.refl _ | refine Grew.over ?_ _ | refine Grew.alloc ?_ _ | refine Grew.drew ?_ | refine Grew.drewN ?_ _)))))); rintro e wx ⟨⟨qa, ca, rfl, hIa, _, _⟩, x1, rfl⟩; have HIa := Lib.hid hIa; clear hIa)
    | (go_at_call 18; apply Calls.mono; (with_reducible exact four_l _); rintro e wx ⟨⟨pE, pA, rfl, hRf⟩, x2, rfl⟩; have HRf := Lib.hid hRf; clear hRf)
    | (go_at_call 14; apply Calls.mono; (with_reducible exact ord4_l HRf.out (HL.out.grew (HG0.out.trans (by (repeat (first | exact Grew.refl _ | refine Grew.over ?_ _ | refine Grew.alloc ?_ _ | refine Grew.drew ?_ | refine Grew.drewN ?_ _)))))); rintro e wx ⟨⟨qb, cb, rfl, hIb, hb1, hb2⟩, x3, rfl⟩; have HIb := Lib.hid hIb; clear hIb)
    | (go_at_call 9; apply Calls.mono; (with_reducible exact con4_l (HRf.out.grew (by (repeat (first | exact Grew.refl _ | refine Grew.over ?_ _ | refine Grew.alloc ?_ _ | refine Grew.drew ?_ | refine Grew.drewN ?_ _)))) (HL.out.grew (HG0.out.trans (by (repeat (first | exact Grew.refl _ | refine Grew.over ?_ _ | refine Grew.alloc ?_ _ | refine Grew.drew ?_ | refine Grew.drewN ?_ _))))) (Ints.made _ _ [0, 1, 3, 2] _ _ rfl (by first | rfl | omega | (simp <;> omega)) (by decide) (by decide)) (by decide) (by decide)); rintro e wx ⟨⟨qc, cc, rfl, hIc, _, _⟩, x4, rfl⟩; have HIc := Lib.hid hIc; clear hIc)
    | (go_at_call 13; apply Calls.mono; (with_reducible exact same3_l 3 rfl (HIa.out.grew (by (repeat (first | exact Grew.refl _ | refine Grew.over ?_ _ | refine Grew.alloc ?_ _ | refine Grew.drew ?_ | refine Grew.drewN ?_ _)))) (Ints.made _ _ [0, 1, 2] _ _ rfl (by first | rfl | omega | (simp <;> omega)) (by decide) (by decide))); rintro e wx ⟨rfl, x5, rfl⟩)
    | (go_at_call 13; apply Calls.mono; (with_reducible exact same3_l 4 rfl (HIb.out.grew (by (repeat (first | exact Grew.refl _ | refine Grew.over ?_ _ | refine Grew.alloc ?_ _ | refine Grew.drew ?_ | refine Grew.drewN ?_ _)))) (Ints.made _ _ [0, 1, 3, 2] _ _ rfl (by first | rfl | omega | (simp <;> omega)) (by decide) (by decide))); rintro e wx ⟨rfl, x6, rfl⟩)
    | (go_at_call 13; apply Calls.mono; (with_reducible exact same3_l 3 rfl (HIc.out.grew (by (repeat (first | exact Grew.refl _ | refine Grew.over ?_ _ | refine Grew.alloc ?_ _ | refine Grew.drew ?_ | refine Grew.drewN ?_ _)))) (Ints.made _ _ [0, 3, 1] _ _ rfl (by first | rfl | omega | (simp <;> omega)) (by decide) (by decide))); rintro e wx ⟨rfl, x7, rfl⟩)
    | (go_at_call 11; apply Calls.mono; (with_reducible exact chk4_l ck4 rfl HRf.out (HL.out.grew (HG0.out.trans (by (repeat (first | exact Grew.refl _ | refine Grew.over ?_ _ | refine Grew.alloc ?_ _ | refine Grew.drew ?_ | refine Grew.drewN ?_ _))))) (HIb.out.grew (by (repeat (first | exact Grew.refl _ | refine Grew.over ?_ _ | refine Grew.alloc ?_ _ | refine Grew.drew ?_ | refine Grew.drewN ?_ _)))) hb1 hb2); rintro e wx ⟨rfl, x8, rfl⟩)
    | (go_at_call 11; apply Calls.mono; (with_reducible exact chk4_l ck4n rfl (HRf.out.grew (by (repeat (first | exact Grew.refl _ | refine Grew.over ?_ _ | refine Grew.alloc ?_ _ | refine Grew.drew ?_ | refine Grew.drewN ?_ _)))) (HL.out.grew (HG0.out.trans (by (repeat (first | exact Grew.refl _ | refine Grew.over ?_ _ | refine Grew.alloc ?_ _ | refine Grew.drew ?_ | refine Grew.drewN ?_ _))))) (Ints.made _ _ [0, 1, 2, 3] _ _ rfl (by first | rfl | omega | (simp <;> omega)) (by decide) (by decide)) (by decide) (by decide)); rintro e wx ⟨rfl, x9, rfl⟩))
  go_ret
  exact ⟨rfl, HG0.out.trans (by (repeat (first | exact Grew.refl _ | refine Grew.over ?_ _ | refine Grew.alloc ?_ _ | refine Grew.drew ?_ | refine Grew.drewN ?_ _)))⟩

end Go.Proofs.YtdacnkjmimhcaaaDoor
