/- Place, Width, and the examples of the chapter. -/
import Derived.Test.YtgodoeefgmfpfaaTidyI
set_option linter.unusedSimpArgs false
set_option linter.unusedVariables false
namespace Go.Proofs.Ytgodoeefgmfpfaa
open Go.RowKit

theorem same_e {p q : Option Addr} {n k cp cq : Nat} {a b : List Int} {w : World} (he : a = b) (ha : Ints w p a) (hb : Ints w q b) (hn : a.length = n) (hk : b.length = k) :
    Calls Try.prog 13 #[.slice p n cp, .slice q k cq] w fun e w' => e = .returned (.bool true) ∧ Grew w w' := by
  have := same_r p q n k cp cq a b w ha hb hn hk
  rw [decide_eq_true he] at this
  exact this

theorem PlaceOK.unique {P W X Y : List Int} {sep a b : Int} (hP : vFor P) (h1 : PlaceOK P W sep X a) (h2 : PlaceOK P W sep Y b) : X = Y ∧ a = b := by
  obtain ⟨l1, m, e1, ⟨q1, hq1, f1⟩, r1, hr1, g1⟩ := h1
  obtain ⟨l2, m', e2, ⟨q2, hq2, f2⟩, r2, hr2, g2⟩ := h2
  have hm : m = m' := by
    have := (e1 q2 hq2).1
    have := (e2 q1 hq1).1
    omega
  subst hm
  constructor
  · refine List.ext_getElem (l1.trans l2.symm) fun i h1 h2 => ?_
    obtain ⟨x, hq⟩ := mem_verts.1 ((forD_all (W := W) (sep := sep) hP i).2 (by omega))
    have a1 := (e1 _ hq).2.2
    have a2 := (e2 _ hq).2.2
    have b1 : X[i] = ge X i := by simp [ge, h1]
    have b2 : Y[i] = ge Y i := by simp [ge, h2]
    dsimp only at a1 a2
    omega
  · have := (e1 r2 hr2).2.1
    have := (e2 r1 hr1).2.1
    omega

section
variable {p q : Option Addr} {n k cp cq : Nat} {P W : List Int} {sep : Int} {w : World}
theorem place_nil (hI : Ints w p P) (hJ : Ints w q W) (hn : P.length = n) (hk : W.length = k) (hb : okA P W sep = true) (h0 : P.length = 0) :
    Calls Try.prog 24 #[.slice p n cp, .slice q k cq, .int .i64 sep] w fun e w' => e = .returned (.tuple #[.slice none 0 0, .int .i64 0, .int .i64 0]) ∧ Grew w w' := by
  refine (place_good p q n k cp cq P W sep w hI hJ hn hk hb).mono fun e w' h => ?_
  obtain ⟨hg, h⟩ := h
  rcases h with ⟨h, _⟩ | ⟨_, _, h⟩ | ⟨_, h, _⟩
  · rw [hb] at h; cases h
  · exact ⟨h, hg⟩
  · omega
/-- What place returns if there are vertices. -/
def PlaceRes (P W : List Int) (sep : Int) (w : World) (w' : World) (q' : Option Addr) (cap : Nat) (X : List Int) (wd : Int) : Prop :=
  Ints w' q' X ∧ PlaceOK P W sep X wd ∧ P.length ≤ cap ∧ (∀ x ∈ X, -300000000 ≤ x ∧ x ≤ 300000000) ∧ Grew w w'
theorem place_some (hI : Ints w p P) (hJ : Ints w q W) (hn : P.length = n) (hk : W.length = k) (hb : okA P W sep = true) (h0 : 0 < P.length) :
    Calls Try.prog 24 #[.slice p n cp, .slice q k cq, .int .i64 sep] w fun e w' => ∃ q' cap X wd, e = .returned (.tuple #[.slice q' P.length cap, .int .i64 wd, .int .i64 0]) ∧ PlaceRes P W sep w w' q' cap X wd := by
  refine (place_good p q n k cp cq P W sep w hI hJ hn hk hb).mono fun e w' h => ?_
  obtain ⟨hg, h⟩ := h
  rcases h with ⟨h, _⟩ | ⟨_, h, _⟩ | ⟨_, _, q', cap, X, wd, h1, h2, h3, h4, _, h5⟩
  · rw [hb] at h; cases h
  · omega
  · exact ⟨q', cap, X, wd, h1, h2, h3, h4, h5, hg⟩

theorem pPlace_bad (hI : Ints w p P) (hJ : Ints w q W) (hn : P.length = n) (hk : W.length = k) (hb : okA P W sep = false) :
    Calls Try.prog 9 #[.slice p n cp, .slice q k cq, .int .i64 sep] w fun e w' => e = .returned (.tuple #[.slice none 0 0, .int .i64 1]) ∧ Grew w w' := by
  have H := Lib.hid (place_bad p q n k cp cq P W sep w hI hJ hn hk hb)
  clear hI hJ hn hk hb
  go_enter Try.func9, Try.ntmps9
  go_wp2_with (go_at_call 24; apply Calls.mono; (with_reducible exact H.out); rintro e w' ⟨rfl, x, rfl⟩)
  go_ret2
  exact ⟨rfl, by (repeat (first | exact Grew.refl _ | refine Grew.over ?_ _ | refine Grew.alloc ?_ _ | refine Grew.drew ?_ | refine Grew.drewN ?_ _))⟩
theorem pPlace_nil (hI : Ints w p P) (hJ : Ints w q W) (hn : P.length = n) (hk : W.length = k) (hb : okA P W sep = true) (h0 : P.length = 0) :
    Calls Try.prog 9 #[.slice p n cp, .slice q k cq, .int .i64 sep] w fun e w' => e = .returned (.tuple #[.slice none 0 0, .int .i64 0]) ∧ Grew w w' := by
  have H := Lib.hid (place_nil (cp := cp) (cq := cq) hI hJ hn hk hb h0)
  clear hI hJ hn hk hb h0
  go_enter Try.func9, Try.ntmps9
  go_wp2_with (go_at_call 24; apply Calls.mono; (with_reducible exact H.out); rintro e w' ⟨rfl, x, rfl⟩)
  go_ret2
  exact ⟨rfl, by (repeat (first | exact Grew.refl _ | refine Grew.over ?_ _ | refine Grew.alloc ?_ _ | refine Grew.drew ?_ | refine Grew.drewN ?_ _))⟩
theorem pPlace_some (hI : Ints w p P) (hJ : Ints w q W) (hn : P.length = n) (hk : W.length = k) (hb : okA P W sep = true) (h0 : 0 < P.length) :
    Calls Try.prog 9 #[.slice p n cp, .slice q k cq, .int .i64 sep] w fun e w' => ∃ q' cap X wd, e = .returned (.tuple #[.slice q' P.length cap, .int .i64 0]) ∧ PlaceRes P W sep w w' q' cap X wd := by
  have H := Lib.hid (place_some (cp := cp) (cq := cq) hI hJ hn hk hb h0)
  clear hI hJ hn hk hb h0
  go_enter Try.func9, Try.ntmps9
  go_wp2_with (go_at_call 24; apply Calls.mono; (with_reducible exact H.out); rintro e w' ⟨q', cap, X, wd, rfl, hR⟩; have HR := Lib.hid hR; clear hR)
  go_ret2
  exact ⟨q', cap, X, wd, rfl, HR.out⟩
theorem pWidth_bad (hI : Ints w p P) (hJ : Ints w q W) (hn : P.length = n) (hk : W.length = k) (hb : okA P W sep = false) :
    Calls Try.prog 11 #[.slice p n cp, .slice q k cq, .int .i64 sep] w fun e w' => e = .returned (.tuple #[.int .i64 0, .int .i64 1]) ∧ Grew w w' := by
  have H := Lib.hid (place_bad p q n k cp cq P W sep w hI hJ hn hk hb)
  clear hI hJ hn hk hb
  go_enter Try.func11, Try.ntmps11
  go_wp2_with (go_at_call 24; apply Calls.mono; (with_reducible exact H.out); rintro e w' ⟨rfl, x, rfl⟩)
  go_ret2
  exact ⟨rfl, by (repeat (first | exact Grew.refl _ | refine Grew.over ?_ _ | refine Grew.alloc ?_ _ | refine Grew.drew ?_ | refine Grew.drewN ?_ _))⟩
theorem pWidth_nil (hI : Ints w p P) (hJ : Ints w q W) (hn : P.length = n) (hk : W.length = k) (hb : okA P W sep = true) (h0 : P.length = 0) :
    Calls Try.prog 11 #[.slice p n cp, .slice q k cq, .int .i64 sep] w fun e w' => e = .returned (.tuple #[.int .i64 0, .int .i64 0]) ∧ Grew w w' := by
  have H := Lib.hid (place_nil (cp := cp) (cq := cq) hI hJ hn hk hb h0)
  clear hI hJ hn hk hb h0
  go_enter Try.func11, Try.ntmps11
  go_wp2_with (go_at_call 24; apply Calls.mono; (with_reducible exact H.out); rintro e w' ⟨rfl, x, rfl⟩)
  go_ret2
  exact ⟨rfl, by (repeat (first | exact Grew.refl _ | refine Grew.over ?_ _ | refine Grew.alloc ?_ _ | refine Grew.drew ?_ | refine Grew.drewN ?_ _))⟩
theorem pWidth_some (hI : Ints w p P) (hJ : Ints w q W) (hn : P.length = n) (hk : W.length = k) (hb : okA P W sep = true) (h0 : 0 < P.length) :
    Calls Try.prog 11 #[.slice p n cp, .slice q k cq, .int .i64 sep] w fun e w' => ∃ X wd, e = .returned (.tuple #[.int .i64 wd, .int .i64 0]) ∧ PlaceOK P W sep X wd ∧ Grew w w' := by
  have H := Lib.hid (place_some (cp := cp) (cq := cq) hI hJ hn hk hb h0)
  clear hI hJ hn hk hb h0
  go_enter Try.func11, Try.ntmps11
  go_wp2_with (go_at_call 24; apply Calls.mono; (with_reducible exact H.out); rintro e w' ⟨q', cap, X, wd, rfl, hR⟩; have HR := Lib.hid hR; clear hR)
  go_ret2
  exact ⟨X, wd, rfl, HR.out.2.1, HR.out.2.2.2.2⟩
end

theorem aw_dr : forD [-1, 0, 0] [4, 4, 4] 2 = [(1, -3), (2, 3), (0, 0)] := by decide +kernel
theorem aw_ok : okA [-1, 0, 0] [4, 4, 4] 2 = true := by decide +kernel
theorem aw_v : vForB [-1, 0] = true := by decide +kernel
theorem aw_place : PlaceOK [-1, 0, 0] [4, 4, 4] 2 [5, 2, 8] 10 := by
  refine ⟨rfl, -5, ?_, ?_, ?_⟩ <;> rw [aw_dr]
  · decide +kernel
  · exact ⟨(1, -3), by decide +kernel, by decide +kernel⟩
  · exact ⟨(2, 3), by decide +kernel, by decide +kernel⟩
theorem aw_ints (W : World) (b1 b2 : Nat) (h1 : b1 = W.heap.size) (h2 : b2 = W.heap.size + 1) :
    Ints ((W.alloc (.cells #[.int .i64 (-1), .int .i64 0, .int .i64 0] 3)).alloc (.cells #[.int .i64 4, .int .i64 4, .int .i64 4] 3)) (some ⟨b1, 0, none⟩) [-1, 0, 0] ∧
    Ints ((W.alloc (.cells #[.int .i64 (-1), .int .i64 0, .int .i64 0] 3)).alloc (.cells #[.int .i64 4, .int .i64 4, .int .i64 4] 3)) (some ⟨b2, 0, none⟩) [4, 4, 4] :=
  ⟨(Ints.made W _ [-1, 0, 0] _ _ rfl h1 (by decide) (by decide)).grew ((Grew.refl _).alloc _), Ints.made _ _ [4, 4, 4] _ _ rfl (by simp [h2]) (by decide) (by decide)⟩
theorem place_aw (W : World) (b1 b2 : Nat) (h1 : b1 = W.heap.size) (h2 : b2 = W.heap.size + 1) :
    Calls Try.prog 9 #[.slice (some ⟨b1, 0, none⟩) 3 3, .slice (some ⟨b2, 0, none⟩) 3 3, .int .i64 2] ((W.alloc (.cells #[.int .i64 (-1), .int .i64 0, .int .i64 0] 3)).alloc (.cells #[.int .i64 4, .int .i64 4, .int .i64 4] 3)) fun e w' =>
      ∃ q cap, e = .returned (.tuple #[.slice q 3 cap, .int .i64 0]) ∧ Ints w' q [5, 2, 8] ∧ Grew ((W.alloc (.cells #[.int .i64 (-1), .int .i64 0, .int .i64 0] 3)).alloc (.cells #[.int .i64 4, .int .i64 4, .int .i64 4] 3)) w' := by
  obtain ⟨hI, hJ⟩ := aw_ints W b1 b2 h1 h2
  refine (pPlace_some hI hJ rfl rfl aw_ok (by decide)).mono fun e w' ⟨q, cap, X, wd, he, h1, h2, h3, h4, h5⟩ => ?_
  obtain ⟨rfl, rfl⟩ := PlaceOK.unique (okA_facts aw_ok).1 h2 aw_place
  exact ⟨q, cap, he, h1, h5⟩
theorem width_aw (W : World) (b1 b2 : Nat) (h1 : b1 = W.heap.size) (h2 : b2 = W.heap.size + 1) :
    Calls Try.prog 11 #[.slice (some ⟨b1, 0, none⟩) 3 3, .slice (some ⟨b2, 0, none⟩) 3 3, .int .i64 2] ((W.alloc (.cells #[.int .i64 (-1), .int .i64 0, .int .i64 0] 3)).alloc (.cells #[.int .i64 4, .int .i64 4, .int .i64 4] 3)) fun e w' =>
      e = .returned (.tuple #[.int .i64 10, .int .i64 0]) ∧ Grew ((W.alloc (.cells #[.int .i64 (-1), .int .i64 0, .int .i64 0] 3)).alloc (.cells #[.int .i64 4, .int .i64 4, .int .i64 4] 3)) w' := by
  obtain ⟨hI, hJ⟩ := aw_ints W b1 b2 h1 h2
  refine (pWidth_some hI hJ rfl rfl aw_ok (by decide)).mono fun e w' ⟨X, wd, he, h2, h5⟩ => ?_
  obtain ⟨rfl, rfl⟩ := PlaceOK.unique (okA_facts aw_ok).1 h2 aw_place
  exact ⟨he, h5⟩

set_option maxHeartbeats 4000000 in
theorem awake_l (w : World) : Calls Try.prog 8 #[] w fun e w' => e = .returned (.bool true) ∧ Grew w w' := by
  go_enter Try.func8, Try.ntmps8
  go_wp2_with (first
    | (go_at_call 9; apply Calls.mono; (with_reducible exact place_aw _ _ _ (by first | rfl | omega | (simp <;> omega)) (by first | rfl | omega | (simp <;> omega))); rintro e w' ⟨q, cap, rfl, hI, x, rfl⟩)
    | (go_at_call 11; apply Calls.mono; (with_reducible exact width_aw _ _ _ (by first | rfl | omega | (simp <;> omega)) (by first | rfl | omega | (simp <;> omega))); rintro e w' ⟨rfl, x2, rfl⟩)
    | (go_at_call 13; apply Calls.mono; (with_reducible exact same_e rfl (hI.grew (by (repeat (first | exact Grew.refl _ | refine Grew.over ?_ _ | refine Grew.alloc ?_ _ | refine Grew.drew ?_ | refine Grew.drewN ?_ _)))) (Ints.made _ _ [5, 2, 8] _ _ rfl (by (simp [go_sem, ↓IntWalk.iteOmega])) (by decide) (by decide)) rfl rfl); rintro e w' ⟨rfl, x3, rfl⟩)
    | (go_at_call 19; apply Calls.mono; (with_reducible exact validp_e aw_v (Ints.made _ _ [-1, 0] _ _ rfl (by (simp [go_sem, ↓IntWalk.iteOmega])) (by decide) (by decide)) rfl); rintro e w' ⟨rfl, rfl⟩))
  go_ret
  exact ⟨rfl, by (repeat (first | exact Grew.refl _ | refine Grew.over ?_ _ | refine Grew.alloc ?_ _ | refine Grew.drew ?_ | refine Grew.drewN ?_ _))⟩

/-- TidyDepths. -/
theorem depths_l (p : Option Addr) (n cap : Nat) (P : List Int) (w : World) (hI : Ints w p P) (hn : P.length = n) :
    Calls Try.prog 6 #[.slice p n cap] w fun e w' => e = .returned (.bool true) ∧ Grew w w' := by
  subst hn
  have hm := hI.1
  go_enter Try.func6, Try.ntmps6
  go_wp2_with (first
    | (go_at_call 19; apply Calls.mono; (with_reducible exact valid_p _ _ _ P _ hI rfl); rintro e w' ⟨rfl, rfl⟩)
    | (go_at_call 20; apply Calls.mono; (with_reducible exact valid_r _ _ _ P _ hI rfl); rintro e w' ⟨rfl, rfl⟩)
    | (go_at_call 21; apply Calls.mono; (with_reducible exact depths_p _ _ _ P _ hI rfl); rintro e w' ⟨⟨x, rfl⟩, q1, c1, rfl, hI1, _⟩)
    | (go_at_call 14; apply Calls.mono; (with_reducible exact depths_r _ _ _ P _ (hI.grew (by (repeat (first | exact Grew.refl _ | refine Grew.over ?_ _ | refine Grew.alloc ?_ _ | refine Grew.drew ?_ | refine Grew.drewN ?_ _)))) rfl); rintro e w' ⟨⟨x2, rfl⟩, q2, c2, rfl, hI2, _⟩)
    | (go_at_call 13; apply Calls.mono; (with_reducible exact same_e rfl (hI1.grew (by (repeat (first | exact Grew.refl _ | refine Grew.over ?_ _ | refine Grew.alloc ?_ _ | refine Grew.drew ?_ | refine Grew.drewN ?_ _)))) (hI2.grew (by (repeat (first | exact Grew.refl _ | refine Grew.over ?_ _ | refine Grew.alloc ?_ _ | refine Grew.drew ?_ | refine Grew.drewN ?_ _)))) rfl rfl); rintro e w' ⟨rfl, x3, rfl⟩)
    | (go_at_call 8; apply Calls.mono; (with_reducible exact awake_l _); rintro e w' ⟨rfl, x4, rfl⟩))
  go_ret
  exact ⟨rfl, by (repeat (first | exact Grew.refl _ | refine Grew.over ?_ _ | refine Grew.alloc ?_ _ | refine Grew.drew ?_ | refine Grew.drewN ?_ _))⟩

end Go.Proofs.Ytgodoeefgmfpfaa
