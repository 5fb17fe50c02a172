/- The search of the program, plain part and walk. -/
import Derived.Test.YtnnlhmialmhpfaaFlP
import Derived.Deep.LoopGhost
set_option linter.unusedSimpArgs false
set_option linter.unusedVariables false
namespace Go.Proofs.Ytnnlhmialmhpfaa
open Go.RowKit
attribute [local go_sem ↓] Go.wp_at_zero Go.wp_at_succ

abbrev farP : Int := 1152921504606846976
/-- The state of a round of the search. -/
def InS (V : Nat) (far : Int) (src : Nat → Prop) (A : List Ark) (L : List (Nat × Bool)) (π : Nat → Int) (d pr : List Int) (j : Nat) (more : Bool) (M : Nat) : Prop :=
  ∃ ch, Se V far src A L π d pr ch ∧ (more = false → ∀ (t i : Nat) (b : Bool), t < j → L[t]? = some (i, b) → ge d (sF A i b) = far ∨ (ge d (sT A i b) ≠ far ∧ ge d (sT A i b) ≤ ge d (sF A i b) + sC A i b)) ∧ mea V d ≤ M ∧ (more = true → mea V d < M)
theorem InS.lo {V : Nat} {far : Int} {src : Nat → Prop} {A : List Ark} {L : List (Nat × Bool)} {π : Nat → Int} {d pr : List Int} {j : Nat} {more : Bool} {M : Nat} (h : InS V far src A L π d pr j more M) (hV : V ≤ 256) (hf : 1000000 < far) {v : Nat} (hv : v < V) :
    ge d v = far ∨ (-256000 ≤ ge d v ∧ ge d v ≤ 256000) := by
  obtain ⟨ch, h1, _⟩ := h
  by_cases e : ge d v = far
  · exact Or.inl e
  · have := h1.bf.bound hv e
    exact Or.inr (by omega)
theorem InS.same {V : Nat} {far : Int} {src : Nat → Prop} {A : List Ark} {L : List (Nat × Bool)} {π : Nat → Int} {d pr : List Int} {j : Nat} {more : Bool} {M : Nat} (h : InS V far src A L π d pr j more M) {i : Nat} {b : Bool} (hj : L[j]? = some (i, b))
    (hle : ge d (sF A i b) = far ∨ (ge d (sT A i b) ≠ far ∧ ge d (sT A i b) ≤ ge d (sF A i b) + sC A i b)) : InS V far src A L π d pr (j + 1) more M := by
  obtain ⟨ch, h1, h2, h3, h4⟩ := h
  refine ⟨ch, h1, fun hm t i' b' ht he => ?_, h3, h4⟩
  by_cases e : t = j
  · subst e
    rw [hj] at he
    cases he
    exact hle
  · exact h2 hm t i' b' (by omega) he
theorem InS.relax {s : List Int} {far : Int} {src : Nat → Prop} {A : List Ark} {f : List Int} {π : Nat → Int} {d pr : List Int} {j : Nat} {more : Bool} {M : Nat} (hV : vN s A) (hp : Pot A f π) (hfar : 1000000 < far) (h : InS s.length far src A (resL A f A.length) π d pr j more M)
    {i : Nat} {b : Bool} (hj : (resL A f A.length)[j]? = some (i, b)) (hf : ge d (sF A i b) ≠ far) (hlt : ge d (sF A i b) + sC A i b < ge d (sT A i b)) :
    InS s.length far src A (resL A f A.length) π (d.set (sT A i b) (ge d (sF A i b) + sC A i b)) (pr.set (sT A i b) (j : Int)) (j + 1) true M := by
  have h256 := hV.n
  have hlo := fun v (hv : v < s.length) => h.lo h256 hfar hv
  obtain ⟨ch, h1, h2, h3, h4⟩ := h
  have hm := mem_resL.1 (List.mem_of_getElem? hj)
  have hi := hm.1
  have hu := sF_lt hV hi b
  have hv := sT_lt hV hi b
  have hc := sC_bd hV hi b
  have hbu := (hlo _ hu).resolve_left hf
  have g := h1.relax hj hu hv hc (hp i b ⟨hi, hm.2⟩) hf (Or.inr hlt) (by omega)
  have hme := mea_lt (V := s.length) (d := d) h1.bf.len (fun v hv' => by have := hlo v hv'; omega) hv hlt (by omega)
  exact ⟨_, g, fun e => (by cases e), by omega, fun _ => by omega⟩
/-- The search has come to its end. -/
def OutS (V : Nat) (far : Int) (src : Nat → Prop) (A : List Ark) (L : List (Nat × Bool)) (π : Nat → Int) (d pr : List Int) : Prop := ∃ ch, Se V far src A L π d pr ch ∧ Settled far A L d
theorem InS.done {V : Nat} {far : Int} {src : Nat → Prop} {A : List Ark} {L : List (Nat × Bool)} {π : Nat → Int} {d pr : List Int} {M : Nat} (h : InS V far src A L π d pr L.length false M) : OutS V far src A L π d pr := by
  obtain ⟨ch, h1, h2, _⟩ := h
  exact ⟨ch, h1, fun t i b ht => h2 rfl t i b (List.getElem?_eq_some_iff.1 ht).1 ht⟩
/-- The loop that begins the search. -/
structure Di (V : Nat) (xs d pr : List Int) (v : Nat) : Prop where
  dl : d.length = V
  pl : pr.length = V
  dv : ∀ u, u < V → ge d u = if u < v ∧ ge xs u ≤ 0 then farP else 0
  pv : ∀ u, u < V → u < v → ge pr u = -1
theorem Di.begin (V : Nat) (xs : List Int) : Di V xs (List.replicate V 0) (List.replicate V 0) 0 :=
  ⟨by simp, by simp, fun u hu => by rw [if_neg (by omega), ge_eq _ (by simpa using hu)]; simp, fun u _ h => by omega⟩
theorem Di.pos {V : Nat} {xs d pr : List Int} {v : Nat} (h : Di V xs d pr v) (hv : v < V) (hx : ¬ ge xs v ≤ 0) : Di V xs d (pr.set v (-1)) (v + 1) := by
  refine ⟨h.dl, by rw [List.length_set]; exact h.pl, fun u hu => ?_, fun u hu huv => ?_⟩
  · rw [h.dv u hu]
    by_cases e : u = v
    · subst e; rw [if_neg (by omega), if_neg (by omega)]
    · by_cases e2 : u < v ∧ ge xs u ≤ 0
      · rw [if_pos e2, if_pos (by omega)]
      · rw [if_neg e2, if_neg (by omega)]
  · rw [ge_set pr (by rw [h.pl]; exact hv)]
    split
    · rfl
    · exact h.pv u hu (by omega)
theorem Di.non {V : Nat} {xs d pr : List Int} {v : Nat} (h : Di V xs d pr v) (hv : v < V) (hx : ge xs v ≤ 0) : Di V xs (d.set v farP) (pr.set v (-1)) (v + 1) := by
  refine ⟨by rw [List.length_set]; exact h.dl, by rw [List.length_set]; exact h.pl, fun u hu => ?_, fun u hu huv => ?_⟩
  · rw [ge_set d (by rw [h.dl]; exact hv), h.dv u hu]
    by_cases e : u = v
    · subst e; rw [if_pos rfl, if_pos (by omega)]
    · rw [if_neg e]
      by_cases e2 : u < v ∧ ge xs u ≤ 0
      · rw [if_pos e2, if_pos (by omega)]
      · rw [if_neg e2, if_neg (by omega)]
  · rw [ge_set pr (by rw [h.pl]; exact hv)]
    split
    · rfl
    · exact h.pv u hu (by omega)
theorem Di.done {V : Nat} {xs d pr : List Int} (h : Di V xs d pr V) (A : List Ark) (L : List (Nat × Bool)) (π : Nat → Int) : ∃ ch, Se V farP (fun v => 0 < ge xs v) A L π d pr ch :=
  ⟨_, Se.begin (by decide) h.dl h.pl (fun v hv => ⟨fun hs => by rw [h.dv v hv, if_neg (by omega)], fun hs => by rw [h.dv v hv, if_pos (by omega)]⟩) (fun v hv => h.pv v hv hv)⟩
/-- At the head of the search's outer loop. -/
def HdS (V : Nat) (far : Int) (src : Nat → Prop) (A : List Ark) (L : List (Nat × Bool)) (π : Nat → Int) (d pr : List Int) (more : Bool) (gk : Nat) : Prop :=
  (more = true ∧ (∃ ch, Se V far src A L π d pr ch) ∧ mea V d + 1 ≤ gk) ∨ (more = false ∧ OutS V far src A L π d pr)
theorem HdS.start {V : Nat} {far : Int} {src : Nat → Prop} {A : List Ark} {L : List (Nat × Bool)} {π : Nat → Int} {d pr : List Int} {gk : Nat} (h : HdS V far src A L π d pr true gk) : InS V far src A L π d pr 0 false (mea V d) ∧ mea V d + 1 ≤ gk := by
  rcases h with ⟨_, ⟨ch, h1⟩, h2⟩ | ⟨h1, _⟩
  · exact ⟨⟨ch, h1, fun _ t _ _ ht => (by omega), Nat.le_refl _, fun e => (by cases e)⟩, h2⟩
  · cases h1
theorem HdS.out {V : Nat} {far : Int} {src : Nat → Prop} {A : List Ark} {L : List (Nat × Bool)} {π : Nat → Int} {d pr : List Int} {gk : Nat} (h : HdS V far src A L π d pr false gk) : OutS V far src A L π d pr := by
  rcases h with ⟨h1, _⟩ | ⟨_, h1⟩
  · cases h1
  · exact h1
theorem InS.next {V : Nat} {far : Int} {src : Nat → Prop} {A : List Ark} {L : List (Nat × Bool)} {π : Nat → Int} {d pr : List Int} {M : Nat} {more : Bool} {gk : Nat} (h : InS V far src A L π d pr L.length more M) (hM : M + 1 ≤ gk) :
    ∃ g, g < gk ∧ HdS V far src A L π d pr more g := by
  cases more
  · exact ⟨0, by omega, Or.inr ⟨rfl, h.done⟩⟩
  · obtain ⟨ch, h1, _, _, h2⟩ := h
    exact ⟨mea V d + 1, by have := h2 rfl; omega, Or.inl ⟨rfl, ⟨ch, h1⟩, Nat.le_refl _⟩⟩
theorem Owns.ne01 {w : World} {B : Nat} {g g' n n' : Nat} {xs ys : List Int} (h : Owns w B [rI g n xs, rI g' n' ys]) : g ≠ g' := by
  have := h.2 0 1 _ _ rfl rfl (by decide) g rfl
  intro e
  subst e
  exact this rfl
theorem own_two {w : World} {B : Nat} (hB : B ≤ w.heap.size) (a c : Nat) (ha : a ≤ 1000) (hc : c ≤ 1000) :
    Owns ((w.alloc (.cells (Array.replicate a (.int .i64 0)) 3)).alloc (.cells (Array.replicate c (.int .i64 0)) 3)) B [rI w.heap.size a (List.replicate a 0), rI (w.heap.size + 1) c (List.replicate c 0)] ∧
    Owns ((w.alloc (.cells (Array.replicate c (.int .i64 0)) 3)).alloc (.cells (Array.replicate a (.int .i64 0)) 3)) B [rI (w.heap.size + 1) a (List.replicate a 0), rI w.heap.size c (List.replicate c 0)] := by
  refine ⟨?_, ?_⟩
  · exact (own_newI (own_newI (Owns.nil w B) hB a _ (by omega) rfl) (by simp; omega) c _ (by omega) (by simp)).perm (List.Perm.swap _ _ _)
  · exact own_newI (own_newI (Owns.nil w B) hB c _ (by omega) rfl) (by simp; omega) a _ (by omega) (by simp)

set_option maxHeartbeats 16000000 in
theorem search_p (pv r : Option Addr) (nl cv V cr : Nat) (s xs : List Int) (A : List Ark) (f : List Int) (π : Nat → Int) (w : World) (hV : vN s A) (hp : Pot A f π) (hS : Stps w pv A f (resL A f A.length)) (hX : Ints w r xs) (hl : (resL A f A.length).length = nl) (hn : s.length = V) (hx : xs.length = V) :
    Calls Try.prog 34 #[.agg #[.slice pv nl cv, .func (.func 32) #[] #[]], .slice r V cr] w fun e w' => Grew w w' ∧ ∃ g6 g7 d pr, e = .returned (.tuple #[.slice (some ⟨g6, 0, none⟩) V V, .slice (some ⟨g7, 0, none⟩) V V]) ∧
      Owns w' w.heap.size [rI g6 V d, rI g7 V pr] ∧ OutS V farP (fun v => 0 < ge xs v) A (resL A f A.length) π d pr := by
  subst hl hn
  have h256 := hV.n
  have hl4096 : (resL A f A.length).length ≤ 4096 := by have := resL_len A f A.length; have := hV.m; omega
  have HV := Lib.hid hV
  have HP := Lib.hid hp
  have HS := Lib.hid hS
  have HX := Lib.hid hX
  have Hx := Lib.hid hx
  obtain ⟨L, hL⟩ : ∃ L, resL A f A.length = L := ⟨_, rfl⟩
  rw [hL] at HS hl4096 ⊢
  have HL := Lib.hid hL
  have hmk := make_ints s.length (by omega)
  have Hm : Hid (∀ (t i : Nat) (b : Bool), L[t]? = some (i, b) → i < A.length) := Lib.hid (fun t i b ht => by rw [← HL.out] at ht; exact (mem_resL.1 (List.mem_of_getElem? ht)).1)
  clear hV hp hS hX hL hx
  go_enter Try.func34, Try.ntmps34
  go_upto_region 1 with fail
  obtain ⟨wz, hwz⟩ : ∃ wz, w.alloc (.cells #[.slice pv L.length cv, .func (.func 32) #[] #[]] 44) = wz := ⟨_, rfl⟩
  have x0 : wz.cell? ⟨w.heap.size, 0, none⟩ = some (.slice pv L.length cv) := by rw [← hwz]; simp [go_sem]
  have x1 : wz.cell? ⟨w.heap.size, 1, none⟩ = some (.func (.func 32) #[] #[]) := by rw [← hwz]; simp [go_sem]
  have Hgz : Hid (Grew w wz) := Lib.hid (by rw [← hwz]; (repeat (first | exact Grew.refl _ | refine Grew.over ?_ _ | refine Grew.alloc ?_ _ | refine Grew.drew ?_ | refine Grew.drewN ?_ _)))
  have hbz : w.heap.size < wz.heap.size := by rw [← hwz]; simp
  rw [hwz]
  clear hwz
  go_cut [6, 7] (fun v6 v7 wx => ∃ g6 g7 : Nat, v6 = .slice (some ⟨g6, 0, none⟩) s.length s.length ∧ v7 = .slice (some ⟨g7, 0, none⟩) s.length s.length ∧ Grew wz wx ∧ Owns wx wz.heap.size [rI g6 s.length (List.replicate s.length 0), rI g7 s.length (List.replicate s.length 0)])
  case first =>
    go_region
    · go_wp2_with fail
      go_meet
      exact ⟨_, _, rfl, rfl, by (repeat (first | exact Grew.refl _ | refine Grew.over ?_ _ | refine Grew.alloc ?_ _ | refine Grew.drew ?_ | refine Grew.drewN ?_ _)), (own_two (Nat.le_refl _) s.length s.length (by omega) (by omega)).1.grew (by (repeat (first | exact Grew.refl _ | refine Grew.over ?_ _ | refine Grew.alloc ?_ _ | refine Grew.drew ?_ | refine Grew.drewN ?_ _)))⟩
    · go_wp2_with fail
      go_meet
      exact ⟨_, _, rfl, rfl, by (repeat (first | exact Grew.refl _ | refine Grew.over ?_ _ | refine Grew.alloc ?_ _ | refine Grew.drew ?_ | refine Grew.drewN ?_ _)), (own_two (Nat.le_refl _) s.length s.length (by omega) (by omega)).2.grew (by (repeat (first | exact Grew.refl _ | refine Grew.over ?_ _ | refine Grew.alloc ?_ _ | refine Grew.drew ?_ | refine Grew.drewN ?_ _)))⟩
  case rest =>
    obtain ⟨g6, g7, rfl, rfl, hg1, hO1⟩ := hcut
    have HO1 := Lib.hid hO1
    have Hg1 := Lib.hid hg1
    have Hx0 := Lib.hid x0
    have Hx1 := Lib.hid x1
    clear hO1 hg1 x0 x1 hmk
    have Hgw0 : Hid (w.heap.size < wz.heap.size) := Lib.hid hbz
    clear hbz
    go_wp2
    go_loopw [22] (fun v22 wr => ∃ (v : Nat) (d pr : List Int), v ≤ s.length ∧ v22 = .int .i64 v ∧ Di s.length xs d pr v ∧ Owns wr wz.heap.size [rI g6 s.length d, rI g7 s.length pr] ∧ Grew wz wr) (fun v22 _ => s.length - (intOf v22).toNat)
    case atStart => exact ⟨0, _, _, Nat.zero_le _, rfl, Di.begin _ _, HO1.out, Hg1.out⟩
    case round =>
      clear HO1 Hg1
      obtain ⟨v, d, pr, hv, rfl, hD, hO, hg⟩ := hrel
      have HD := Lib.hid hD
      have HO := Lib.hid hO
      have Hg := Lib.hid hg
      clear hD hO hg
      by_cases hlt : v < s.length
      · obtain ⟨bx, ox, hx3, hx4⟩ := (HX.out.grew (Hgz.out.trans Hg.out)).open
        obtain ⟨rfl, hbx⟩ := hx3 (by have := Hx.out; omega)
        have cx := hx4 v (by have := Hx.out; omega)
        have e7 := own_atI HO.out (j := 1) rfl (i := v) hlt
        have b7 := own_lt HO.out (j := 1) rfl
        have f7 := own_fr HO.out (j := 1) rfl v
        have HO2 := Lib.hid (own_setI HO.out (j := 1) rfl v (-1))
        have Hg2 := Lib.hid (HO.out.setGrew (w0 := wz) (Nat.le_refl _) Hg.out (k := 1) rfl v (.int .i64 (-1)))
        obtain ⟨xv, hxv⟩ : ∃ x, ge xs v = x := ⟨_, rfl⟩
        rw [hxv] at cx
        clear hx3 hx4
        have Hxv := Lib.hid hxv
        clear hxv
        go_upto_region 6 with fail
        obtain ⟨w2, hw2⟩ : ∃ w2, wr.setCell ⟨g7, v, none⟩ (.int .i64 (-1)) = w2 := ⟨_, rfl⟩
        have HO2' : Hid (Owns w2 wz.heap.size [rI g6 s.length d, rI g7 s.length (pr.set v (-1))]) := Lib.hid (by rw [← hw2]; exact HO2.out)
        have Hg2' : Hid (Grew wz w2) := Lib.hid (by rw [← hw2]; exact Hg2.out)
        rw [hw2]
        clear hw2 HO2 Hg2 HO Hg cx b7 f7 e7
        have e6 := own_atI HO2'.out (j := 0) rfl (i := v) hlt
        have b6 := own_lt HO2'.out (j := 0) rfl
        have f6 := own_fr HO2'.out (j := 0) rfl
        replace f6 := f6 v
        have HO3 := Lib.hid (own_setI HO2'.out (j := 0) rfl v farP)
        have Hg3 := Lib.hid (HO2'.out.setGrew (w0 := wz) (Nat.le_refl _) Hg2'.out (k := 0) rfl v (.int .i64 farP))
        by_cases hx0 : xv ≤ 0
        · have HD2 := Lib.hid (HD.out.non hlt (by rw [Hxv.out]; exact hx0))
          go_wp2
          go_roundw
          case rel => exact ⟨v + 1, _, _, by omega, by go_num, HD2.out, HO3.out, Hg3.out⟩
          case measure => simp [intOf]; omega
        · have HD2 := Lib.hid (HD.out.pos hlt (by rw [Hxv.out]; exact hx0))
          go_wp2
          go_roundw
          case rel => exact ⟨v + 1, _, _, by omega, by go_num, HD2.out, HO2'.out, Hg2'.out⟩
          case measure => simp [intOf]; omega
      · have hve : v = s.length := by omega
        subst hve
        obtain ⟨ch0, hch0⟩ := HD.out.done A L π
        have HH0 : Hid (HdS s.length farP (fun v => 0 < ge xs v) A L π d pr true (mea s.length d + 1)) := Lib.hid (Or.inl ⟨rfl, ⟨ch0, hch0⟩, Nat.le_refl _⟩)
        clear HD hch0
        go_wp2
        go_loopg [10] (mea s.length d + 1) (fun gk v10 wr => ∃ (more : Bool) (d pr : List Int), v10 = .bool more ∧ HdS s.length farP (fun v => 0 < ge xs v) A L π d pr more gk ∧ Owns wr wz.heap.size [rI g6 s.length d, rI g7 s.length pr] ∧ Grew wz wr)
        case atStart => exact ⟨true, d, pr, rfl, HH0.out, HO.out, Hg.out⟩
        case round =>
          clear HH0 HO Hg
          obtain ⟨more, d, pr, rfl, hH, hO, hg⟩ := hrel
          have HO := Lib.hid hO
          have Hg := Lib.hid hg
          clear hO hg
          cases more
          · have HH := Lib.hid hH.out
            clear hH
            go_wp2
            go_ret2
            exact ⟨Hgz.out.trans Hg.out, g6, g7, d, pr, rfl, HO.out.base (Nat.le_of_lt Hgw0.out), HH.out⟩
          · obtain ⟨hI, hM⟩ := hH.start
            have HI := Lib.hid hI
            have HM := Lib.hid hM
            clear hI hM hH
            obtain ⟨M, hMe⟩ : ∃ M, mea s.length d = M := ⟨_, rfl⟩
            rw [hMe] at HI HM
            clear hMe
            have x0 := Hg.out.cellEq Hx0.out
            go_wp2
            go_loopw [10, 40] (fun v10 v40 wr => ∃ (j : Nat) (d pr : List Int) (c : Bool), j ≤ L.length ∧ v40 = .int .i64 j ∧ v10 = .bool c ∧ InS s.length farP (fun v => 0 < ge xs v) A L π d pr j c M ∧ Owns wr wz.heap.size [rI g6 s.length d, rI g7 s.length pr] ∧ Grew wz wr) (fun _ v40 _ => L.length - (intOf v40).toNat)
            case atStart => exact ⟨0, d, pr, false, Nat.zero_le _, rfl, rfl, HI.out, HO.out, Hg.out⟩
            case round =>
              clear HI HO Hg x0
              obtain ⟨j, d, pr, c, hj, rfl, rfl, hI, hO, hg⟩ := hrel
              have HI := Lib.hid hI
              have HO := Lib.hid hO
              have Hg := Lib.hid hg
              clear hI hO hg
              by_cases hlt : j < L.length
              · obtain ⟨⟨i, b⟩, hib⟩ : ∃ x, L[j]? = some x := ⟨_, List.getElem?_eq_getElem hlt⟩
                have hi := Hm.out j i b hib
                have hibL := hib
                rw [← HL.out] at hibL
                obtain ⟨gS, g1, g2⟩ := HS.out.grew (Hgz.out.trans Hg.out)
                obtain ⟨rfl, hgS⟩ := g1 (by omega)
                obtain ⟨c0, c1, c2, c3, c4, c5⟩ := g2 j i b hib
                have x0 := Hg.out.cellEq Hx0.out
                have x1 := Hg.out.cellEq Hx1.out
                have hu := sF_lt HV.out hi b
                have hv := sT_lt HV.out hi b
                have hcb := (HV.out.a i hi).2.2.2
                have hsc := sC_bd HV.out hi b
                have hbu := HI.out.lo h256 (by decide) hu
                obtain ⟨u, eu⟩ : ∃ u, sF A i b = u := ⟨_, rfl⟩
                obtain ⟨v, ev⟩ : ∃ v, sT A i b = v := ⟨_, rfl⟩
                obtain ⟨co, eco⟩ : ∃ x, cst A i = x := ⟨_, rfl⟩
                obtain ⟨sc, esc⟩ : ∃ x, sC A i b = x := ⟨_, rfl⟩
                obtain ⟨ro, ero⟩ : ∃ x, sR A f i b = x := ⟨_, rfl⟩
                have hpr : (if b then -co else co) = sc := by rw [← eco, ← esc]; rfl
                have Hpr := Lib.hid hpr
                obtain ⟨du, edu⟩ : ∃ x, ge d u = x := ⟨_, rfl⟩
                obtain ⟨dv, edv⟩ : ∃ x, ge d v = x := ⟨_, rfl⟩
                have hbv := HI.out.lo h256 (by decide) hv
                have hsame := fun h => HI.out.same hib h
                have hrel2 := fun (h1 : ge d (sF A i b) ≠ farP) (h2 : ge d (sF A i b) + sC A i b < ge d (sT A i b)) => (by
                  have h := HI.out
                  rw [← HL.out] at h
                  have := h.relax HV.out HP.out (by decide) hibL h1 h2
                  rw [HL.out] at this
                  exact this : InS s.length farP (fun v => 0 < ge xs v) A L π (d.set (sT A i b) (ge d (sF A i b) + sC A i b)) (pr.set (sT A i b) (j : Int)) (j + 1) true M)
                rw [eu] at c0 hu hbu
                rw [ev] at c1 hv hbv
                rw [eco] at c2 hcb
                rw [ero] at c3
                rw [esc] at hsc
                rw [eu, ev, esc, edu, edv] at hsame hrel2
                rw [edu] at hbu
                rw [edv] at hbv
                have Hedv := Lib.hid edv
                have Hsame := Lib.hid hsame
                have Hrel2 := Lib.hid hrel2
                have Hbv := Lib.hid hbv
                have e0 := own_atI HO.out (j := 0) rfl (i := u) hu
                rw [edu] at e0
                clear hsame hrel2 eu ev eco esc ero hpr edu edv hib hibL g1 g2 hbv
                go_upto_region 15 with fail
                obtain ⟨w3, hw3⟩ : ∃ w3, wr.alloc (.cells #[.int .i64 (u : Int), .int .i64 (v : Int), .int .i64 co, .int .i64 ro, .int .i64 (i : Int), .bool b] 54) = w3 := ⟨_, rfl⟩
                obtain ⟨aw, haw⟩ : ∃ aw, wr.heap.size = aw := ⟨_, rfl⟩
                have z0 : w3.cell? ⟨aw, 0, none⟩ = some (.int .i64 (u : Int)) := by rw [← hw3, ← haw]; simp [go_sem]
                have z1 : w3.cell? ⟨aw, 1, none⟩ = some (.int .i64 (v : Int)) := by rw [← hw3, ← haw]; simp [go_sem]
                have z2 : w3.cell? ⟨aw, 2, none⟩ = some (.int .i64 co) := by rw [← hw3, ← haw]; simp [go_sem]
                have z3 : w3.cell? ⟨aw, 3, none⟩ = some (.int .i64 ro) := by rw [← hw3, ← haw]; simp [go_sem]
                have z4 : w3.cell? ⟨aw, 4, none⟩ = some (.int .i64 (i : Int)) := by rw [← hw3, ← haw]; simp [go_sem]
                have z5 : w3.cell? ⟨aw, 5, none⟩ = some (.bool b) := by rw [← hw3, ← haw]; simp [go_sem]
                have hg3 : Grew wr w3 := by rw [← hw3]; (repeat (first | exact Grew.refl _ | refine Grew.over ?_ _ | refine Grew.alloc ?_ _ | refine Grew.drew ?_ | refine Grew.drewN ?_ _))
                have ha3 : aw < w3.heap.size := by rw [← hw3, ← haw]; simp
                have hga : g6 < aw := by have := own_lt HO.out (j := 0) rfl; omega
                have hga7 : g7 < aw := by have := own_lt HO.out (j := 1) rfl; omega
                have HO3 := Lib.hid (HO.out.grew hg3)
                have Hg3 := Lib.hid (Hg.out.trans hg3)
                replace x0 := hg3.cellEq x0
                replace x1 := hg3.cellEq x1
                replace e0 := hg3.cellEq e0
                rw [hw3, haw]
                clear hw3 haw hg3 c0 c1 c2 c3 c4 c5 HO Hg hgS
                by_cases hfa : du = farP
                · subst hfa
                  have HI2 := Lib.hid (Hsame.out (Or.inl rfl))
                  go_wp2
                  go_roundw
                  case rel => exact ⟨j + 1, d, pr, c, by omega, by go_num, rfl, HI2.out, HO3.out, Hg3.out⟩
                  case measure => simp [intOf]; omega
                obtain ⟨hb1, hb2⟩ := hbu.resolve_left hfa
                have hq1 : (du == 1152921504606846976) = false := by rw [beq_eq_false_iff_ne]; exact hfa
                have hq2 : ¬ du = 1152921504606846976 := hfa
                have hwr : IntKind.i64.wrap (du + sc) = du + sc := IntWalk.i64_in _ ⟨by omega, by omega⟩
                clear hbu hfa
                have hbw := Nat.lt_of_lt_of_le Hgw0.out Hg3.out.below.size
                go_upto_region 16 with fail
                refine wp_region_over (by kernel_rfl) (by kernel_rfl) ?_; (repeat (go_big_quiet_step ((go_at_call 32; apply over_call; with_reducible exact price_e Hpr.out hcb)))); refine wpQuiet_nil ?_; intro w4 hW; replace hW : Grew _ w4 := hW
                have HO4 := Lib.hid (HO3.out.grew hW)
                have Hg4 := Lib.hid (Hg3.out.trans hW)
                replace z1 := hW.cellEq z1
                have ha4 := Nat.lt_of_lt_of_le ha3 hW.below.size
                clear hW z0 z2 z3 z4 z5 e0 x0 x1 HO3 Hg3 ha3
                have e1 := own_atI HO4.out (j := 0) rfl (i := v) hv
                rw [Hedv.out] at e1
                by_cases hlt2 : du + sc < dv
                · have HI5 := Lib.hid (Hrel2.out hq2 hlt2)
                  have b6 := own_lt HO4.out (j := 0) rfl
                  have f6 := own_fr HO4.out (j := 0) rfl v
                  have HO5 := Lib.hid (own_setI HO4.out (j := 0) rfl v (du + sc))
                  have Hg5 := Lib.hid (HO4.out.setGrew (w0 := wz) (Nat.le_refl _) Hg4.out (k := 0) rfl v (.int .i64 (du + sc)))
                  have b7 := own_lt HO4.out (j := 1) rfl
                  have f7 := own_fr HO4.out (j := 1) rfl v
                  have HO6 := Lib.hid (own_setI HO5.out (j := 1) rfl v (j : Int))
                  have Hg6 := Lib.hid (HO5.out.setGrew (w0 := wz) (Nat.le_refl _) Hg5.out (k := 1) rfl v (.int .i64 (j : Int)))
                  have e2 := own_atI HO4.out (j := 1) rfl (i := v) hv
                  have n67 : g6 ≠ g7 := HO4.out.ne01
                  have n76 : g7 ≠ g6 := Ne.symm n67
                  have n6a : g6 ≠ aw := by omega
                  have n7a : g7 ≠ aw := by omega
                  have na6 : aw ≠ g6 := by omega
                  have na7 : aw ≠ g7 := by omega
                  go_upto_region 18 with fail
                  refine wp_region_lex (Two 9 11 (fun b c => if c then (w4.setCell ⟨g6, v, none⟩ (.int .i64 (du + sc))).setCell ⟨g7, v, none⟩ (.int .i64 (j : Int)) else if b then w4.setCell ⟨g6, v, none⟩ (.int .i64 (du + sc)) else w4)) (by kernel_rfl) (by kernel_rfl) ?_ ?_
                  · (repeat (first | exact Grew.refl _ | refine Grew.over ?_ _ | refine Grew.alloc ?_ _ | refine Grew.drew ?_ | refine Grew.drewN ?_ _))
                  repeat (first
                    | (refine lex_skip rfl ?_ ?_
                       · exact Two.keep (by decide) (by decide)
                       (try simp only [Act.put, List.setIfInBounds_toArray, List.set_cons_zero, List.set_cons_succ]))
                    | (refine lex_pure (v := ?_) rfl ?_ (fun d w hd hr hC => ?_) ?_
                       rotate_left
                       · exact Two.keep (by decide) (by decide)
                       · (first
                           | (have hs1 := closed_undone (s := 9) hr.2 rfl (by decide +kernel) hd; have hs2 := closed_undone (s := 11) hr.2 rfl (by decide +kernel) hd; unfold Two at hC; rw [hs1, hs2] at hC; obtain ⟨x, rfl⟩ := hC; simp [go_sem, ↓IntWalk.iteOmega, z1, e1, e2, f6, f7, n67, n76, n6a, n7a, na6, na7, Nat.not_le.2 b6, Nat.not_le.2 b7]; try rfl)
                           | (have hs2 := closed_undone (s := 11) hr.2 rfl (by decide +kernel) hd; unfold Two at hC; rw [hs2] at hC; cases hs1 : d 9 <;> rw [hs1] at hC <;> obtain ⟨x, rfl⟩ := hC <;> simp [go_sem, ↓IntWalk.iteOmega, z1, e1, e2, f6, f7, n67, n76, n6a, n7a, na6, na7, Nat.not_le.2 b6, Nat.not_le.2 b7] <;> (try rfl))
                           | (obtain ⟨x, rfl⟩ := hC; simp [go_sem, ↓IntWalk.iteOmega, z1, e1, e2, f6, f7, n67, n76, n6a, n7a, na6, na7, Nat.not_le.2 b6, Nat.not_le.2 b7]; try rfl))
                       (try simp only [Act.put, List.setIfInBounds_toArray, List.set_cons_zero, List.set_cons_succ]))
                    | (refine lex_store rfl (fun d w hd hr hC => ?_) ?_
                       · (first
                           | (have hs2 := closed_undone (s := 11) hr.2 rfl (by decide +kernel) hd; unfold Two at hC ⊢; rw [mark_same, mark_other _ (by decide), hs2]; rw [hd, hs2] at hC; obtain ⟨x, rfl⟩ := hC; refine ⟨?_, ?_, ?_⟩; rotate_left; (simp [go_sem, ↓IntWalk.iteOmega, z1, e1, e2, f6, f7, n67, n76, n6a, n7a, na6, na7, Nat.not_le.2 b6, Nat.not_le.2 b7]; try rfl); (simp; exact ⟨_, rfl⟩))
                           | (have hs1 := ready_done (k := 9) hr.1 (by decide +kernel); unfold Two at hC ⊢; rw [mark_same, mark_other _ (by decide), hs1]; rw [hd, hs1] at hC; obtain ⟨x, rfl⟩ := hC; refine ⟨?_, ?_, ?_⟩; rotate_left; (simp [go_sem, ↓IntWalk.iteOmega, z1, e1, e2, f6, f7, n67, n76, n6a, n7a, na6, na7, Nat.not_le.2 b6, Nat.not_le.2 b7]; try rfl); (simp; exact ⟨_, rfl⟩)))
                       (try simp only [Act.put, List.setIfInBounds_toArray, List.set_cons_zero, List.set_cons_succ])))
                  refine lex_nil ?_
                  intro dLx w hd hC
                  unfold Two at hC; rw [hd 9 (by decide), hd 11 (by decide)] at hC; obtain ⟨x, rfl⟩ := hC; simp only [if_true]
                  go_wp2
                  go_roundw
                  case rel => exact ⟨j + 1, _, _, true, by omega, by go_num, rfl, HI5.out, HO6.out.grew (by (repeat (first | exact Grew.refl _ | refine Grew.over ?_ _ | refine Grew.alloc ?_ _ | refine Grew.drew ?_ | refine Grew.drewN ?_ _))), Hg6.out.trans (by (repeat (first | exact Grew.refl _ | refine Grew.over ?_ _ | refine Grew.alloc ?_ _ | refine Grew.drew ?_ | refine Grew.drewN ?_ _)))⟩
                  case measure => simp [intOf]; omega
                · have HI5 := Lib.hid (Hsame.out (Or.inr ⟨fun e => (by rw [e] at hlt2; exact hlt2 (by have : (1152921504606846976 : Int) = farP := rfl; omega)), by omega⟩))
                  go_wp2
                  go_roundw
                  case rel => exact ⟨j + 1, d, pr, c, by omega, by go_num, rfl, HI5.out, HO4.out, Hg4.out⟩
                  case measure => simp [intOf]; omega
              · have hje : j = L.length := by omega
                subst hje
                obtain ⟨g', hg', hH'⟩ := HI.out.next HM.out
                have HH' := Lib.hid hH'
                clear hH' HI
                go_wp2
                go_roundg g'
                case rel => exact ⟨c, d, pr, rfl, HH'.out, HO.out, Hg.out⟩
                case measure => omega
end Go.Proofs.Ytnnlhmialmhpfaa
