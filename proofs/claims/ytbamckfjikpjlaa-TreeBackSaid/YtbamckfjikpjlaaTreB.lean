/- Names: of the program and of the reference. -/
import Derived.Test.YtbamckfjikpjlaaTreA
set_option linter.unusedSimpArgs false
set_option linter.unusedVariables false
namespace Go.Proofs.Ytbamckfjikpjlaa
open Go.RowKit
attribute [local go_sem ↓] Go.wp_at_zero Go.wp_at_succ

theorem ret_bool {a b : Bool} (h : a = b) : Ending.returned (.bool a) = .returned (.bool b) := by rw [h]
theorem ret_int {k : IntKind} {a b : Int} (h : a = b) : Ending.returned (.int k a) = .returned (.int k b) := by rw [h]

def letB (c : Int) : Bool := decide (97 ≤ c ∧ c ≤ 122 ∨ 65 ≤ c ∧ c ≤ 90 ∨ c = 95)
def digB (c : Int) : Bool := decide (48 ≤ c ∧ c ≤ 57)
def kw1 (s : ByteArray) : Bool := s.toList == [100, 105, 103, 114, 97, 112, 104]
def kw2 (s : ByteArray) : Bool := s.toList == [103, 114, 97, 112, 104]
def kw3 (s : ByteArray) : Bool := s.toList == [110, 111, 100, 101]
def kw4 (s : ByteArray) : Bool := s.toList == [101, 100, 103, 101]
def kw5 (s : ByteArray) : Bool := s.toList == [115, 101, 116]
def kw6 (s : ByteArray) : Bool := s.toList == [99, 108, 117, 115, 116, 101, 114]
def kwB (s : ByteArray) : Bool := kw1 s || kw2 s || kw3 s || kw4 s || kw5 s || kw6 s
/-- The byte at a place. -/
def ch (s : ByteArray) (i : Nat) : Int := if h : i < s.size then (s[i].toNat : Int) else 0
theorem ch_eq (s : ByteArray) {i : Nat} (h : i < s.size) : (s[i].toNat : Int) = ch s i := by simp [ch, h]
theorem ch_bd (s : ByteArray) (i : Nat) : 0 ≤ ch s i ∧ ch s i ≤ 255 := by
  unfold ch
  split
  · rename_i h
    have := UInt8.toNat_lt s[i]
    omega
  · omega
def okB (s : ByteArray) (i : Nat) : Bool := letB (ch s i) || (decide (0 < i) && digB (ch s i))
def nameB (s : ByteArray) : Bool := decide (1 ≤ s.size ∧ s.size ≤ 16) && !kwB s && decide (∀ i, i < s.size → okB s i = true)

theorem okB_eq (s : ByteArray) (k : Nat) {c : Int} (h : ch s k = c) : okB s k = decide ((97 ≤ c ∧ c ≤ 122) ∨ (65 ≤ c ∧ c ≤ 90) ∨ c = 95 ∨ 0 < k ∧ 48 ≤ c ∧ c ≤ 57) := by
  unfold okB letB digB
  rw [h, Bool.eq_iff_iff]
  simp only [Bool.or_eq_true, Bool.and_eq_true, decide_eq_true_eq]
  omega
theorem letter_p (c : Int) (w : World) (h : 0 ≤ c ∧ c ≤ 255) :
    Calls Try.prog 57 #[.int .u8 c] w fun e w' => e = .returned (.bool (letB c)) ∧ w = w' := by
  go_enter Try.func57, Try.ntmps57
  go_wp2
  all_goals
    go_ret
    exact ⟨ret_bool (by rw [Bool.eq_iff_iff]; simp [letB]; try omega), rfl⟩
theorem digit_p (c : Int) (w : World) (h : 0 ≤ c ∧ c ≤ 255) :
    Calls Try.prog 58 #[.int .u8 c] w fun e w' => e = .returned (.bool (digB c)) ∧ w = w' := by
  go_enter Try.func58, Try.ntmps58
  go_wp2
  all_goals
    go_ret
    exact ⟨ret_bool (by rw [Bool.eq_iff_iff]; simp [digB]; try omega), rfl⟩
theorem kwB_eq {s : ByteArray} {a1 a2 a3 a4 a5 a6 : Bool} (h1 : (s.toList == [100, 105, 103, 114, 97, 112, 104]) = a1) (h2 : (s.toList == [103, 114, 97, 112, 104]) = a2) (h3 : (s.toList == [110, 111, 100, 101]) = a3)
    (h4 : (s.toList == [101, 100, 103, 101]) = a4) (h5 : (s.toList == [115, 101, 116]) = a5) (h6 : (s.toList == [99, 108, 117, 115, 116, 101, 114]) = a6) : (a1 || a2 || a3 || a4 || a5 || a6) = kwB s := by
  subst h1 h2 h3 h4 h5 h6; rfl
theorem kw_cases (s : ByteArray) : (kwB s = true ∧ ((kw1 s = true) ∨ (kw1 s = false ∧ kw2 s = true) ∨ (kw1 s = false ∧ kw2 s = false ∧ kw3 s = true) ∨ (kw1 s = false ∧ kw2 s = false ∧ kw3 s = false ∧ kw4 s = true) ∨
    (kw1 s = false ∧ kw2 s = false ∧ kw3 s = false ∧ kw4 s = false ∧ kw5 s = true) ∨ (kw1 s = false ∧ kw2 s = false ∧ kw3 s = false ∧ kw4 s = false ∧ kw5 s = false ∧ kw6 s = true))) ∨
    (kwB s = false ∧ kw1 s = false ∧ kw2 s = false ∧ kw3 s = false ∧ kw4 s = false ∧ kw5 s = false ∧ kw6 s = false) := by
  unfold kwB
  cases kw1 s <;> cases kw2 s <;> cases kw3 s <;> cases kw4 s <;> cases kw5 s <;> cases kw6 s <;> simp
theorem kw_p (s : ByteArray) (w : World) :
    Calls Try.prog 47 #[.string s] w fun e w' => e = .returned (.bool (kwB s)) ∧ w = w' := by
  rcases kw_cases s with ⟨h, h1 | ⟨h1, h2⟩ | ⟨h1, h2, h3⟩ | ⟨h1, h2, h3, h4⟩ | ⟨h1, h2, h3, h4, h5⟩ | ⟨h1, h2, h3, h4, h5, h6⟩⟩ | ⟨h, h1, h2, h3, h4, h5, h6⟩
  all_goals
    have H := Lib.hid h.symm
    clear h
    try unfold kw1 at h1
    try unfold kw2 at h2
    try unfold kw3 at h3
    try unfold kw4 at h4
    try unfold kw5 at h5
    try unfold kw6 at h6
    go_enter Try.func47, Try.ntmps47
    go_wp2
    go_ret
    exact ⟨ret_bool H.out, rfl⟩

/-- The length of the word at a text's beginning. -/
def wordL (s : ByteArray) (n : Nat) : Prop := n ≤ s.size ∧ (∀ i, i < n → okB s i = true) ∧ (n < s.size → okB s n = false)
set_option maxHeartbeats 1000000 in
theorem word_p (s : ByteArray) (w : World) (hs : s.size ≤ maxLen) :
    Calls Try.prog 46 #[.string s] w fun e w' => (∃ n : Nat, e = .returned (.int .i64 n) ∧ wordL s n) ∧ w = w' := by
  unfold maxLen at hs
  go_enter Try.func46, Try.ntmps46
  go_wp2
  go_loop [3] (fun n => ∃ k : Nat, k ≤ s.size ∧ n = .int .i64 k ∧ (∀ i, i < k → okB s i = true)) (fun n => s.size - (intOf n).toNat)
  case atStart => exact ⟨0, Nat.zero_le _, rfl, fun i hi => by omega⟩
  case round =>
    obtain ⟨k, hk, rfl, hall⟩ := hrel
    have Hall := Lib.hid hall
    clear hall
    by_cases hlt : k < s.size
    · have hc := ch_eq s hlt
      have hb := ch_bd s k
      obtain ⟨c, hcc⟩ : ∃ c, ch s k = c := ⟨_, rfl⟩
      have hok : ∀ a b, letB c = a → digB c = b → okB s k = (a || (decide (0 < k) && b)) := fun a b ha hb => by unfold okB; rw [hcc, ha, hb]
      rw [hcc] at hc hb
      cases ha : letB c <;> cases hd : digB c <;> rcases Nat.eq_zero_or_pos k with h0 | h0
      all_goals
        have hh := hok _ _ ha hd
        have Hh := Lib.hid hh
        have Ha := Lib.hid ha
        have Hd := Lib.hid hd
        clear hh hok ha hd hcc
        try subst h0
        simp only [Bool.true_or, Bool.false_or, Bool.and_false, Bool.and_true, Nat.lt_irrefl, decide_false, Bool.false_and] at Hh
      all_goals
        go_wp2_with (first | (go_at_call 57; apply Calls.mono; (with_reducible exact letter_p _ _ hb); rintro e w' ⟨rfl, rfl⟩; rw [Ha.out]) | (go_at_call 58; apply Calls.mono; (with_reducible exact digit_p _ _ hb); rintro e w' ⟨rfl, rfl⟩; rw [Hd.out]))
      all_goals first
        | (go_ret; exact ⟨⟨_, ret_int (by first | rfl | simp), hk, Hall.out, fun _ => Hh.out⟩, rfl⟩)
        | (go_round
           case rel => exact ⟨_ + 1, hlt, by go_num, fun i hi => (by
             rcases Nat.lt_succ_iff_lt_or_eq.1 hi with h | h
             · exact Hall.out i h
             · rw [h]; first | exact Hh.out | exact Hh.out.trans (decide_eq_true (by omega)))⟩
           case measure => simp [intOf]; try omega)
    · go_wp2
      go_ret
      exact ⟨⟨k, rfl, hk, Hall.out, fun h => absurd h hlt⟩, rfl⟩

theorem name_long {s : ByteArray} (h : ¬ (1 ≤ s.size ∧ s.size ≤ 16)) : nameB s = false := by unfold nameB; rw [decide_eq_false h]; rfl
theorem name_kw {s : ByteArray} (h : kwB s = true) : nameB s = false := by unfold nameB; rw [h]; simp
theorem name_bad {s : ByteArray} {i : Nat} (hi : i < s.size) (h : okB s i = false) : nameB s = false := by
  unfold nameB
  rw [show decide (∀ i, i < s.size → okB s i = true) = false from decide_eq_false (fun hh => by rw [hh i hi] at h; cases h), Bool.and_false]
theorem name_ok {s : ByteArray} (h : 1 ≤ s.size ∧ s.size ≤ 16) (hk : kwB s = false) (ha : ∀ i, i < s.size → okB s i = true) : nameB s = true := by
  unfold nameB; rw [decide_eq_true h, hk, decide_eq_true ha]; rfl
theorem empty_iff (s : ByteArray) : s.toList.isEmpty = decide (s.size = 0) := by
  rw [Bool.eq_iff_iff, List.isEmpty_iff, decide_eq_true_iff, ← List.length_eq_zero_iff, ByteArray.toList_eq]; rfl
theorem isname_p (s : ByteArray) (w : World) :
    Calls Try.prog 33 #[.string s] w fun e w' => e = .returned (.bool (nameB s)) ∧ w = w' := by
  have he := empty_iff s
  by_cases h0 : s.size = 0
  · rw [decide_eq_true h0] at he
    have H := Lib.hid (name_long (s := s) (by omega))
    go_enter Try.func33, Try.ntmps33
    go_wp2
    go_ret
    exact ⟨ret_bool H.out.symm, rfl⟩
  rw [decide_eq_false h0] at he
  by_cases h16 : s.size ≤ 16
  case neg =>
    have H := Lib.hid (name_long (s := s) (by omega))
    go_enter Try.func33, Try.ntmps33
    go_wp2
    go_ret
    exact ⟨ret_bool H.out.symm, rfl⟩
  have hm : s.size ≤ maxLen := by unfold maxLen; omega
  go_enter Try.func33, Try.ntmps33
  cases hk : kwB s
  · have Hk := Lib.hid hk
    have Hno := Lib.hid (fun i hi h => name_bad (s := s) (i := i) hi h)
    have Hy := Lib.hid (name_ok (s := s) ⟨by omega, h16⟩ hk)
    clear hk
    go_wp2_with (first | (go_at_call 46; apply Calls.mono; (with_reducible exact word_p _ _ hm); rintro e w' ⟨⟨n, rfl, hn⟩, rfl⟩; have Hn := Lib.hid hn; clear hn; (rcases Nat.lt_or_ge n s.size with hlt | hge)) | (go_at_call 47; apply Calls.mono; (with_reducible exact kw_p _ _); rintro e w' ⟨rfl, rfl⟩; rw [Hk.out]))
    · have H := Lib.hid (Hno.out n hlt (Hn.out.2.2 hlt))
      go_ret
      exact ⟨ret_bool H.out.symm, rfl⟩
    · obtain ⟨h1, h2, h3⟩ := Hn.out
      have H := Lib.hid (Hy.out (fun i hi => h2 i (by omega)))
      go_ret
      exact ⟨ret_bool H.out.symm, rfl⟩
    · have h1 := Hn.out.1
      omega
  · have Hk := Lib.hid hk
    have H := Lib.hid (name_kw hk)
    clear hk
    go_wp2_with (first | (go_at_call 46; apply Calls.mono; (with_reducible exact word_p _ _ hm); rintro e w' ⟨⟨n, rfl, hn⟩, rfl⟩; have Hn := Lib.hid hn; clear hn) | (go_at_call 47; apply Calls.mono; (with_reducible exact kw_p _ _); rintro e w' ⟨rfl, rfl⟩; rw [Hk.out]))
    all_goals
      go_ret
      exact ⟨ret_bool (by rw [H.out]; try simp; try omega), rfl⟩

set_option maxHeartbeats 4000000 in
theorem name_r (s : ByteArray) (w : World) :
    Calls Try.prog 35 #[.string s] w fun e w' => e = .returned (.bool (nameB s)) ∧ w = w' := by
  by_cases h0 : s.size = 0
  · have H := Lib.hid (name_long (s := s) (by omega))
    go_enter Try.func35, Try.ntmps35
    go_wp2
    go_ret
    exact ⟨ret_bool H.out.symm, rfl⟩
  by_cases h16 : s.size ≤ 16
  case neg =>
    have H := Lib.hid (name_long (s := s) (by omega))
    go_enter Try.func35, Try.ntmps35
    go_wp2
    all_goals
      go_ret
      exact ⟨ret_bool H.out.symm, rfl⟩
  have hm : s.size ≤ maxLen := by unfold maxLen; omega
  rcases kw_cases s with ⟨h, hk⟩ | ⟨h, k1, k2, k3, k4, k5, k6⟩
  · rcases hk with h1 | ⟨h1, h2⟩ | ⟨h1, h2, h3⟩ | ⟨h1, h2, h3, h4⟩ | ⟨h1, h2, h3, h4, h5⟩ | ⟨h1, h2, h3, h4, h5, h6⟩
    all_goals
      have H := Lib.hid (name_kw h)
      clear h
      try unfold kw1 at h1
      try unfold kw2 at h2
      try unfold kw3 at h3
      try unfold kw4 at h4
      try unfold kw5 at h5
      try unfold kw6 at h6
      go_enter Try.func35, Try.ntmps35
      go_wp2
      go_ret
      exact ⟨ret_bool H.out.symm, rfl⟩
  have Hk := Lib.hid h
  unfold kw1 at k1
  unfold kw2 at k2
  unfold kw3 at k3
  unfold kw4 at k4
  unfold kw5 at k5
  unfold kw6 at k6
  have Hno := Lib.hid (fun i hi h => name_bad (s := s) (i := i) hi h)
  have Hy := Lib.hid (name_ok (s := s) ⟨by omega, h16⟩ Hk.out)
  go_enter Try.func35, Try.ntmps35
  go_wp2
  go_loop [3, 4] (fun n _ => ∃ k : Nat, k ≤ s.size ∧ n = .int .i64 k ∧ (∀ i, i < k → okB s i = true)) (fun n _ => s.size - (intOf n).toNat)
  case atStart => exact ⟨0, Nat.zero_le _, rfl, fun i hi => by omega⟩
  case round =>
    obtain ⟨k, hk, rfl, hall⟩ := hrel
    have Hall := Lib.hid hall
    clear hall
    by_cases hlt : k < s.size
    · have hc := ch_eq s hlt
      have hb := ch_bd s k
      have hnk := Hno.out k hlt
      obtain ⟨c, hcc⟩ : ∃ c, ch s k = c := ⟨_, rfl⟩
      have hok := okB_eq s k hcc
      rw [hcc] at hc hb
      have Hok := Lib.hid hok
      have Hnk := Lib.hid hnk
      clear hcc hok hnk
      have hcl : (97 ≤ c ∧ c ≤ 122) ∨ (65 ≤ c ∧ c ≤ 90) ∨ c = 95 ∨ (48 ≤ c ∧ c ≤ 57) ∨ (122 < c) ∨ (90 < c ∧ c < 97 ∧ ¬ c = 95) ∨ (57 < c ∧ c < 65) ∨ c < 48 := by omega
      rcases Nat.eq_zero_or_pos k with h0 | h0 <;> rcases hcl with h | h | h | h | h | h | h | h
      all_goals
        try subst h0
        go_wp2
        all_goals first
          | (exfalso; have hx := ‹(!c == 95) = false›; simp at hx; omega)
          | (exfalso; clear Hok Hnk Hall Hno Hy Hk; simp_all; done)
          | (exfalso; clear Hok Hnk Hall Hno Hy Hk; simp_all; omega)
          | (have H := Lib.hid (Hnk.out (Hok.out.trans (decide_eq_false (by omega))))
             go_ret
             exact ⟨ret_bool H.out.symm, rfl⟩)
          | (go_round
             case rel => exact ⟨_ + 1, hlt, by go_num, fun i hi => (by
               rcases Nat.lt_succ_iff_lt_or_eq.1 hi with h | h
               · exact Hall.out i h
               · rw [h]; exact Hok.out.trans (decide_eq_true (by omega)))⟩
             case measure => simp [intOf]; try omega)
    · have H := Lib.hid (Hy.out (fun i hi => Hall.out i (by omega)))
      go_wp2
      go_ret
      exact ⟨ret_bool H.out.symm, rfl⟩
end Go.Proofs.Ytbamckfjikpjlaa
