/- The law LabelsAgree. -/
import Derived.Test.YtdenjldadlgniaaLabX
set_option linter.unusedSimpArgs false
set_option linter.unusedVariables false
namespace Go.Proofs.Ytdenjldadlgniaa
open Go.RowKit
attribute [local go_sem ↓] Go.wp_at_zero Go.wp_at_succ

theorem Try.infoBoxs : (Try.prog.info? 35).map (fun i => (i.zero, i.size, i.bytes)) = some (some (.slice none 0 0), 1, 24) := by kernel_rfl
/-- A row of slices that are all the same one. -/
theorem bmat_of_owns {w : World} {B : Nat} {rs : List Row} {k : Nat} {v : Value} {e : TypeId} {j cp : Nat} {p : Option Addr} {s : List Bx} (h : Owns w B rs) (hk : rs[k]? = some ⟨v, e, 1, j, List.replicate j (.slice p s.length cp)⟩) (hI : Bxs w p s) :
    ∃ q cap, v = .slice q j cap ∧ BMat w q (List.replicate j s) := by
  rcases (h.get hk).2 with ⟨rfl, rfl⟩ | ⟨g, cap, rfl, hB, hg, hle, hmx, _, hc⟩
  · exact ⟨none, 0, rfl, BMat.nil _ _⟩
  · refine ⟨some ⟨g, 0, none⟩, cap, rfl, by simp only [maxLen] at hmx; simp; omega, g, 0, fun _ => p, fun _ => cp, fun _ => ⟨rfl, hg⟩, fun u hu => ?_⟩
    simp at hu
    rw [rep_row hu, Nat.zero_add]
    exact ⟨hc u _ (by rw [List.getElem?_replicate, if_pos hu]), hI⟩
theorem slots_e1 {p q : Option Addr} {n k cp cq : Nat} {s : List Bx} {c : List (List Int)} {w : World} {er : Int} (hd : ∀ w e w', SlotsPost s c w e w' → Grew w w' ∧ e = .returned (.tuple #[.slice none 0 0, .int .i64 0, .int .i64 er])) (hI : Bxs w p s) (hC : Mat w q c) (hn : s.length = n) (hk : c.length = k) (hcp : n ≤ cp) (hcp2 : cp ≤ 9223372036854775807) :
    Calls Try.prog 20 #[.slice p n cp, .slice q k cq] w fun e w' => e = .returned (.tuple #[.slice none 0 0, .int .i64 0, .int .i64 er]) ∧ Grew w w' :=
  (slots_p p q n k cp cq s c w hI hC hn hk hcp hcp2).mono fun e w' h => ⟨(hd w e w' h).2, (hd w e w' h).1⟩
theorem slots_e2 {p q : Option Addr} {n k cp cq : Nat} {s : List Bx} {c : List (List Int)} {w : World} {z er : Int} (hd : ∀ w e w', SlotsPost s c w e w' → Grew w w' ∧ ∃ q k cp, e = .returned (.tuple #[.slice q k cp, .int .i64 z, .int .i64 er])) (hI : Bxs w p s) (hC : Mat w q c) (hn : s.length = n) (hk : c.length = k) (hcp : n ≤ cp) (hcp2 : cp ≤ 9223372036854775807) :
    Calls Try.prog 20 #[.slice p n cp, .slice q k cq] w fun e w' => Grew w w' ∧ ∃ q k cp, e = .returned (.tuple #[.slice q k cp, .int .i64 z, .int .i64 er]) :=
  (slots_p p q n k cp cq s c w hI hC hn hk hcp hcp2).mono fun e w' h => hd w e w' h
theorem place_e2 {p q : Option Addr} {n k cp cq : Nat} {m : List (List Bx)} {c : List (List Int)} {w : World} {z er : Int} (hd : ∀ w e w', PlaceW m c w e w' → Grew w w' ∧ ∃ q k cp, e = .returned (.tuple #[.slice q k cp, .int .i64 z, .int .i64 er])) (hM : BMat w p m) (hC : Mat w q c) (hn : m.length = n) (hk : c.length = k) :
    Calls Try.prog 17 #[.slice p n cp, .slice q k cq] w fun e w' => Grew w w' ∧ ∃ q k cp, e = .returned (.tuple #[.slice q k cp, .int .i64 z, .int .i64 er]) :=
  (place_p p q n k cp cq m c w hM hC hn hk).mono fun e w' h => hd w e w' h.weak
end Go.Proofs.Ytdenjldadlgniaa
