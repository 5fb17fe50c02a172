/- Cost of the program. -/
import Derived.Test.YtdenjldadlgniaaAsgC
set_option linter.unusedSimpArgs false
set_option linter.unusedVariables false
namespace Go.Proofs.Ytdenjldadlgniaa
open Go.RowKit

theorem contains_e {p : Option Addr} {n cap : Nat} {xs : List Int} {v : Int} {w : World} {b : Bool} (h : decide (v ∈ xs) = b) (hI : Ints w p xs) (hn : xs.length = n) :
    Calls Try.prog 55 #[.slice p n cap, .int .i64 v] w fun e w' => e = .returned (.bool b) ∧ w = w' := h ▸ contains_p p n cap xs v w hI hn

end Go.Proofs.Ytdenjldadlgniaa
