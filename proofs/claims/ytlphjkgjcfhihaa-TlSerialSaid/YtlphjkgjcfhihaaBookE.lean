/- turnstilelaw01.Book: what its calls do over kinds of which it has no list. (Written by mkbooke.py.) -/
import Derived.Test.YtlphjkgjcfhihaaBase
namespace Go.Proofs.Ytlphjkgjcfhihaa
open Go.RowKit
set_option linter.unusedVariables false
set_option linter.unusedSimpArgs false

variable {w : World} {kb : Nat} {C : Array Value}
end Go.Proofs.Ytlphjkgjcfhihaa
