/- The parameters of FnExactBreakLines: how each of its structs is opened. -/
import Derived.Test.YtifaojbmdahoiaaPFnExactBreakLinesx3
import Derived.Test.YtifaojbmdahoiaaOpen
import Derived.KernelRfl
namespace Go.Proofs.Ytifaojbmdahoiaa.PFnExactBreakLines
open Go.ChangeShapes Go.WideShapes Go.RowKit Go.Deep Go.Proofs.Ytifaojbmdahoiaa.Opened Go.Proofs.YtifaojbmdahoiaaW.PrintWords

/-- The pure statement of FnExactBreakLines. -/
def laws_FnExactBreakLines.Stm : Prop := ∀ (l0 : List (Int)) (a1 : Int), (l0.length ≤ maxLen) → (∀ x ∈ l0, (Lit.int .i64 x).wf = true) → ((Lit.int .i64 a1).wf = true) → ∃ k, laws_FnExactBreakLines.f k l0 a1 = some true
end Go.Proofs.Ytifaojbmdahoiaa.PFnExactBreakLines
