/- The parameters of FnExactWidthsOk: how each of its structs is opened. -/
import Derived.Test.YtmhdmebbefbcbaaPFnExactWidthsOkx1
import Derived.Test.YtmhdmebbefbcbaaOpen
import Derived.KernelRfl
namespace Go.Proofs.Ytmhdmebbefbcbaa.PFnExactWidthsOk
open Go.ChangeShapes Go.WideShapes Go.RowKit Go.Deep Go.Proofs.Ytmhdmebbefbcbaa.Opened Go.Proofs.YtmhdmebbefbcbaaW.PrintWords

/-- The pure statement of FnExactWidthsOk. -/
def laws_FnExactWidthsOk.Stm : Prop := ∀ (l0 : List (Int)) (a1 : Int), (l0.length ≤ maxLen) → (∀ x ∈ l0, (Lit.int .i64 x).wf = true) → ((Lit.int .i64 a1).wf = true) → ∃ k, laws_FnExactWidthsOk.f k l0 a1 = some true
end Go.Proofs.Ytmhdmebbefbcbaa.PFnExactWidthsOk
