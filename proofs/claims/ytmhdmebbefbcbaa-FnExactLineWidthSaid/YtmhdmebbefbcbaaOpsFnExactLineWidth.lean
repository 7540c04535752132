/- The parameters of FnExactLineWidth: how each of its structs is opened. -/
import Derived.Test.YtmhdmebbefbcbaaPFnExactLineWidthx1
import Derived.Test.YtmhdmebbefbcbaaOpen
import Derived.KernelRfl
namespace Go.Proofs.Ytmhdmebbefbcbaa.PFnExactLineWidth
open Go.ChangeShapes Go.WideShapes Go.RowKit Go.Deep Go.Proofs.Ytmhdmebbefbcbaa.Opened Go.Proofs.YtmhdmebbefbcbaaW.PrintWords

/-- The pure statement of FnExactLineWidth. -/
def laws_FnExactLineWidth.Stm : Prop := ∀ (l0 : List (Int)) (l1 : List (Int)), (l0.length ≤ maxLen) → (∀ x ∈ l0, (Lit.int .i64 x).wf = true) → (l1.length ≤ maxLen) → (∀ x ∈ l1, (Lit.int .i64 x).wf = true) → ∃ k, laws_FnExactLineWidth.f k l0 l1 = some true
end Go.Proofs.Ytmhdmebbefbcbaa.PFnExactLineWidth
