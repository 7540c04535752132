/- The parameters of FnSides: how each of its structs is opened. -/
import Derived.Test.YtmhdmebbefbcbaaPFnSidesx2
import Derived.Test.YtmhdmebbefbcbaaOpen
import Derived.KernelRfl
namespace Go.Proofs.Ytmhdmebbefbcbaa.PFnSides
open Go.ChangeShapes Go.WideShapes Go.RowKit Go.Deep Go.Proofs.Ytmhdmebbefbcbaa.Opened Go.Proofs.YtmhdmebbefbcbaaW.PrintWords

/-- The pure statement of FnSides. -/
def laws_FnSides.Stm : Prop := ∀ (l0 : List (Int)), (l0.length ≤ maxLen) → (∀ x ∈ l0, (Lit.int .u8 x).wf = true) → ∃ k, laws_FnSides.f k l0 = some true
end Go.Proofs.Ytmhdmebbefbcbaa.PFnSides
