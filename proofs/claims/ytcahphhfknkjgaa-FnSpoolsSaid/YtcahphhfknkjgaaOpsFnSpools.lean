/- The parameters of FnSpools: how each of its structs is opened. -/
import Derived.Test.YtcahphhfknkjgaaPFnSpoolsx5
import Derived.Test.YtcahphhfknkjgaaOpen
import Derived.KernelRfl
namespace Go.Proofs.Ytcahphhfknkjgaa.PFnSpools
open Go.ChangeShapes Go.WideShapes Go.RowKit Go.Deep Go.Proofs.Ytcahphhfknkjgaa.Opened Go.Proofs.YtcahphhfknkjgaaW.PrintWords

/-- The pure statement of FnSpools. -/
def laws_FnSpools.Stm : Prop := ∀ (l0 : List (Int)), (l0.length ≤ maxLen) → (∀ x ∈ l0, (Lit.int .u8 x).wf = true) → ∃ k, laws_FnSpools.f k l0 = some true
end Go.Proofs.Ytcahphhfknkjgaa.PFnSpools
