/- The parameters of FnGaps: how each of its structs is opened. -/
import Derived.Test.YtifaojbmdahoiaaPFnGapsx3
import Derived.Test.YtifaojbmdahoiaaOpen
import Derived.KernelRfl
namespace Go.Proofs.Ytifaojbmdahoiaa.PFnGaps
open Go.ChangeShapes Go.WideShapes Go.RowKit Go.Deep Go.Proofs.Ytifaojbmdahoiaa.Opened Go.Proofs.YtifaojbmdahoiaaW.PrintWords

/-- The pure statement of FnGaps. -/
def laws_FnGaps.Stm : Prop := ∀ (l0 : List (Int)), (l0.length ≤ maxLen) → (∀ x ∈ l0, (Lit.int .u8 x).wf = true) → ∃ k, laws_FnGaps.f k l0 = some true
end Go.Proofs.Ytifaojbmdahoiaa.PFnGaps
