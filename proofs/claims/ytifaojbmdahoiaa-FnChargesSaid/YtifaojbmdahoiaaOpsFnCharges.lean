/- The parameters of FnCharges: how each of its structs is opened. -/
import Derived.Test.YtifaojbmdahoiaaPFnChargesx6
import Derived.Test.YtifaojbmdahoiaaOpen
import Derived.KernelRfl
namespace Go.Proofs.Ytifaojbmdahoiaa.PFnCharges
open Go.ChangeShapes Go.WideShapes Go.RowKit Go.Deep Go.Proofs.Ytifaojbmdahoiaa.Opened Go.Proofs.YtifaojbmdahoiaaW.PrintWords

/-- The pure statement of FnCharges. -/
def laws_FnCharges.Stm : Prop := ∀ (l0 : List (Int)), (l0.length ≤ maxLen) → (∀ x ∈ l0, (Lit.int .u8 x).wf = true) → ∃ k, laws_FnCharges.f k l0 = some true
end Go.Proofs.Ytifaojbmdahoiaa.PFnCharges
