/- The parameters of FnBooklets: how each of its structs is opened. -/
import Derived.Test.YtneeokmfpiacoaaPFnBookletsx2
import Derived.Test.YtneeokmfpiacoaaOpen
import Derived.KernelRfl
namespace Go.Proofs.Ytneeokmfpiacoaa.PFnBooklets
open Go.ChangeShapes Go.WideShapes Go.RowKit Go.Deep Go.Proofs.Ytneeokmfpiacoaa.Opened Go.Proofs.YtneeokmfpiacoaaW.PrintWords

/-- The pure statement of FnBooklets. -/
def laws_FnBooklets.Stm : Prop := ∀ (l0 : List (Int)), (l0.length ≤ maxLen) → (∀ x ∈ l0, (Lit.int .u8 x).wf = true) → ∃ k, laws_FnBooklets.f k l0 = some true
end Go.Proofs.Ytneeokmfpiacoaa.PFnBooklets
