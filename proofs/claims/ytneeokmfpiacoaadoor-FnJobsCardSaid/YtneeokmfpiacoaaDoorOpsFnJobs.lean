/- The parameters of FnJobs: how each of its structs is opened. -/
import Derived.Test.YtneeokmfpiacoaaDoorPFnJobsx7
import Derived.Test.YtneeokmfpiacoaaDoorOpen
import Derived.KernelRfl
namespace Go.Proofs.YtneeokmfpiacoaaDoor.PFnJobs
open Go.ChangeShapes Go.WideShapes Go.RowKit Go.Deep Go.Proofs.YtneeokmfpiacoaaDoor.Opened Go.Proofs.YtneeokmfpiacoaaDoorW.PrintWords

/-- The pure statement of FnJobs. -/
def laws_FnJobs.Stm : Prop := ∀ (l0 : List (Int)), (l0.length ≤ maxLen) → (∀ x ∈ l0, (Lit.int .u8 x).wf = true) → ∃ k, laws_FnJobs.f k l0 = some true
end Go.Proofs.YtneeokmfpiacoaaDoor.PFnJobs
