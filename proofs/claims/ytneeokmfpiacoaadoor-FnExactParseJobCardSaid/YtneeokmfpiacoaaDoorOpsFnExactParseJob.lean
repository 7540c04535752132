/- The parameters of FnExactParseJob: how each of its structs is opened. -/
import Derived.Test.YtneeokmfpiacoaaDoorPFnExactParseJobx8
import Derived.Test.YtneeokmfpiacoaaDoorOpen
import Derived.KernelRfl
namespace Go.Proofs.YtneeokmfpiacoaaDoor.PFnExactParseJob
open Go.ChangeShapes Go.WideShapes Go.RowKit Go.Deep Go.Proofs.YtneeokmfpiacoaaDoor.Opened Go.Proofs.YtneeokmfpiacoaaDoorW.PrintWords

/-- The pure statement of FnExactParseJob. -/
def laws_FnExactParseJob.Stm : Prop := ∀ (a0 : ByteArray), (a0.size ≤ maxLen) → ∃ k, laws_FnExactParseJob.f k a0 = some true
end Go.Proofs.YtneeokmfpiacoaaDoor.PFnExactParseJob
