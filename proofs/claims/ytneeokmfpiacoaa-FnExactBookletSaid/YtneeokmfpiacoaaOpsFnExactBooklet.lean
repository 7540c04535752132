/- The parameters of FnExactBooklet: how each of its structs is opened. -/
import Derived.Test.YtneeokmfpiacoaaPFnExactBookletx2
import Derived.Test.YtneeokmfpiacoaaOpen
import Derived.KernelRfl
namespace Go.Proofs.Ytneeokmfpiacoaa.PFnExactBooklet
open Go.ChangeShapes Go.WideShapes Go.RowKit Go.Deep Go.Proofs.Ytneeokmfpiacoaa.Opened Go.Proofs.YtneeokmfpiacoaaW.PrintWords

/-- The pure statement of FnExactBooklet. -/
def laws_FnExactBooklet.Stm : Prop := ∀ (a0 : Int), ((Lit.int .i64 a0).wf = true) → ∃ k, laws_FnExactBooklet.f k a0 = some true
end Go.Proofs.Ytneeokmfpiacoaa.PFnExactBooklet
