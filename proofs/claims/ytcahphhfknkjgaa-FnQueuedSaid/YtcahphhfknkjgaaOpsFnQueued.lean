/- The parameters of FnQueued: how each of its structs is opened. -/
import Derived.Test.YtcahphhfknkjgaaPFnQueuedx8
import Derived.Test.YtcahphhfknkjgaaOpen
import Derived.KernelRfl
namespace Go.Proofs.Ytcahphhfknkjgaa.PFnQueued
open Go.ChangeShapes Go.WideShapes Go.RowKit Go.Deep Go.Proofs.Ytcahphhfknkjgaa.Opened Go.Proofs.YtcahphhfknkjgaaW.PrintWords

/-- The pure statement of FnQueued. -/
def laws_FnQueued.Stm : Prop := ∀ (l0 : List (Int)), (l0.length ≤ maxLen) → (∀ x ∈ l0, (Lit.int .u8 x).wf = true) → ∃ k, laws_FnQueued.f k l0 = some true
end Go.Proofs.Ytcahphhfknkjgaa.PFnQueued
