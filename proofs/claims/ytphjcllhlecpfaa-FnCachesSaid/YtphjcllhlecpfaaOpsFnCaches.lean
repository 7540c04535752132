/- The parameters of FnCaches: how each of its structs is opened. -/
import Derived.Test.YtphjcllhlecpfaaPFnCachesx11
import Derived.Test.YtphjcllhlecpfaaOpen
import Derived.KernelRfl
namespace Go.Proofs.Ytphjcllhlecpfaa.PFnCaches
open Go.ChangeShapes Go.WideShapes Go.RowKit Go.Deep Go.Proofs.Ytphjcllhlecpfaa.Opened Go.Proofs.YtphjcllhlecpfaaW.PrintWords

/-- The pure statement of FnCaches. -/
def laws_FnCaches.Stm : Prop := ∀ (l0 : List (Int)), (l0.length ≤ maxLen) → (∀ x ∈ l0, (Lit.int .u8 x).wf = true) → ∃ k, laws_FnCaches.f k l0 = some true
end Go.Proofs.Ytphjcllhlecpfaa.PFnCaches
