/- The parameters of FnAccounts: how each of its structs is opened. -/
import Derived.Test.YtanllimeiofaaaaPFnAccountsx4
import Derived.Test.YtanllimeiofaaaaOpen
import Derived.KernelRfl
namespace Go.Proofs.Ytanllimeiofaaaa.PFnAccounts
open Go.ChangeShapes Go.WideShapes Go.RowKit Go.Deep Go.Proofs.Ytanllimeiofaaaa.Opened Go.Proofs.YtanllimeiofaaaaW.PrintWords

/-- The pure statement of FnAccounts. -/
def laws_FnAccounts.Stm : Prop := ∀ (l0 : List (Int)), (l0.length ≤ maxLen) → (∀ x ∈ l0, (Lit.int .u8 x).wf = true) → ∃ k, laws_FnAccounts.f k l0 = some true
end Go.Proofs.Ytanllimeiofaaaa.PFnAccounts
