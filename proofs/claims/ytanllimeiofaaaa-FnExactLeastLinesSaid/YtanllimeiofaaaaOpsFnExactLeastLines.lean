/- The parameters of FnExactLeastLines: how each of its structs is opened. -/
import Derived.Test.YtanllimeiofaaaaPFnExactLeastLinesx2
import Derived.Test.YtanllimeiofaaaaOpen
import Derived.KernelRfl
namespace Go.Proofs.Ytanllimeiofaaaa.PFnExactLeastLines
open Go.ChangeShapes Go.WideShapes Go.RowKit Go.Deep Go.Proofs.Ytanllimeiofaaaa.Opened Go.Proofs.YtanllimeiofaaaaW.PrintWords

/-- The pure statement of FnExactLeastLines. -/
def laws_FnExactLeastLines.Stm : Prop := ∀ (l0 : List (Int)) (a1 : Int), (l0.length ≤ maxLen) → (∀ x ∈ l0, (Lit.int .i64 x).wf = true) → ((Lit.int .i64 a1).wf = true) → ∃ k, laws_FnExactLeastLines.f k l0 a1 = some true
end Go.Proofs.Ytanllimeiofaaaa.PFnExactLeastLines
