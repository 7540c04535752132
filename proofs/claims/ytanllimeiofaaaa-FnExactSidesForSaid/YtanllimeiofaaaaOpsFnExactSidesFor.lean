/- The parameters of FnExactSidesFor: how each of its structs is opened. -/
import Derived.Test.YtanllimeiofaaaaPFnExactSidesForx2
import Derived.Test.YtanllimeiofaaaaOpen
import Derived.KernelRfl
namespace Go.Proofs.Ytanllimeiofaaaa.PFnExactSidesFor
open Go.ChangeShapes Go.WideShapes Go.RowKit Go.Deep Go.Proofs.Ytanllimeiofaaaa.Opened Go.Proofs.YtanllimeiofaaaaW.PrintWords

/-- The pure statement of FnExactSidesFor. -/
def laws_FnExactSidesFor.Stm : Prop := ∀ (a0 : Int) (a1 : Int), ((Lit.int .i64 a0).wf = true) → ((Lit.int .i64 a1).wf = true) → ∃ k, laws_FnExactSidesFor.f k a0 a1 = some true
end Go.Proofs.Ytanllimeiofaaaa.PFnExactSidesFor
