/- The parameters of FnExactSheetsFor: how each of its structs is opened. -/
import Derived.Test.YtmhdmebbefbcbaaPFnExactSheetsForx2
import Derived.Test.YtmhdmebbefbcbaaOpen
import Derived.KernelRfl
namespace Go.Proofs.Ytmhdmebbefbcbaa.PFnExactSheetsFor
open Go.ChangeShapes Go.WideShapes Go.RowKit Go.Deep Go.Proofs.Ytmhdmebbefbcbaa.Opened Go.Proofs.YtmhdmebbefbcbaaW.PrintWords

/-- The pure statement of FnExactSheetsFor. -/
def laws_FnExactSheetsFor.Stm : Prop := ∀ (a0 : Int) (a1 : Int) (a2 : Bool), ((Lit.int .i64 a0).wf = true) → ((Lit.int .i64 a1).wf = true) → ∃ k, laws_FnExactSheetsFor.f k a0 a1 a2 = some true
end Go.Proofs.Ytmhdmebbefbcbaa.PFnExactSheetsFor
