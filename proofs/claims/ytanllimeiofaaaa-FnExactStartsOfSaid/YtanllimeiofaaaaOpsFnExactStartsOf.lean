/- The parameters of FnExactStartsOf: how each of its structs is opened. -/
import Derived.Test.YtanllimeiofaaaaPFnExactStartsOfx3
import Derived.Test.YtanllimeiofaaaaOpen
import Derived.KernelRfl
namespace Go.Proofs.Ytanllimeiofaaaa.PFnExactStartsOf
open Go.ChangeShapes Go.WideShapes Go.RowKit Go.Deep Go.Proofs.Ytanllimeiofaaaa.Opened Go.Proofs.YtanllimeiofaaaaW.PrintWords

/-- The pure statement of FnExactStartsOf. -/
def laws_FnExactStartsOf.Stm : Prop := ∀ (l0 : List (Int)) (l1 : List (Int)) (a2 : Int) (a3 : Int), (l0.length ≤ maxLen) → (∀ x ∈ l0, (Lit.int .i64 x).wf = true) → (l1.length ≤ maxLen) → (∀ x ∈ l1, (Lit.int .i64 x).wf = true) → ((Lit.int .i64 a2).wf = true) → ((Lit.int .i64 a3).wf = true) → ∃ k, laws_FnExactStartsOf.f k l0 l1 a2 a3 = some true
end Go.Proofs.Ytanllimeiofaaaa.PFnExactStartsOf
