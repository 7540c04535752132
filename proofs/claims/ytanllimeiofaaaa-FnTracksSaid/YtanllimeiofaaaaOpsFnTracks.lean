/- The parameters of FnTracks: how each of its structs is opened. -/
import Derived.Test.YtanllimeiofaaaaPFnTracksx3
import Derived.Test.YtanllimeiofaaaaOpen
import Derived.KernelRfl
namespace Go.Proofs.Ytanllimeiofaaaa.PFnTracks
open Go.ChangeShapes Go.WideShapes Go.RowKit Go.Deep Go.Proofs.Ytanllimeiofaaaa.Opened Go.Proofs.YtanllimeiofaaaaW.PrintWords

/-- The pure statement of FnTracks. -/
def laws_FnTracks.Stm : Prop := ∀ (l0 : List (Int)), (l0.length ≤ maxLen) → (∀ x ∈ l0, (Lit.int .u8 x).wf = true) → ∃ k, laws_FnTracks.f k l0 = some true
end Go.Proofs.Ytanllimeiofaaaa.PFnTracks
