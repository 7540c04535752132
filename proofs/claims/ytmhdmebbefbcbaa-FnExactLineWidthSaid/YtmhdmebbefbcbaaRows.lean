/-
  No cell of these rows narrows 'for every input' (looked for: loops, veiled, ifaces, maps, wideKeys, modest, calm, conditions, laid).
  DERIVED. THE GIVEN ROWS OF THIS SEAT. 12 by the template 'for every input the law returns true; each argument reads behind the call as it read before'; 0 by the template 'total and deterministic' (their statements: YtmhdmebbefbcbaaTotals.lean).
  GIVEN WITH THE SEED: the statements are not yours to turn. If you find one false, say at which input.
  Laid BY PROGRAM, IN A SANDBOX (cutbox-rows.mjs): the forced cells as the released guide's own fill.sh prints them over the translation d2513e56c58a4415… (all of the seat's roots in one cut). By AI agents, Wed Nov 11 2026. No macro, syntax, notation, axiom, sorry.
-/
import Derived.Test.YtmhdmebbefbcbaaChecked
import GoSem.Claim
import GoSem.ClaimJoined
import GoSem.ClaimMapViews
import Derived.JoinedTies
import Derived.KernelRfl
namespace Go.Proofs.Ytmhdmebbefbcbaa
/- THE CELL 'sum', in the pinned program and in every row, IS THE sha256 OF THE DUMP (.gsa) THAT YtmhdmebbefbcbaaProg.lean LOADS. Nothing in Lean hashes anything: it is a label: what it is worth is what the hold of that sum in a sandbox is worth. -/
noncomputable def Try.pinned : Pinned := { name := "ytmhdmebbefbcbaa", sum := "d2513e56c58a4415b9ee9176b88ceafa0475e174e457c2d1a9afda5dc0e23387", checked := Try.checked }
namespace Rows
def none {H : Type} : Left H := { results := [], args := [] }

/-- 'laws.FnExactAccountOk': WHATEVER THE INPUT: true; the input reads as it did. -/
def fnExactAccountOkSpec : ChangeSpec := { name := "fnExactAccountOk", fn := fun _ => fun
  | [d] => { results := [.lit (.bool true)], args := [d] }
  | _ => none }
def fnExactAccountOkRow : OpenClaim := { program := "ytmhdmebbefbcbaa", sum := "d2513e56c58a4415b9ee9176b88ceafa0475e174e457c2d1a9afda5dc0e23387", func := "loop.example/g00987/laws.FnExactAccountOk", spec := "fnExactAccountOk", apart := false }
def FnExactAccountOkSaid : Prop := fnExactAccountOkRow.holds Try.pinned (OpenSpec.ofChange fnExactAccountOkSpec)

/-- ITS FALSE NEIGHBOUR: 'it returns false'. Refute it at one input. -/
def fnExactAccountOkWrong : ChangeSpec := { name := "fnExactAccountOk", fn := fun _ => fun
  | [d] => { results := [.lit (.bool false)], args := [d] }
  | _ => none }
def FnExactAccountOkWrongFalsely : Prop := fnExactAccountOkRow.holds Try.pinned (OpenSpec.ofChange fnExactAccountOkWrong)

/-- 'laws.FnExactArrivalOk': WHATEVER THE INPUT: true; the input reads as it did. -/
def fnExactArrivalOkSpec : ChangeSpec := { name := "fnExactArrivalOk", fn := fun _ => fun
  | [d] => { results := [.lit (.bool true)], args := [d] }
  | _ => none }
def fnExactArrivalOkRow : OpenClaim := { program := "ytmhdmebbefbcbaa", sum := "d2513e56c58a4415b9ee9176b88ceafa0475e174e457c2d1a9afda5dc0e23387", func := "loop.example/g00987/laws.FnExactArrivalOk", spec := "fnExactArrivalOk", apart := false }
def FnExactArrivalOkSaid : Prop := fnExactArrivalOkRow.holds Try.pinned (OpenSpec.ofChange fnExactArrivalOkSpec)

/-- ITS FALSE NEIGHBOUR: 'it returns false'. Refute it at one input. -/
def fnExactArrivalOkWrong : ChangeSpec := { name := "fnExactArrivalOk", fn := fun _ => fun
  | [d] => { results := [.lit (.bool false)], args := [d] }
  | _ => none }
def FnExactArrivalOkWrongFalsely : Prop := fnExactArrivalOkRow.holds Try.pinned (OpenSpec.ofChange fnExactArrivalOkWrong)

/-- 'laws.FnExactJobOk': WHATEVER THE INPUT: true; the input reads as it did. -/
def fnExactJobOkSpec : ChangeSpec := { name := "fnExactJobOk", fn := fun _ => fun
  | [d] => { results := [.lit (.bool true)], args := [d] }
  | _ => none }
def fnExactJobOkRow : OpenClaim := { program := "ytmhdmebbefbcbaa", sum := "d2513e56c58a4415b9ee9176b88ceafa0475e174e457c2d1a9afda5dc0e23387", func := "loop.example/g00987/laws.FnExactJobOk", spec := "fnExactJobOk", apart := false }
def FnExactJobOkSaid : Prop := fnExactJobOkRow.holds Try.pinned (OpenSpec.ofChange fnExactJobOkSpec)

/-- ITS FALSE NEIGHBOUR: 'it returns false'. Refute it at one input. -/
def fnExactJobOkWrong : ChangeSpec := { name := "fnExactJobOk", fn := fun _ => fun
  | [d] => { results := [.lit (.bool false)], args := [d] }
  | _ => none }
def FnExactJobOkWrongFalsely : Prop := fnExactJobOkRow.holds Try.pinned (OpenSpec.ofChange fnExactJobOkWrong)

/-- 'laws.FnExactFreeSheets': WHATEVER THE INPUT: true; the input reads as it did. -/
def fnExactFreeSheetsSpec : ChangeSpec := { name := "fnExactFreeSheets", fn := fun _ => fun
  | [d] => { results := [.lit (.bool true)], args := [d] }
  | _ => none }
def fnExactFreeSheetsRow : OpenClaim := { program := "ytmhdmebbefbcbaa", sum := "d2513e56c58a4415b9ee9176b88ceafa0475e174e457c2d1a9afda5dc0e23387", func := "loop.example/g00987/laws.FnExactFreeSheets", spec := "fnExactFreeSheets", apart := false }
def FnExactFreeSheetsSaid : Prop := fnExactFreeSheetsRow.holds Try.pinned (OpenSpec.ofChange fnExactFreeSheetsSpec)

/-- ITS FALSE NEIGHBOUR: 'it returns false'. Refute it at one input. -/
def fnExactFreeSheetsWrong : ChangeSpec := { name := "fnExactFreeSheets", fn := fun _ => fun
  | [d] => { results := [.lit (.bool false)], args := [d] }
  | _ => none }
def FnExactFreeSheetsWrongFalsely : Prop := fnExactFreeSheetsRow.holds Try.pinned (OpenSpec.ofChange fnExactFreeSheetsWrong)

/-- 'laws.FnExactWidthsOk': WHATEVER THE INPUT: true; the input reads as it did. -/
def fnExactWidthsOkSpec : ChangeSpec := { name := "fnExactWidthsOk", fn := fun _ => fun
  | [d1, d2] => { results := [.lit (.bool true)], args := [d1, d2] }
  | _ => none }
def fnExactWidthsOkRow : OpenClaim := { program := "ytmhdmebbefbcbaa", sum := "d2513e56c58a4415b9ee9176b88ceafa0475e174e457c2d1a9afda5dc0e23387", func := "loop.example/g00987/laws.FnExactWidthsOk", spec := "fnExactWidthsOk", apart := false }
def FnExactWidthsOkSaid : Prop := fnExactWidthsOkRow.holds Try.pinned (OpenSpec.ofChange fnExactWidthsOkSpec)

/-- ITS FALSE NEIGHBOUR: 'it returns false'. Refute it at one input. -/
def fnExactWidthsOkWrong : ChangeSpec := { name := "fnExactWidthsOk", fn := fun _ => fun
  | [d1, d2] => { results := [.lit (.bool false)], args := [d1, d2] }
  | _ => none }
def FnExactWidthsOkWrongFalsely : Prop := fnExactWidthsOkRow.holds Try.pinned (OpenSpec.ofChange fnExactWidthsOkWrong)

/-- 'laws.FnExactJudgeArrival': WHATEVER THE INPUT: true; the input reads as it did. -/
def fnExactJudgeArrivalSpec : ChangeSpec := { name := "fnExactJudgeArrival", fn := fun _ => fun
  | [d] => { results := [.lit (.bool true)], args := [d] }
  | _ => none }
def fnExactJudgeArrivalRow : OpenClaim := { program := "ytmhdmebbefbcbaa", sum := "d2513e56c58a4415b9ee9176b88ceafa0475e174e457c2d1a9afda5dc0e23387", func := "loop.example/g00987/laws.FnExactJudgeArrival", spec := "fnExactJudgeArrival", apart := false }
def FnExactJudgeArrivalSaid : Prop := fnExactJudgeArrivalRow.holds Try.pinned (OpenSpec.ofChange fnExactJudgeArrivalSpec)

/-- ITS FALSE NEIGHBOUR: 'it returns false'. Refute it at one input. -/
def fnExactJudgeArrivalWrong : ChangeSpec := { name := "fnExactJudgeArrival", fn := fun _ => fun
  | [d] => { results := [.lit (.bool false)], args := [d] }
  | _ => none }
def FnExactJudgeArrivalWrongFalsely : Prop := fnExactJudgeArrivalRow.holds Try.pinned (OpenSpec.ofChange fnExactJudgeArrivalWrong)

/-- 'laws.FnExactLineWidth': WHATEVER THE INPUT: true; the input reads as it did. -/
def fnExactLineWidthSpec : ChangeSpec := { name := "fnExactLineWidth", fn := fun _ => fun
  | [d1, d2] => { results := [.lit (.bool true)], args := [d1, d2] }
  | _ => none }
def fnExactLineWidthRow : OpenClaim := { program := "ytmhdmebbefbcbaa", sum := "d2513e56c58a4415b9ee9176b88ceafa0475e174e457c2d1a9afda5dc0e23387", func := "loop.example/g00987/laws.FnExactLineWidth", spec := "fnExactLineWidth", apart := false }
def FnExactLineWidthSaid : Prop := fnExactLineWidthRow.holds Try.pinned (OpenSpec.ofChange fnExactLineWidthSpec)

/-- ITS FALSE NEIGHBOUR: 'it returns false'. Refute it at one input. -/
def fnExactLineWidthWrong : ChangeSpec := { name := "fnExactLineWidth", fn := fun _ => fun
  | [d1, d2] => { results := [.lit (.bool false)], args := [d1, d2] }
  | _ => none }
def FnExactLineWidthWrongFalsely : Prop := fnExactLineWidthRow.holds Try.pinned (OpenSpec.ofChange fnExactLineWidthWrong)

/-- 'laws.FnExactSheetsFor': WHATEVER THE INPUT: true; the input reads as it did. -/
def fnExactSheetsForSpec : ChangeSpec := { name := "fnExactSheetsFor", fn := fun _ => fun
  | [d1, d2, d3] => { results := [.lit (.bool true)], args := [d1, d2, d3] }
  | _ => none }
def fnExactSheetsForRow : OpenClaim := { program := "ytmhdmebbefbcbaa", sum := "d2513e56c58a4415b9ee9176b88ceafa0475e174e457c2d1a9afda5dc0e23387", func := "loop.example/g00987/laws.FnExactSheetsFor", spec := "fnExactSheetsFor", apart := false }
def FnExactSheetsForSaid : Prop := fnExactSheetsForRow.holds Try.pinned (OpenSpec.ofChange fnExactSheetsForSpec)

/-- ITS FALSE NEIGHBOUR: 'it returns false'. Refute it at one input. -/
def fnExactSheetsForWrong : ChangeSpec := { name := "fnExactSheetsFor", fn := fun _ => fun
  | [d1, d2, d3] => { results := [.lit (.bool false)], args := [d1, d2, d3] }
  | _ => none }
def FnExactSheetsForWrongFalsely : Prop := fnExactSheetsForRow.holds Try.pinned (OpenSpec.ofChange fnExactSheetsForWrong)

/-- 'laws.FnExactSettle': WHATEVER THE INPUT: true; the input reads as it did. -/
def fnExactSettleSpec : ChangeSpec := { name := "fnExactSettle", fn := fun _ => fun
  | [d1, d2, d3] => { results := [.lit (.bool true)], args := [d1, d2, d3] }
  | _ => none }
def fnExactSettleRow : OpenClaim := { program := "ytmhdmebbefbcbaa", sum := "d2513e56c58a4415b9ee9176b88ceafa0475e174e457c2d1a9afda5dc0e23387", func := "loop.example/g00987/laws.FnExactSettle", spec := "fnExactSettle", apart := false }
def FnExactSettleSaid : Prop := fnExactSettleRow.holds Try.pinned (OpenSpec.ofChange fnExactSettleSpec)

/-- ITS FALSE NEIGHBOUR: 'it returns false'. Refute it at one input. -/
def fnExactSettleWrong : ChangeSpec := { name := "fnExactSettle", fn := fun _ => fun
  | [d1, d2, d3] => { results := [.lit (.bool false)], args := [d1, d2, d3] }
  | _ => none }
def FnExactSettleWrongFalsely : Prop := fnExactSettleRow.holds Try.pinned (OpenSpec.ofChange fnExactSettleWrong)

/-- 'laws.FnExactReserve': WHATEVER THE INPUT: true; the input reads as it did. -/
def fnExactReserveSpec : ChangeSpec := { name := "fnExactReserve", fn := fun _ => fun
  | [d1, d2] => { results := [.lit (.bool true)], args := [d1, d2] }
  | _ => none }
def fnExactReserveRow : OpenClaim := { program := "ytmhdmebbefbcbaa", sum := "d2513e56c58a4415b9ee9176b88ceafa0475e174e457c2d1a9afda5dc0e23387", func := "loop.example/g00987/laws.FnExactReserve", spec := "fnExactReserve", apart := false }
def FnExactReserveSaid : Prop := fnExactReserveRow.holds Try.pinned (OpenSpec.ofChange fnExactReserveSpec)

/-- ITS FALSE NEIGHBOUR: 'it returns false'. Refute it at one input. -/
def fnExactReserveWrong : ChangeSpec := { name := "fnExactReserve", fn := fun _ => fun
  | [d1, d2] => { results := [.lit (.bool false)], args := [d1, d2] }
  | _ => none }
def FnExactReserveWrongFalsely : Prop := fnExactReserveRow.holds Try.pinned (OpenSpec.ofChange fnExactReserveWrong)

/-- 'laws.FnSides': WHATEVER THE INPUT: true; the input reads as it did. -/
def fnSidesSpec : ChangeSpec := { name := "fnSides", fn := fun _ => fun
  | [d] => { results := [.lit (.bool true)], args := [d] }
  | _ => none }
def fnSidesRow : OpenClaim := { program := "ytmhdmebbefbcbaa", sum := "d2513e56c58a4415b9ee9176b88ceafa0475e174e457c2d1a9afda5dc0e23387", func := "loop.example/g00987/laws.FnSides", spec := "fnSides", apart := false }
def FnSidesSaid : Prop := fnSidesRow.holds Try.pinned (OpenSpec.ofChange fnSidesSpec)

/-- ITS FALSE NEIGHBOUR: 'it returns false'. Refute it at one input. -/
def fnSidesWrong : ChangeSpec := { name := "fnSides", fn := fun _ => fun
  | [d] => { results := [.lit (.bool false)], args := [d] }
  | _ => none }
def FnSidesWrongFalsely : Prop := fnSidesRow.holds Try.pinned (OpenSpec.ofChange fnSidesWrong)

/-- 'laws.FnExactTrackOk': WHATEVER THE INPUT: true; the input reads as it did. -/
def fnExactTrackOkSpec : ChangeSpec := { name := "fnExactTrackOk", fn := fun _ => fun
  | [d] => { results := [.lit (.bool true)], args := [d] }
  | _ => none }
def fnExactTrackOkRow : OpenClaim := { program := "ytmhdmebbefbcbaa", sum := "d2513e56c58a4415b9ee9176b88ceafa0475e174e457c2d1a9afda5dc0e23387", func := "loop.example/g00987/laws.FnExactTrackOk", spec := "fnExactTrackOk", apart := false }
def FnExactTrackOkSaid : Prop := fnExactTrackOkRow.holds Try.pinned (OpenSpec.ofChange fnExactTrackOkSpec)

/-- ITS FALSE NEIGHBOUR: 'it returns false'. Refute it at one input. -/
def fnExactTrackOkWrong : ChangeSpec := { name := "fnExactTrackOk", fn := fun _ => fun
  | [d] => { results := [.lit (.bool false)], args := [d] }
  | _ => none }
def FnExactTrackOkWrongFalsely : Prop := fnExactTrackOkRow.holds Try.pinned (OpenSpec.ofChange fnExactTrackOkWrong)

/- THE SECOND FORM. 'bulk': how many values and letters a reading holds, each counted each time it is reached (what is shared counts as often as it is met; a slice's spare places count too). A statement '..UptoSaid' is the law's where the arguments, and the package variables that the reading takes, are together of bulk at most 1048576: NARROWER than '..Said'. Prove '..Said' where nothing that the law and all that it calls make is longer than what came in: it says more and counts as full. Else prove '..UptoSaid'. A law counts once. -/
mutual
def uptoBulk {H : Type} : DataW H → Nat
  | .lit (.string bytes) => bytes.length + 1
  | .lit _ => 1
  | .nil => 1
  | .ptr d => uptoBulk d + 1
  | .slice elems spare => uptoBulkAll elems + uptoBulkAll spare + 1
  | .agg parts => uptoBulkAll parts + 1
  | .iface _ d => uptoBulk d + 1
  | .map entries => uptoBulkEntries entries + 1
  | .held _ => 1
def uptoBulkAll {H : Type} : List (DataW H) → Nat
  | [] => 0
  | d :: r => uptoBulk d + uptoBulkAll r
def uptoBulkEntries {H : Type} : List (Lit × DataW H) → Nat
  | [] => 0
  | x :: r => uptoBulkEntry x + uptoBulkEntries r
def uptoBulkEntry {H : Type} : Lit × DataW H → Nat
  | (.string bytes, d) => bytes.length + uptoBulk d + 1
  | (_, d) => uptoBulk d + 1
 end
def uptoSmall : (H : Type) → List (DataW H) → Bool := fun _ ds => decide (uptoBulkAll ds ≤ 1048576)
def OpenSpec.upto (s : _root_.Go.ChangeSpec) : _root_.Go.OpenSpec := { _root_.Go.OpenSpec.ofChange s with cond := some uptoSmall }

/-- 'laws.FnExactAccountOk', WHERE WHAT IT READS IS OF BULK AT MOST 1048576: true; the input reads as it did. -/
def fnExactAccountOkUptoRow : OpenClaim := { program := "ytmhdmebbefbcbaa", sum := "d2513e56c58a4415b9ee9176b88ceafa0475e174e457c2d1a9afda5dc0e23387", func := "loop.example/g00987/laws.FnExactAccountOk", spec := "fnExactAccountOk", apart := false, narrowed := true }
def FnExactAccountOkUptoSaid : Prop := fnExactAccountOkUptoRow.holds Try.pinned (OpenSpec.upto fnExactAccountOkSpec)

/-- 'laws.FnExactArrivalOk', WHERE WHAT IT READS IS OF BULK AT MOST 1048576: true; the input reads as it did. -/
def fnExactArrivalOkUptoRow : OpenClaim := { program := "ytmhdmebbefbcbaa", sum := "d2513e56c58a4415b9ee9176b88ceafa0475e174e457c2d1a9afda5dc0e23387", func := "loop.example/g00987/laws.FnExactArrivalOk", spec := "fnExactArrivalOk", apart := false, narrowed := true }
def FnExactArrivalOkUptoSaid : Prop := fnExactArrivalOkUptoRow.holds Try.pinned (OpenSpec.upto fnExactArrivalOkSpec)

/-- 'laws.FnExactJobOk', WHERE WHAT IT READS IS OF BULK AT MOST 1048576: true; the input reads as it did. -/
def fnExactJobOkUptoRow : OpenClaim := { program := "ytmhdmebbefbcbaa", sum := "d2513e56c58a4415b9ee9176b88ceafa0475e174e457c2d1a9afda5dc0e23387", func := "loop.example/g00987/laws.FnExactJobOk", spec := "fnExactJobOk", apart := false, narrowed := true }
def FnExactJobOkUptoSaid : Prop := fnExactJobOkUptoRow.holds Try.pinned (OpenSpec.upto fnExactJobOkSpec)

/-- 'laws.FnExactFreeSheets', WHERE WHAT IT READS IS OF BULK AT MOST 1048576: true; the input reads as it did. -/
def fnExactFreeSheetsUptoRow : OpenClaim := { program := "ytmhdmebbefbcbaa", sum := "d2513e56c58a4415b9ee9176b88ceafa0475e174e457c2d1a9afda5dc0e23387", func := "loop.example/g00987/laws.FnExactFreeSheets", spec := "fnExactFreeSheets", apart := false, narrowed := true }
def FnExactFreeSheetsUptoSaid : Prop := fnExactFreeSheetsUptoRow.holds Try.pinned (OpenSpec.upto fnExactFreeSheetsSpec)

/-- 'laws.FnExactWidthsOk', WHERE WHAT IT READS IS OF BULK AT MOST 1048576: true; the input reads as it did. -/
def fnExactWidthsOkUptoRow : OpenClaim := { program := "ytmhdmebbefbcbaa", sum := "d2513e56c58a4415b9ee9176b88ceafa0475e174e457c2d1a9afda5dc0e23387", func := "loop.example/g00987/laws.FnExactWidthsOk", spec := "fnExactWidthsOk", apart := false, narrowed := true }
def FnExactWidthsOkUptoSaid : Prop := fnExactWidthsOkUptoRow.holds Try.pinned (OpenSpec.upto fnExactWidthsOkSpec)

/-- 'laws.FnExactJudgeArrival', WHERE WHAT IT READS IS OF BULK AT MOST 1048576: true; the input reads as it did. -/
def fnExactJudgeArrivalUptoRow : OpenClaim := { program := "ytmhdmebbefbcbaa", sum := "d2513e56c58a4415b9ee9176b88ceafa0475e174e457c2d1a9afda5dc0e23387", func := "loop.example/g00987/laws.FnExactJudgeArrival", spec := "fnExactJudgeArrival", apart := false, narrowed := true }
def FnExactJudgeArrivalUptoSaid : Prop := fnExactJudgeArrivalUptoRow.holds Try.pinned (OpenSpec.upto fnExactJudgeArrivalSpec)

/-- 'laws.FnExactLineWidth', WHERE WHAT IT READS IS OF BULK AT MOST 1048576: true; the input reads as it did. -/
def fnExactLineWidthUptoRow : OpenClaim := { program := "ytmhdmebbefbcbaa", sum := "d2513e56c58a4415b9ee9176b88ceafa0475e174e457c2d1a9afda5dc0e23387", func := "loop.example/g00987/laws.FnExactLineWidth", spec := "fnExactLineWidth", apart := false, narrowed := true }
def FnExactLineWidthUptoSaid : Prop := fnExactLineWidthUptoRow.holds Try.pinned (OpenSpec.upto fnExactLineWidthSpec)

/-- 'laws.FnExactSheetsFor', WHERE WHAT IT READS IS OF BULK AT MOST 1048576: true; the input reads as it did. -/
def fnExactSheetsForUptoRow : OpenClaim := { program := "ytmhdmebbefbcbaa", sum := "d2513e56c58a4415b9ee9176b88ceafa0475e174e457c2d1a9afda5dc0e23387", func := "loop.example/g00987/laws.FnExactSheetsFor", spec := "fnExactSheetsFor", apart := false, narrowed := true }
def FnExactSheetsForUptoSaid : Prop := fnExactSheetsForUptoRow.holds Try.pinned (OpenSpec.upto fnExactSheetsForSpec)

/-- 'laws.FnExactSettle', WHERE WHAT IT READS IS OF BULK AT MOST 1048576: true; the input reads as it did. -/
def fnExactSettleUptoRow : OpenClaim := { program := "ytmhdmebbefbcbaa", sum := "d2513e56c58a4415b9ee9176b88ceafa0475e174e457c2d1a9afda5dc0e23387", func := "loop.example/g00987/laws.FnExactSettle", spec := "fnExactSettle", apart := false, narrowed := true }
def FnExactSettleUptoSaid : Prop := fnExactSettleUptoRow.holds Try.pinned (OpenSpec.upto fnExactSettleSpec)

/-- 'laws.FnExactReserve', WHERE WHAT IT READS IS OF BULK AT MOST 1048576: true; the input reads as it did. -/
def fnExactReserveUptoRow : OpenClaim := { program := "ytmhdmebbefbcbaa", sum := "d2513e56c58a4415b9ee9176b88ceafa0475e174e457c2d1a9afda5dc0e23387", func := "loop.example/g00987/laws.FnExactReserve", spec := "fnExactReserve", apart := false, narrowed := true }
def FnExactReserveUptoSaid : Prop := fnExactReserveUptoRow.holds Try.pinned (OpenSpec.upto fnExactReserveSpec)

/-- 'laws.FnSides', WHERE WHAT IT READS IS OF BULK AT MOST 1048576: true; the input reads as it did. -/
def fnSidesUptoRow : OpenClaim := { program := "ytmhdmebbefbcbaa", sum := "d2513e56c58a4415b9ee9176b88ceafa0475e174e457c2d1a9afda5dc0e23387", func := "loop.example/g00987/laws.FnSides", spec := "fnSides", apart := false, narrowed := true }
def FnSidesUptoSaid : Prop := fnSidesUptoRow.holds Try.pinned (OpenSpec.upto fnSidesSpec)

/-- 'laws.FnExactTrackOk', WHERE WHAT IT READS IS OF BULK AT MOST 1048576: true; the input reads as it did. -/
def fnExactTrackOkUptoRow : OpenClaim := { program := "ytmhdmebbefbcbaa", sum := "d2513e56c58a4415b9ee9176b88ceafa0475e174e457c2d1a9afda5dc0e23387", func := "loop.example/g00987/laws.FnExactTrackOk", spec := "fnExactTrackOk", apart := false, narrowed := true }
def FnExactTrackOkUptoSaid : Prop := fnExactTrackOkUptoRow.holds Try.pinned (OpenSpec.upto fnExactTrackOkSpec)

end Rows
end Go.Proofs.Ytmhdmebbefbcbaa
