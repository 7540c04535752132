/-
  No cell of these rows narrows 'for every input' (looked for: loops, veiled, ifaces, maps, wideKeys, modest, calm, conditions, laid).
  DERIVED. THE GIVEN ROWS OF THIS SEAT. 12 by the template 'for every input the law returns true; each argument reads behind the call as it read before'; 0 by the template 'total and deterministic' (their statements: YtanllimeiofaaaaTotals.lean).
  GIVEN WITH THE SEED: the statements are not yours to turn. If you find one false, say at which input.
  Laid BY PROGRAM, IN A SANDBOX (cutbox-rows.mjs): the forced cells as the released guide's own fill.sh prints them over the translation 37097b8020bb7fd8… (all of the seat's roots in one cut). By AI agents, Wed Nov 11 2026. No macro, syntax, notation, axiom, sorry.
-/
import Derived.Test.YtanllimeiofaaaaChecked
import GoSem.Claim
import GoSem.ClaimJoined
import GoSem.ClaimMapViews
import Derived.JoinedTies
import Derived.KernelRfl
namespace Go.Proofs.Ytanllimeiofaaaa
/- THE CELL 'sum', in the pinned program and in every row, IS THE sha256 OF THE DUMP (.gsa) THAT YtanllimeiofaaaaProg.lean LOADS. Nothing in Lean hashes anything: it is a label: what it is worth is what the hold of that sum in a sandbox is worth. -/
noncomputable def Try.pinned : Pinned := { name := "ytanllimeiofaaaa", sum := "37097b8020bb7fd8f828853a81b0282e3917b052fc21cc4a37050fad8e3e5258", checked := Try.checked }
namespace Rows
def none {H : Type} : Left H := { results := [], args := [] }

/-- 'laws.FnAccounts': WHATEVER THE INPUT: true; the input reads as it did. -/
def fnAccountsSpec : ChangeSpec := { name := "fnAccounts", fn := fun _ => fun
  | [d] => { results := [.lit (.bool true)], args := [d] }
  | _ => none }
def fnAccountsRow : OpenClaim := { program := "ytanllimeiofaaaa", sum := "37097b8020bb7fd8f828853a81b0282e3917b052fc21cc4a37050fad8e3e5258", func := "loop.example/g00987/laws.FnAccounts", spec := "fnAccounts", apart := false }
def FnAccountsSaid : Prop := fnAccountsRow.holds Try.pinned (OpenSpec.ofChange fnAccountsSpec)

/-- ITS FALSE NEIGHBOUR: 'it returns false'. Refute it at one input. -/
def fnAccountsWrong : ChangeSpec := { name := "fnAccounts", fn := fun _ => fun
  | [d] => { results := [.lit (.bool false)], args := [d] }
  | _ => none }
def FnAccountsWrongFalsely : Prop := fnAccountsRow.holds Try.pinned (OpenSpec.ofChange fnAccountsWrong)

/-- 'laws.FnExactLeastLines': WHATEVER THE INPUT: true; the input reads as it did. -/
def fnExactLeastLinesSpec : ChangeSpec := { name := "fnExactLeastLines", fn := fun _ => fun
  | [d1, d2] => { results := [.lit (.bool true)], args := [d1, d2] }
  | _ => none }
def fnExactLeastLinesRow : OpenClaim := { program := "ytanllimeiofaaaa", sum := "37097b8020bb7fd8f828853a81b0282e3917b052fc21cc4a37050fad8e3e5258", func := "loop.example/g00987/laws.FnExactLeastLines", spec := "fnExactLeastLines", apart := false }
def FnExactLeastLinesSaid : Prop := fnExactLeastLinesRow.holds Try.pinned (OpenSpec.ofChange fnExactLeastLinesSpec)

/-- ITS FALSE NEIGHBOUR: 'it returns false'. Refute it at one input. -/
def fnExactLeastLinesWrong : ChangeSpec := { name := "fnExactLeastLines", fn := fun _ => fun
  | [d1, d2] => { results := [.lit (.bool false)], args := [d1, d2] }
  | _ => none }
def FnExactLeastLinesWrongFalsely : Prop := fnExactLeastLinesRow.holds Try.pinned (OpenSpec.ofChange fnExactLeastLinesWrong)

/-- 'laws.FnExactTrackLength': WHATEVER THE INPUT: true; the input reads as it did. -/
def fnExactTrackLengthSpec : ChangeSpec := { name := "fnExactTrackLength", fn := fun _ => fun
  | [d] => { results := [.lit (.bool true)], args := [d] }
  | _ => none }
def fnExactTrackLengthRow : OpenClaim := { program := "ytanllimeiofaaaa", sum := "37097b8020bb7fd8f828853a81b0282e3917b052fc21cc4a37050fad8e3e5258", func := "loop.example/g00987/laws.FnExactTrackLength", spec := "fnExactTrackLength", apart := false }
def FnExactTrackLengthSaid : Prop := fnExactTrackLengthRow.holds Try.pinned (OpenSpec.ofChange fnExactTrackLengthSpec)

/-- ITS FALSE NEIGHBOUR: 'it returns false'. Refute it at one input. -/
def fnExactTrackLengthWrong : ChangeSpec := { name := "fnExactTrackLength", fn := fun _ => fun
  | [d] => { results := [.lit (.bool false)], args := [d] }
  | _ => none }
def FnExactTrackLengthWrongFalsely : Prop := fnExactTrackLengthRow.holds Try.pinned (OpenSpec.ofChange fnExactTrackLengthWrong)

/-- 'laws.FnExactSidesFor': WHATEVER THE INPUT: true; the input reads as it did. -/
def fnExactSidesForSpec : ChangeSpec := { name := "fnExactSidesFor", fn := fun _ => fun
  | [d1, d2] => { results := [.lit (.bool true)], args := [d1, d2] }
  | _ => none }
def fnExactSidesForRow : OpenClaim := { program := "ytanllimeiofaaaa", sum := "37097b8020bb7fd8f828853a81b0282e3917b052fc21cc4a37050fad8e3e5258", func := "loop.example/g00987/laws.FnExactSidesFor", spec := "fnExactSidesFor", apart := false }
def FnExactSidesForSaid : Prop := fnExactSidesForRow.holds Try.pinned (OpenSpec.ofChange fnExactSidesForSpec)

/-- ITS FALSE NEIGHBOUR: 'it returns false'. Refute it at one input. -/
def fnExactSidesForWrong : ChangeSpec := { name := "fnExactSidesFor", fn := fun _ => fun
  | [d1, d2] => { results := [.lit (.bool false)], args := [d1, d2] }
  | _ => none }
def FnExactSidesForWrongFalsely : Prop := fnExactSidesForRow.holds Try.pinned (OpenSpec.ofChange fnExactSidesForWrong)

/-- 'laws.FnLines': WHATEVER THE INPUT: true; the input reads as it did. -/
def fnLinesSpec : ChangeSpec := { name := "fnLines", fn := fun _ => fun
  | [d] => { results := [.lit (.bool true)], args := [d] }
  | _ => none }
def fnLinesRow : OpenClaim := { program := "ytanllimeiofaaaa", sum := "37097b8020bb7fd8f828853a81b0282e3917b052fc21cc4a37050fad8e3e5258", func := "loop.example/g00987/laws.FnLines", spec := "fnLines", apart := false }
def FnLinesSaid : Prop := fnLinesRow.holds Try.pinned (OpenSpec.ofChange fnLinesSpec)

/-- ITS FALSE NEIGHBOUR: 'it returns false'. Refute it at one input. -/
def fnLinesWrong : ChangeSpec := { name := "fnLines", fn := fun _ => fun
  | [d] => { results := [.lit (.bool false)], args := [d] }
  | _ => none }
def FnLinesWrongFalsely : Prop := fnLinesRow.holds Try.pinned (OpenSpec.ofChange fnLinesWrong)

/-- 'laws.FnExactStartsOf': WHATEVER THE INPUT: true; the input reads as it did. -/
def fnExactStartsOfSpec : ChangeSpec := { name := "fnExactStartsOf", fn := fun _ => fun
  | [d1, d2, d3, d4] => { results := [.lit (.bool true)], args := [d1, d2, d3, d4] }
  | _ => none }
def fnExactStartsOfRow : OpenClaim := { program := "ytanllimeiofaaaa", sum := "37097b8020bb7fd8f828853a81b0282e3917b052fc21cc4a37050fad8e3e5258", func := "loop.example/g00987/laws.FnExactStartsOf", spec := "fnExactStartsOf", apart := false }
def FnExactStartsOfSaid : Prop := fnExactStartsOfRow.holds Try.pinned (OpenSpec.ofChange fnExactStartsOfSpec)

/-- ITS FALSE NEIGHBOUR: 'it returns false'. Refute it at one input. -/
def fnExactStartsOfWrong : ChangeSpec := { name := "fnExactStartsOf", fn := fun _ => fun
  | [d1, d2, d3, d4] => { results := [.lit (.bool false)], args := [d1, d2, d3, d4] }
  | _ => none }
def FnExactStartsOfWrongFalsely : Prop := fnExactStartsOfRow.holds Try.pinned (OpenSpec.ofChange fnExactStartsOfWrong)

/-- 'laws.FnExactFirstJam': WHATEVER THE INPUT: true; the input reads as it did. -/
def fnExactFirstJamSpec : ChangeSpec := { name := "fnExactFirstJam", fn := fun _ => fun
  | [d] => { results := [.lit (.bool true)], args := [d] }
  | _ => none }
def fnExactFirstJamRow : OpenClaim := { program := "ytanllimeiofaaaa", sum := "37097b8020bb7fd8f828853a81b0282e3917b052fc21cc4a37050fad8e3e5258", func := "loop.example/g00987/laws.FnExactFirstJam", spec := "fnExactFirstJam", apart := false }
def FnExactFirstJamSaid : Prop := fnExactFirstJamRow.holds Try.pinned (OpenSpec.ofChange fnExactFirstJamSpec)

/-- ITS FALSE NEIGHBOUR: 'it returns false'. Refute it at one input. -/
def fnExactFirstJamWrong : ChangeSpec := { name := "fnExactFirstJam", fn := fun _ => fun
  | [d] => { results := [.lit (.bool false)], args := [d] }
  | _ => none }
def FnExactFirstJamWrongFalsely : Prop := fnExactFirstJamRow.holds Try.pinned (OpenSpec.ofChange fnExactFirstJamWrong)

/-- 'laws.FnExactPageOfSheet': WHATEVER THE INPUT: true; the input reads as it did. -/
def fnExactPageOfSheetSpec : ChangeSpec := { name := "fnExactPageOfSheet", fn := fun _ => fun
  | [d1, d2] => { results := [.lit (.bool true)], args := [d1, d2] }
  | _ => none }
def fnExactPageOfSheetRow : OpenClaim := { program := "ytanllimeiofaaaa", sum := "37097b8020bb7fd8f828853a81b0282e3917b052fc21cc4a37050fad8e3e5258", func := "loop.example/g00987/laws.FnExactPageOfSheet", spec := "fnExactPageOfSheet", apart := false }
def FnExactPageOfSheetSaid : Prop := fnExactPageOfSheetRow.holds Try.pinned (OpenSpec.ofChange fnExactPageOfSheetSpec)

/-- ITS FALSE NEIGHBOUR: 'it returns false'. Refute it at one input. -/
def fnExactPageOfSheetWrong : ChangeSpec := { name := "fnExactPageOfSheet", fn := fun _ => fun
  | [d1, d2] => { results := [.lit (.bool false)], args := [d1, d2] }
  | _ => none }
def FnExactPageOfSheetWrongFalsely : Prop := fnExactPageOfSheetRow.holds Try.pinned (OpenSpec.ofChange fnExactPageOfSheetWrong)

/-- 'laws.FnAligned': WHATEVER THE INPUT: true; the input reads as it did. -/
def fnAlignedSpec : ChangeSpec := { name := "fnAligned", fn := fun _ => fun
  | [d] => { results := [.lit (.bool true)], args := [d] }
  | _ => none }
def fnAlignedRow : OpenClaim := { program := "ytanllimeiofaaaa", sum := "37097b8020bb7fd8f828853a81b0282e3917b052fc21cc4a37050fad8e3e5258", func := "loop.example/g00987/laws.FnAligned", spec := "fnAligned", apart := false }
def FnAlignedSaid : Prop := fnAlignedRow.holds Try.pinned (OpenSpec.ofChange fnAlignedSpec)

/-- ITS FALSE NEIGHBOUR: 'it returns false'. Refute it at one input. -/
def fnAlignedWrong : ChangeSpec := { name := "fnAligned", fn := fun _ => fun
  | [d] => { results := [.lit (.bool false)], args := [d] }
  | _ => none }
def FnAlignedWrongFalsely : Prop := fnAlignedRow.holds Try.pinned (OpenSpec.ofChange fnAlignedWrong)

/-- 'laws.FnTracks': WHATEVER THE INPUT: true; the input reads as it did. -/
def fnTracksSpec : ChangeSpec := { name := "fnTracks", fn := fun _ => fun
  | [d] => { results := [.lit (.bool true)], args := [d] }
  | _ => none }
def fnTracksRow : OpenClaim := { program := "ytanllimeiofaaaa", sum := "37097b8020bb7fd8f828853a81b0282e3917b052fc21cc4a37050fad8e3e5258", func := "loop.example/g00987/laws.FnTracks", spec := "fnTracks", apart := false }
def FnTracksSaid : Prop := fnTracksRow.holds Try.pinned (OpenSpec.ofChange fnTracksSpec)

/-- ITS FALSE NEIGHBOUR: 'it returns false'. Refute it at one input. -/
def fnTracksWrong : ChangeSpec := { name := "fnTracks", fn := fun _ => fun
  | [d] => { results := [.lit (.bool false)], args := [d] }
  | _ => none }
def FnTracksWrongFalsely : Prop := fnTracksRow.holds Try.pinned (OpenSpec.ofChange fnTracksWrong)

/-- 'laws.FnExactStepSheet': WHATEVER THE INPUT: true; the input reads as it did. -/
def fnExactStepSheetSpec : ChangeSpec := { name := "fnExactStepSheet", fn := fun _ => fun
  | [d1, d2] => { results := [.lit (.bool true)], args := [d1, d2] }
  | _ => none }
def fnExactStepSheetRow : OpenClaim := { program := "ytanllimeiofaaaa", sum := "37097b8020bb7fd8f828853a81b0282e3917b052fc21cc4a37050fad8e3e5258", func := "loop.example/g00987/laws.FnExactStepSheet", spec := "fnExactStepSheet", apart := false }
def FnExactStepSheetSaid : Prop := fnExactStepSheetRow.holds Try.pinned (OpenSpec.ofChange fnExactStepSheetSpec)

/-- ITS FALSE NEIGHBOUR: 'it returns false'. Refute it at one input. -/
def fnExactStepSheetWrong : ChangeSpec := { name := "fnExactStepSheet", fn := fun _ => fun
  | [d1, d2] => { results := [.lit (.bool false)], args := [d1, d2] }
  | _ => none }
def FnExactStepSheetWrongFalsely : Prop := fnExactStepSheetRow.holds Try.pinned (OpenSpec.ofChange fnExactStepSheetWrong)

/-- 'laws.FnExactJobSheets': WHATEVER THE INPUT: true; the input reads as it did. -/
def fnExactJobSheetsSpec : ChangeSpec := { name := "fnExactJobSheets", fn := fun _ => fun
  | [d] => { results := [.lit (.bool true)], args := [d] }
  | _ => none }
def fnExactJobSheetsRow : OpenClaim := { program := "ytanllimeiofaaaa", sum := "37097b8020bb7fd8f828853a81b0282e3917b052fc21cc4a37050fad8e3e5258", func := "loop.example/g00987/laws.FnExactJobSheets", spec := "fnExactJobSheets", apart := false }
def FnExactJobSheetsSaid : Prop := fnExactJobSheetsRow.holds Try.pinned (OpenSpec.ofChange fnExactJobSheetsSpec)

/-- ITS FALSE NEIGHBOUR: 'it returns false'. Refute it at one input. -/
def fnExactJobSheetsWrong : ChangeSpec := { name := "fnExactJobSheets", fn := fun _ => fun
  | [d] => { results := [.lit (.bool false)], args := [d] }
  | _ => none }
def FnExactJobSheetsWrongFalsely : Prop := fnExactJobSheetsRow.holds Try.pinned (OpenSpec.ofChange fnExactJobSheetsWrong)

/- THE SECOND FORM. 'bulk': how many values and letters a reading holds, each counted each time it is reached (what is shared counts as often as it is met; a slice's spare places count too). A statement '..UptoSaid' is the law's where the arguments, and the package variables that the reading takes, are together of bulk at most 1048576: NARROWER than '..Said'. Prove '..Said' where nothing that the law and all that it calls make is longer than what came in: it says more and counts as full. Else prove '..UptoSaid'. A law counts once. -/
mutual
def uptoBulk {H : Type} : DataW H → Nat
  | .lit (.string bytes) => bytes.length + 1
  | .lit _ => 1
  | .nil => 1
  | .ptr d => uptoBulk d + 1
  | .slice elems spare => uptoBulkAll elems + uptoBulkAll spare + 1
  | .agg parts => uptoBulkAll parts + 1
  | .iface _ d => uptoBulk d + 1
  | .map entries => uptoBulkEntries entries + 1
  | .held _ => 1
def uptoBulkAll {H : Type} : List (DataW H) → Nat
  | [] => 0
  | d :: r => uptoBulk d + uptoBulkAll r
def uptoBulkEntries {H : Type} : List (Lit × DataW H) → Nat
  | [] => 0
  | x :: r => uptoBulkEntry x + uptoBulkEntries r
def uptoBulkEntry {H : Type} : Lit × DataW H → Nat
  | (.string bytes, d) => bytes.length + uptoBulk d + 1
  | (_, d) => uptoBulk d + 1
 end
def uptoSmall : (H : Type) → List (DataW H) → Bool := fun _ ds => decide (uptoBulkAll ds ≤ 1048576)
def OpenSpec.upto (s : _root_.Go.ChangeSpec) : _root_.Go.OpenSpec := { _root_.Go.OpenSpec.ofChange s with cond := some uptoSmall }

/-- 'laws.FnAccounts', WHERE WHAT IT READS IS OF BULK AT MOST 1048576: true; the input reads as it did. -/
def fnAccountsUptoRow : OpenClaim := { program := "ytanllimeiofaaaa", sum := "37097b8020bb7fd8f828853a81b0282e3917b052fc21cc4a37050fad8e3e5258", func := "loop.example/g00987/laws.FnAccounts", spec := "fnAccounts", apart := false, narrowed := true }
def FnAccountsUptoSaid : Prop := fnAccountsUptoRow.holds Try.pinned (OpenSpec.upto fnAccountsSpec)

/-- 'laws.FnExactLeastLines', WHERE WHAT IT READS IS OF BULK AT MOST 1048576: true; the input reads as it did. -/
def fnExactLeastLinesUptoRow : OpenClaim := { program := "ytanllimeiofaaaa", sum := "37097b8020bb7fd8f828853a81b0282e3917b052fc21cc4a37050fad8e3e5258", func := "loop.example/g00987/laws.FnExactLeastLines", spec := "fnExactLeastLines", apart := false, narrowed := true }
def FnExactLeastLinesUptoSaid : Prop := fnExactLeastLinesUptoRow.holds Try.pinned (OpenSpec.upto fnExactLeastLinesSpec)

/-- 'laws.FnExactTrackLength', WHERE WHAT IT READS IS OF BULK AT MOST 1048576: true; the input reads as it did. -/
def fnExactTrackLengthUptoRow : OpenClaim := { program := "ytanllimeiofaaaa", sum := "37097b8020bb7fd8f828853a81b0282e3917b052fc21cc4a37050fad8e3e5258", func := "loop.example/g00987/laws.FnExactTrackLength", spec := "fnExactTrackLength", apart := false, narrowed := true }
def FnExactTrackLengthUptoSaid : Prop := fnExactTrackLengthUptoRow.holds Try.pinned (OpenSpec.upto fnExactTrackLengthSpec)

/-- 'laws.FnExactSidesFor', WHERE WHAT IT READS IS OF BULK AT MOST 1048576: true; the input reads as it did. -/
def fnExactSidesForUptoRow : OpenClaim := { program := "ytanllimeiofaaaa", sum := "37097b8020bb7fd8f828853a81b0282e3917b052fc21cc4a37050fad8e3e5258", func := "loop.example/g00987/laws.FnExactSidesFor", spec := "fnExactSidesFor", apart := false, narrowed := true }
def FnExactSidesForUptoSaid : Prop := fnExactSidesForUptoRow.holds Try.pinned (OpenSpec.upto fnExactSidesForSpec)

/-- 'laws.FnLines', WHERE WHAT IT READS IS OF BULK AT MOST 1048576: true; the input reads as it did. -/
def fnLinesUptoRow : OpenClaim := { program := "ytanllimeiofaaaa", sum := "37097b8020bb7fd8f828853a81b0282e3917b052fc21cc4a37050fad8e3e5258", func := "loop.example/g00987/laws.FnLines", spec := "fnLines", apart := false, narrowed := true }
def FnLinesUptoSaid : Prop := fnLinesUptoRow.holds Try.pinned (OpenSpec.upto fnLinesSpec)

/-- 'laws.FnExactStartsOf', WHERE WHAT IT READS IS OF BULK AT MOST 1048576: true; the input reads as it did. -/
def fnExactStartsOfUptoRow : OpenClaim := { program := "ytanllimeiofaaaa", sum := "37097b8020bb7fd8f828853a81b0282e3917b052fc21cc4a37050fad8e3e5258", func := "loop.example/g00987/laws.FnExactStartsOf", spec := "fnExactStartsOf", apart := false, narrowed := true }
def FnExactStartsOfUptoSaid : Prop := fnExactStartsOfUptoRow.holds Try.pinned (OpenSpec.upto fnExactStartsOfSpec)

/-- 'laws.FnExactFirstJam', WHERE WHAT IT READS IS OF BULK AT MOST 1048576: true; the input reads as it did. -/
def fnExactFirstJamUptoRow : OpenClaim := { program := "ytanllimeiofaaaa", sum := "37097b8020bb7fd8f828853a81b0282e3917b052fc21cc4a37050fad8e3e5258", func := "loop.example/g00987/laws.FnExactFirstJam", spec := "fnExactFirstJam", apart := false, narrowed := true }
def FnExactFirstJamUptoSaid : Prop := fnExactFirstJamUptoRow.holds Try.pinned (OpenSpec.upto fnExactFirstJamSpec)

/-- 'laws.FnExactPageOfSheet', WHERE WHAT IT READS IS OF BULK AT MOST 1048576: true; the input reads as it did. -/
def fnExactPageOfSheetUptoRow : OpenClaim := { program := "ytanllimeiofaaaa", sum := "37097b8020bb7fd8f828853a81b0282e3917b052fc21cc4a37050fad8e3e5258", func := "loop.example/g00987/laws.FnExactPageOfSheet", spec := "fnExactPageOfSheet", apart := false, narrowed := true }
def FnExactPageOfSheetUptoSaid : Prop := fnExactPageOfSheetUptoRow.holds Try.pinned (OpenSpec.upto fnExactPageOfSheetSpec)

/-- 'laws.FnAligned', WHERE WHAT IT READS IS OF BULK AT MOST 1048576: true; the input reads as it did. -/
def fnAlignedUptoRow : OpenClaim := { program := "ytanllimeiofaaaa", sum := "37097b8020bb7fd8f828853a81b0282e3917b052fc21cc4a37050fad8e3e5258", func := "loop.example/g00987/laws.FnAligned", spec := "fnAligned", apart := false, narrowed := true }
def FnAlignedUptoSaid : Prop := fnAlignedUptoRow.holds Try.pinned (OpenSpec.upto fnAlignedSpec)

/-- 'laws.FnTracks', WHERE WHAT IT READS IS OF BULK AT MOST 1048576: true; the input reads as it did. -/
def fnTracksUptoRow : OpenClaim := { program := "ytanllimeiofaaaa", sum := "37097b8020bb7fd8f828853a81b0282e3917b052fc21cc4a37050fad8e3e5258", func := "loop.example/g00987/laws.FnTracks", spec := "fnTracks", apart := false, narrowed := true }
def FnTracksUptoSaid : Prop := fnTracksUptoRow.holds Try.pinned (OpenSpec.upto fnTracksSpec)

/-- 'laws.FnExactStepSheet', WHERE WHAT IT READS IS OF BULK AT MOST 1048576: true; the input reads as it did. -/
def fnExactStepSheetUptoRow : OpenClaim := { program := "ytanllimeiofaaaa", sum := "37097b8020bb7fd8f828853a81b0282e3917b052fc21cc4a37050fad8e3e5258", func := "loop.example/g00987/laws.FnExactStepSheet", spec := "fnExactStepSheet", apart := false, narrowed := true }
def FnExactStepSheetUptoSaid : Prop := fnExactStepSheetUptoRow.holds Try.pinned (OpenSpec.upto fnExactStepSheetSpec)

/-- 'laws.FnExactJobSheets', WHERE WHAT IT READS IS OF BULK AT MOST 1048576: true; the input reads as it did. -/
def fnExactJobSheetsUptoRow : OpenClaim := { program := "ytanllimeiofaaaa", sum := "37097b8020bb7fd8f828853a81b0282e3917b052fc21cc4a37050fad8e3e5258", func := "loop.example/g00987/laws.FnExactJobSheets", spec := "fnExactJobSheets", apart := false, narrowed := true }
def FnExactJobSheetsUptoSaid : Prop := fnExactJobSheetsUptoRow.holds Try.pinned (OpenSpec.upto fnExactJobSheetsSpec)

end Rows
end Go.Proofs.Ytanllimeiofaaaa
