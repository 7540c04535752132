/-
  No cell of these rows narrows 'for every input' (looked for: loops, veiled, ifaces, maps, wideKeys, modest, calm, conditions, laid).
  DERIVED. THE GIVEN ROWS OF THIS SEAT. 12 by the template 'for every input the law returns true; each argument reads behind the call as it read before'; 0 by the template 'total and deterministic' (their statements: YtifaojbmdahoiaaTotals.lean).
  GIVEN WITH THE SEED: the statements are not yours to turn. If you find one false, say at which input.
  Laid BY PROGRAM, IN A SANDBOX (cutbox-rows.mjs): the forced cells as the released guide's own fill.sh prints them over the translation b59d546398667f1f… (all of the seat's roots in one cut). By AI agents, Wed Nov 11 2026. No macro, syntax, notation, axiom, sorry.
-/
import Derived.Test.YtifaojbmdahoiaaChecked
import GoSem.Claim
import GoSem.ClaimJoined
import GoSem.ClaimMapViews
import Derived.JoinedTies
import Derived.KernelRfl
namespace Go.Proofs.Ytifaojbmdahoiaa
/- THE CELL 'sum', in the pinned program and in every row, IS THE sha256 OF THE DUMP (.gsa) THAT YtifaojbmdahoiaaProg.lean LOADS. Nothing in Lean hashes anything: it is a label: what it is worth is what the hold of that sum in a sandbox is worth. -/
noncomputable def Try.pinned : Pinned := { name := "ytifaojbmdahoiaa", sum := "b59d546398667f1fd8afbbf87e9fd903324b94ff1dd93767e0bd2e769442038a", checked := Try.checked }
namespace Rows
def none {H : Type} : Left H := { results := [], args := [] }

/-- 'laws.FnExactReadBooklet': WHATEVER THE INPUT: true; the input reads as it did. -/
def fnExactReadBookletSpec : ChangeSpec := { name := "fnExactReadBooklet", fn := fun _ => fun
  | [d] => { results := [.lit (.bool true)], args := [d] }
  | _ => none }
def fnExactReadBookletRow : OpenClaim := { program := "ytifaojbmdahoiaa", sum := "b59d546398667f1fd8afbbf87e9fd903324b94ff1dd93767e0bd2e769442038a", func := "loop.example/g00987/laws.FnExactReadBooklet", spec := "fnExactReadBooklet", apart := false }
def FnExactReadBookletSaid : Prop := fnExactReadBookletRow.holds Try.pinned (OpenSpec.ofChange fnExactReadBookletSpec)

/-- ITS FALSE NEIGHBOUR: 'it returns false'. Refute it at one input. -/
def fnExactReadBookletWrong : ChangeSpec := { name := "fnExactReadBooklet", fn := fun _ => fun
  | [d] => { results := [.lit (.bool false)], args := [d] }
  | _ => none }
def FnExactReadBookletWrongFalsely : Prop := fnExactReadBookletRow.holds Try.pinned (OpenSpec.ofChange fnExactReadBookletWrong)

/-- 'laws.FnExactJamTime': WHATEVER THE INPUT: true; the input reads as it did. -/
def fnExactJamTimeSpec : ChangeSpec := { name := "fnExactJamTime", fn := fun _ => fun
  | [d] => { results := [.lit (.bool true)], args := [d] }
  | _ => none }
def fnExactJamTimeRow : OpenClaim := { program := "ytifaojbmdahoiaa", sum := "b59d546398667f1fd8afbbf87e9fd903324b94ff1dd93767e0bd2e769442038a", func := "loop.example/g00987/laws.FnExactJamTime", spec := "fnExactJamTime", apart := false }
def FnExactJamTimeSaid : Prop := fnExactJamTimeRow.holds Try.pinned (OpenSpec.ofChange fnExactJamTimeSpec)

/-- ITS FALSE NEIGHBOUR: 'it returns false'. Refute it at one input. -/
def fnExactJamTimeWrong : ChangeSpec := { name := "fnExactJamTime", fn := fun _ => fun
  | [d] => { results := [.lit (.bool false)], args := [d] }
  | _ => none }
def FnExactJamTimeWrongFalsely : Prop := fnExactJamTimeRow.holds Try.pinned (OpenSpec.ofChange fnExactJamTimeWrong)

/-- 'laws.FnExactBreakLines': WHATEVER THE INPUT: true; the input reads as it did. -/
def fnExactBreakLinesSpec : ChangeSpec := { name := "fnExactBreakLines", fn := fun _ => fun
  | [d1, d2] => { results := [.lit (.bool true)], args := [d1, d2] }
  | _ => none }
def fnExactBreakLinesRow : OpenClaim := { program := "ytifaojbmdahoiaa", sum := "b59d546398667f1fd8afbbf87e9fd903324b94ff1dd93767e0bd2e769442038a", func := "loop.example/g00987/laws.FnExactBreakLines", spec := "fnExactBreakLines", apart := false }
def FnExactBreakLinesSaid : Prop := fnExactBreakLinesRow.holds Try.pinned (OpenSpec.ofChange fnExactBreakLinesSpec)

/-- ITS FALSE NEIGHBOUR: 'it returns false'. Refute it at one input. -/
def fnExactBreakLinesWrong : ChangeSpec := { name := "fnExactBreakLines", fn := fun _ => fun
  | [d1, d2] => { results := [.lit (.bool false)], args := [d1, d2] }
  | _ => none }
def FnExactBreakLinesWrongFalsely : Prop := fnExactBreakLinesRow.holds Try.pinned (OpenSpec.ofChange fnExactBreakLinesWrong)

/-- 'laws.FnGaps': WHATEVER THE INPUT: true; the input reads as it did. -/
def fnGapsSpec : ChangeSpec := { name := "fnGaps", fn := fun _ => fun
  | [d] => { results := [.lit (.bool true)], args := [d] }
  | _ => none }
def fnGapsRow : OpenClaim := { program := "ytifaojbmdahoiaa", sum := "b59d546398667f1fd8afbbf87e9fd903324b94ff1dd93767e0bd2e769442038a", func := "loop.example/g00987/laws.FnGaps", spec := "fnGaps", apart := false }
def FnGapsSaid : Prop := fnGapsRow.holds Try.pinned (OpenSpec.ofChange fnGapsSpec)

/-- ITS FALSE NEIGHBOUR: 'it returns false'. Refute it at one input. -/
def fnGapsWrong : ChangeSpec := { name := "fnGaps", fn := fun _ => fun
  | [d] => { results := [.lit (.bool false)], args := [d] }
  | _ => none }
def FnGapsWrongFalsely : Prop := fnGapsRow.holds Try.pinned (OpenSpec.ofChange fnGapsWrong)

/-- 'laws.FnExactPlaceAfter': WHATEVER THE INPUT: true; the input reads as it did. -/
def fnExactPlaceAfterSpec : ChangeSpec := { name := "fnExactPlaceAfter", fn := fun _ => fun
  | [d1, d2] => { results := [.lit (.bool true)], args := [d1, d2] }
  | _ => none }
def fnExactPlaceAfterRow : OpenClaim := { program := "ytifaojbmdahoiaa", sum := "b59d546398667f1fd8afbbf87e9fd903324b94ff1dd93767e0bd2e769442038a", func := "loop.example/g00987/laws.FnExactPlaceAfter", spec := "fnExactPlaceAfter", apart := false }
def FnExactPlaceAfterSaid : Prop := fnExactPlaceAfterRow.holds Try.pinned (OpenSpec.ofChange fnExactPlaceAfterSpec)

/-- ITS FALSE NEIGHBOUR: 'it returns false'. Refute it at one input. -/
def fnExactPlaceAfterWrong : ChangeSpec := { name := "fnExactPlaceAfter", fn := fun _ => fun
  | [d1, d2] => { results := [.lit (.bool false)], args := [d1, d2] }
  | _ => none }
def FnExactPlaceAfterWrongFalsely : Prop := fnExactPlaceAfterRow.holds Try.pinned (OpenSpec.ofChange fnExactPlaceAfterWrong)

/-- 'laws.FnExactStepsTo': WHATEVER THE INPUT: true; the input reads as it did. -/
def fnExactStepsToSpec : ChangeSpec := { name := "fnExactStepsTo", fn := fun _ => fun
  | [d1, d2] => { results := [.lit (.bool true)], args := [d1, d2] }
  | _ => none }
def fnExactStepsToRow : OpenClaim := { program := "ytifaojbmdahoiaa", sum := "b59d546398667f1fd8afbbf87e9fd903324b94ff1dd93767e0bd2e769442038a", func := "loop.example/g00987/laws.FnExactStepsTo", spec := "fnExactStepsTo", apart := false }
def FnExactStepsToSaid : Prop := fnExactStepsToRow.holds Try.pinned (OpenSpec.ofChange fnExactStepsToSpec)

/-- ITS FALSE NEIGHBOUR: 'it returns false'. Refute it at one input. -/
def fnExactStepsToWrong : ChangeSpec := { name := "fnExactStepsTo", fn := fun _ => fun
  | [d1, d2] => { results := [.lit (.bool false)], args := [d1, d2] }
  | _ => none }
def FnExactStepsToWrongFalsely : Prop := fnExactStepsToRow.holds Try.pinned (OpenSpec.ofChange fnExactStepsToWrong)

/-- 'laws.FnExactHoldsGlyph': WHATEVER THE INPUT: true; the input reads as it did. -/
def fnExactHoldsGlyphSpec : ChangeSpec := { name := "fnExactHoldsGlyph", fn := fun _ => fun
  | [d1, d2] => { results := [.lit (.bool true)], args := [d1, d2] }
  | _ => none }
def fnExactHoldsGlyphRow : OpenClaim := { program := "ytifaojbmdahoiaa", sum := "b59d546398667f1fd8afbbf87e9fd903324b94ff1dd93767e0bd2e769442038a", func := "loop.example/g00987/laws.FnExactHoldsGlyph", spec := "fnExactHoldsGlyph", apart := false }
def FnExactHoldsGlyphSaid : Prop := fnExactHoldsGlyphRow.holds Try.pinned (OpenSpec.ofChange fnExactHoldsGlyphSpec)

/-- ITS FALSE NEIGHBOUR: 'it returns false'. Refute it at one input. -/
def fnExactHoldsGlyphWrong : ChangeSpec := { name := "fnExactHoldsGlyph", fn := fun _ => fun
  | [d1, d2] => { results := [.lit (.bool false)], args := [d1, d2] }
  | _ => none }
def FnExactHoldsGlyphWrongFalsely : Prop := fnExactHoldsGlyphRow.holds Try.pinned (OpenSpec.ofChange fnExactHoldsGlyphWrong)

/-- 'laws.FnExactGapAfter': WHATEVER THE INPUT: true; the input reads as it did. -/
def fnExactGapAfterSpec : ChangeSpec := { name := "fnExactGapAfter", fn := fun _ => fun
  | [d1, d2, d3] => { results := [.lit (.bool true)], args := [d1, d2, d3] }
  | _ => none }
def fnExactGapAfterRow : OpenClaim := { program := "ytifaojbmdahoiaa", sum := "b59d546398667f1fd8afbbf87e9fd903324b94ff1dd93767e0bd2e769442038a", func := "loop.example/g00987/laws.FnExactGapAfter", spec := "fnExactGapAfter", apart := false }
def FnExactGapAfterSaid : Prop := fnExactGapAfterRow.holds Try.pinned (OpenSpec.ofChange fnExactGapAfterSpec)

/-- ITS FALSE NEIGHBOUR: 'it returns false'. Refute it at one input. -/
def fnExactGapAfterWrong : ChangeSpec := { name := "fnExactGapAfter", fn := fun _ => fun
  | [d1, d2, d3] => { results := [.lit (.bool false)], args := [d1, d2, d3] }
  | _ => none }
def FnExactGapAfterWrongFalsely : Prop := fnExactGapAfterRow.holds Try.pinned (OpenSpec.ofChange fnExactGapAfterWrong)

/-- 'laws.FnArrivals': WHATEVER THE INPUT: true; the input reads as it did. -/
def fnArrivalsSpec : ChangeSpec := { name := "fnArrivals", fn := fun _ => fun
  | [d] => { results := [.lit (.bool true)], args := [d] }
  | _ => none }
def fnArrivalsRow : OpenClaim := { program := "ytifaojbmdahoiaa", sum := "b59d546398667f1fd8afbbf87e9fd903324b94ff1dd93767e0bd2e769442038a", func := "loop.example/g00987/laws.FnArrivals", spec := "fnArrivals", apart := false }
def FnArrivalsSaid : Prop := fnArrivalsRow.holds Try.pinned (OpenSpec.ofChange fnArrivalsSpec)

/-- ITS FALSE NEIGHBOUR: 'it returns false'. Refute it at one input. -/
def fnArrivalsWrong : ChangeSpec := { name := "fnArrivals", fn := fun _ => fun
  | [d] => { results := [.lit (.bool false)], args := [d] }
  | _ => none }
def FnArrivalsWrongFalsely : Prop := fnArrivalsRow.holds Try.pinned (OpenSpec.ofChange fnArrivalsWrong)

/-- 'laws.FnExactCacheOk': WHATEVER THE INPUT: true; the input reads as it did. -/
def fnExactCacheOkSpec : ChangeSpec := { name := "fnExactCacheOk", fn := fun _ => fun
  | [d] => { results := [.lit (.bool true)], args := [d] }
  | _ => none }
def fnExactCacheOkRow : OpenClaim := { program := "ytifaojbmdahoiaa", sum := "b59d546398667f1fd8afbbf87e9fd903324b94ff1dd93767e0bd2e769442038a", func := "loop.example/g00987/laws.FnExactCacheOk", spec := "fnExactCacheOk", apart := false }
def FnExactCacheOkSaid : Prop := fnExactCacheOkRow.holds Try.pinned (OpenSpec.ofChange fnExactCacheOkSpec)

/-- ITS FALSE NEIGHBOUR: 'it returns false'. Refute it at one input. -/
def fnExactCacheOkWrong : ChangeSpec := { name := "fnExactCacheOk", fn := fun _ => fun
  | [d] => { results := [.lit (.bool false)], args := [d] }
  | _ => none }
def FnExactCacheOkWrongFalsely : Prop := fnExactCacheOkRow.holds Try.pinned (OpenSpec.ofChange fnExactCacheOkWrong)

/-- 'laws.FnCharges': WHATEVER THE INPUT: true; the input reads as it did. -/
def fnChargesSpec : ChangeSpec := { name := "fnCharges", fn := fun _ => fun
  | [d] => { results := [.lit (.bool true)], args := [d] }
  | _ => none }
def fnChargesRow : OpenClaim := { program := "ytifaojbmdahoiaa", sum := "b59d546398667f1fd8afbbf87e9fd903324b94ff1dd93767e0bd2e769442038a", func := "loop.example/g00987/laws.FnCharges", spec := "fnCharges", apart := false }
def FnChargesSaid : Prop := fnChargesRow.holds Try.pinned (OpenSpec.ofChange fnChargesSpec)

/-- ITS FALSE NEIGHBOUR: 'it returns false'. Refute it at one input. -/
def fnChargesWrong : ChangeSpec := { name := "fnCharges", fn := fun _ => fun
  | [d] => { results := [.lit (.bool false)], args := [d] }
  | _ => none }
def FnChargesWrongFalsely : Prop := fnChargesRow.holds Try.pinned (OpenSpec.ofChange fnChargesWrong)

/-- 'laws.FnExactChargeJobs': WHATEVER THE INPUT: true; the input reads as it did. -/
def fnExactChargeJobsSpec : ChangeSpec := { name := "fnExactChargeJobs", fn := fun _ => fun
  | [d1, d2] => { results := [.lit (.bool true)], args := [d1, d2] }
  | _ => none }
def fnExactChargeJobsRow : OpenClaim := { program := "ytifaojbmdahoiaa", sum := "b59d546398667f1fd8afbbf87e9fd903324b94ff1dd93767e0bd2e769442038a", func := "loop.example/g00987/laws.FnExactChargeJobs", spec := "fnExactChargeJobs", apart := false }
def FnExactChargeJobsSaid : Prop := fnExactChargeJobsRow.holds Try.pinned (OpenSpec.ofChange fnExactChargeJobsSpec)

/-- ITS FALSE NEIGHBOUR: 'it returns false'. Refute it at one input. -/
def fnExactChargeJobsWrong : ChangeSpec := { name := "fnExactChargeJobs", fn := fun _ => fun
  | [d1, d2] => { results := [.lit (.bool false)], args := [d1, d2] }
  | _ => none }
def FnExactChargeJobsWrongFalsely : Prop := fnExactChargeJobsRow.holds Try.pinned (OpenSpec.ofChange fnExactChargeJobsWrong)

/- THE SECOND FORM. 'bulk': how many values and letters a reading holds, each counted each time it is reached (what is shared counts as often as it is met; a slice's spare places count too). A statement '..UptoSaid' is the law's where the arguments, and the package variables that the reading takes, are together of bulk at most 1048576: NARROWER than '..Said'. Prove '..Said' where nothing that the law and all that it calls make is longer than what came in: it says more and counts as full. Else prove '..UptoSaid'. A law counts once. -/
mutual
def uptoBulk {H : Type} : DataW H → Nat
  | .lit (.string bytes) => bytes.length + 1
  | .lit _ => 1
  | .nil => 1
  | .ptr d => uptoBulk d + 1
  | .slice elems spare => uptoBulkAll elems + uptoBulkAll spare + 1
  | .agg parts => uptoBulkAll parts + 1
  | .iface _ d => uptoBulk d + 1
  | .map entries => uptoBulkEntries entries + 1
  | .held _ => 1
def uptoBulkAll {H : Type} : List (DataW H) → Nat
  | [] => 0
  | d :: r => uptoBulk d + uptoBulkAll r
def uptoBulkEntries {H : Type} : List (Lit × DataW H) → Nat
  | [] => 0
  | x :: r => uptoBulkEntry x + uptoBulkEntries r
def uptoBulkEntry {H : Type} : Lit × DataW H → Nat
  | (.string bytes, d) => bytes.length + uptoBulk d + 1
  | (_, d) => uptoBulk d + 1
 end
def uptoSmall : (H : Type) → List (DataW H) → Bool := fun _ ds => decide (uptoBulkAll ds ≤ 1048576)
def OpenSpec.upto (s : _root_.Go.ChangeSpec) : _root_.Go.OpenSpec := { _root_.Go.OpenSpec.ofChange s with cond := some uptoSmall }

/-- 'laws.FnExactReadBooklet', WHERE WHAT IT READS IS OF BULK AT MOST 1048576: true; the input reads as it did. -/
def fnExactReadBookletUptoRow : OpenClaim := { program := "ytifaojbmdahoiaa", sum := "b59d546398667f1fd8afbbf87e9fd903324b94ff1dd93767e0bd2e769442038a", func := "loop.example/g00987/laws.FnExactReadBooklet", spec := "fnExactReadBooklet", apart := false, narrowed := true }
def FnExactReadBookletUptoSaid : Prop := fnExactReadBookletUptoRow.holds Try.pinned (OpenSpec.upto fnExactReadBookletSpec)

/-- 'laws.FnExactJamTime', WHERE WHAT IT READS IS OF BULK AT MOST 1048576: true; the input reads as it did. -/
def fnExactJamTimeUptoRow : OpenClaim := { program := "ytifaojbmdahoiaa", sum := "b59d546398667f1fd8afbbf87e9fd903324b94ff1dd93767e0bd2e769442038a", func := "loop.example/g00987/laws.FnExactJamTime", spec := "fnExactJamTime", apart := false, narrowed := true }
def FnExactJamTimeUptoSaid : Prop := fnExactJamTimeUptoRow.holds Try.pinned (OpenSpec.upto fnExactJamTimeSpec)

/-- 'laws.FnExactBreakLines', WHERE WHAT IT READS IS OF BULK AT MOST 1048576: true; the input reads as it did. -/
def fnExactBreakLinesUptoRow : OpenClaim := { program := "ytifaojbmdahoiaa", sum := "b59d546398667f1fd8afbbf87e9fd903324b94ff1dd93767e0bd2e769442038a", func := "loop.example/g00987/laws.FnExactBreakLines", spec := "fnExactBreakLines", apart := false, narrowed := true }
def FnExactBreakLinesUptoSaid : Prop := fnExactBreakLinesUptoRow.holds Try.pinned (OpenSpec.upto fnExactBreakLinesSpec)

/-- 'laws.FnGaps', WHERE WHAT IT READS IS OF BULK AT MOST 1048576: true; the input reads as it did. -/
def fnGapsUptoRow : OpenClaim := { program := "ytifaojbmdahoiaa", sum := "b59d546398667f1fd8afbbf87e9fd903324b94ff1dd93767e0bd2e769442038a", func := "loop.example/g00987/laws.FnGaps", spec := "fnGaps", apart := false, narrowed := true }
def FnGapsUptoSaid : Prop := fnGapsUptoRow.holds Try.pinned (OpenSpec.upto fnGapsSpec)

/-- 'laws.FnExactPlaceAfter', WHERE WHAT IT READS IS OF BULK AT MOST 1048576: true; the input reads as it did. -/
def fnExactPlaceAfterUptoRow : OpenClaim := { program := "ytifaojbmdahoiaa", sum := "b59d546398667f1fd8afbbf87e9fd903324b94ff1dd93767e0bd2e769442038a", func := "loop.example/g00987/laws.FnExactPlaceAfter", spec := "fnExactPlaceAfter", apart := false, narrowed := true }
def FnExactPlaceAfterUptoSaid : Prop := fnExactPlaceAfterUptoRow.holds Try.pinned (OpenSpec.upto fnExactPlaceAfterSpec)

/-- 'laws.FnExactStepsTo', WHERE WHAT IT READS IS OF BULK AT MOST 1048576: true; the input reads as it did. -/
def fnExactStepsToUptoRow : OpenClaim := { program := "ytifaojbmdahoiaa", sum := "b59d546398667f1fd8afbbf87e9fd903324b94ff1dd93767e0bd2e769442038a", func := "loop.example/g00987/laws.FnExactStepsTo", spec := "fnExactStepsTo", apart := false, narrowed := true }
def FnExactStepsToUptoSaid : Prop := fnExactStepsToUptoRow.holds Try.pinned (OpenSpec.upto fnExactStepsToSpec)

/-- 'laws.FnExactHoldsGlyph', WHERE WHAT IT READS IS OF BULK AT MOST 1048576: true; the input reads as it did. -/
def fnExactHoldsGlyphUptoRow : OpenClaim := { program := "ytifaojbmdahoiaa", sum := "b59d546398667f1fd8afbbf87e9fd903324b94ff1dd93767e0bd2e769442038a", func := "loop.example/g00987/laws.FnExactHoldsGlyph", spec := "fnExactHoldsGlyph", apart := false, narrowed := true }
def FnExactHoldsGlyphUptoSaid : Prop := fnExactHoldsGlyphUptoRow.holds Try.pinned (OpenSpec.upto fnExactHoldsGlyphSpec)

/-- 'laws.FnExactGapAfter', WHERE WHAT IT READS IS OF BULK AT MOST 1048576: true; the input reads as it did. -/
def fnExactGapAfterUptoRow : OpenClaim := { program := "ytifaojbmdahoiaa", sum := "b59d546398667f1fd8afbbf87e9fd903324b94ff1dd93767e0bd2e769442038a", func := "loop.example/g00987/laws.FnExactGapAfter", spec := "fnExactGapAfter", apart := false, narrowed := true }
def FnExactGapAfterUptoSaid : Prop := fnExactGapAfterUptoRow.holds Try.pinned (OpenSpec.upto fnExactGapAfterSpec)

/-- 'laws.FnArrivals', WHERE WHAT IT READS IS OF BULK AT MOST 1048576: true; the input reads as it did. -/
def fnArrivalsUptoRow : OpenClaim := { program := "ytifaojbmdahoiaa", sum := "b59d546398667f1fd8afbbf87e9fd903324b94ff1dd93767e0bd2e769442038a", func := "loop.example/g00987/laws.FnArrivals", spec := "fnArrivals", apart := false, narrowed := true }
def FnArrivalsUptoSaid : Prop := fnArrivalsUptoRow.holds Try.pinned (OpenSpec.upto fnArrivalsSpec)

/-- 'laws.FnExactCacheOk', WHERE WHAT IT READS IS OF BULK AT MOST 1048576: true; the input reads as it did. -/
def fnExactCacheOkUptoRow : OpenClaim := { program := "ytifaojbmdahoiaa", sum := "b59d546398667f1fd8afbbf87e9fd903324b94ff1dd93767e0bd2e769442038a", func := "loop.example/g00987/laws.FnExactCacheOk", spec := "fnExactCacheOk", apart := false, narrowed := true }
def FnExactCacheOkUptoSaid : Prop := fnExactCacheOkUptoRow.holds Try.pinned (OpenSpec.upto fnExactCacheOkSpec)

/-- 'laws.FnCharges', WHERE WHAT IT READS IS OF BULK AT MOST 1048576: true; the input reads as it did. -/
def fnChargesUptoRow : OpenClaim := { program := "ytifaojbmdahoiaa", sum := "b59d546398667f1fd8afbbf87e9fd903324b94ff1dd93767e0bd2e769442038a", func := "loop.example/g00987/laws.FnCharges", spec := "fnCharges", apart := false, narrowed := true }
def FnChargesUptoSaid : Prop := fnChargesUptoRow.holds Try.pinned (OpenSpec.upto fnChargesSpec)

/-- 'laws.FnExactChargeJobs', WHERE WHAT IT READS IS OF BULK AT MOST 1048576: true; the input reads as it did. -/
def fnExactChargeJobsUptoRow : OpenClaim := { program := "ytifaojbmdahoiaa", sum := "b59d546398667f1fd8afbbf87e9fd903324b94ff1dd93767e0bd2e769442038a", func := "loop.example/g00987/laws.FnExactChargeJobs", spec := "fnExactChargeJobs", apart := false, narrowed := true }
def FnExactChargeJobsUptoSaid : Prop := fnExactChargeJobsUptoRow.holds Try.pinned (OpenSpec.upto fnExactChargeJobsSpec)

end Rows
end Go.Proofs.Ytifaojbmdahoiaa
