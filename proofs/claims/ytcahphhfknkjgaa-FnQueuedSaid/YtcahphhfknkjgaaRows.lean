/-
  No cell of these rows narrows 'for every input' (looked for: loops, veiled, ifaces, maps, wideKeys, modest, calm, conditions, laid).
  DERIVED. THE GIVEN ROWS OF THIS SEAT. 9 by the template 'for every input the law returns true; each argument reads behind the call as it read before'; 0 by the template 'total and deterministic' (their statements: YtcahphhfknkjgaaTotals.lean).
  GIVEN WITH THE SEED: the statements are not yours to turn. If you find one false, say at which input.
  Laid BY PROGRAM, IN A SANDBOX (cutbox-rows.mjs): the forced cells as the released guide's own fill.sh prints them over the translation e2183c6a5f82a0be… (all of the seat's roots in one cut). By AI agents, Wed Nov 11 2026. No macro, syntax, notation, axiom, sorry.
-/
import Derived.Test.YtcahphhfknkjgaaChecked
import GoSem.Claim
import GoSem.ClaimJoined
import GoSem.ClaimMapViews
import Derived.JoinedTies
import Derived.KernelRfl
namespace Go.Proofs.Ytcahphhfknkjgaa
/- THE CELL 'sum', in the pinned program and in every row, IS THE sha256 OF THE DUMP (.gsa) THAT YtcahphhfknkjgaaProg.lean LOADS. Nothing in Lean hashes anything: it is a label: what it is worth is what the hold of that sum in a sandbox is worth. -/
noncomputable def Try.pinned : Pinned := { name := "ytcahphhfknkjgaa", sum := "e2183c6a5f82a0be0657d1caff0637b7552353b1470a6032007d737297b79537", checked := Try.checked }
namespace Rows
def none {H : Type} : Left H := { results := [], args := [] }

/-- 'laws.FnExactJobsOk': WHATEVER THE INPUT: true; the input reads as it did. -/
def fnExactJobsOkSpec : ChangeSpec := { name := "fnExactJobsOk", fn := fun _ => fun
  | [d] => { results := [.lit (.bool true)], args := [d] }
  | _ => none }
def fnExactJobsOkRow : OpenClaim := { program := "ytcahphhfknkjgaa", sum := "e2183c6a5f82a0be0657d1caff0637b7552353b1470a6032007d737297b79537", func := "loop.example/g00987/laws.FnExactJobsOk", spec := "fnExactJobsOk", unfollowed := true, recurses := true, apart := false }
def FnExactJobsOkSaid : Prop := fnExactJobsOkRow.holds Try.pinned (OpenSpec.ofChange fnExactJobsOkSpec)

/-- ITS FALSE NEIGHBOUR: 'it returns false'. Refute it at one input. -/
def fnExactJobsOkWrong : ChangeSpec := { name := "fnExactJobsOk", fn := fun _ => fun
  | [d] => { results := [.lit (.bool false)], args := [d] }
  | _ => none }
def FnExactJobsOkWrongFalsely : Prop := fnExactJobsOkRow.holds Try.pinned (OpenSpec.ofChange fnExactJobsOkWrong)

/-- 'laws.FnExactNextJob': WHATEVER THE INPUT: true; the input reads as it did. -/
def fnExactNextJobSpec : ChangeSpec := { name := "fnExactNextJob", fn := fun _ => fun
  | [d] => { results := [.lit (.bool true)], args := [d] }
  | _ => none }
def fnExactNextJobRow : OpenClaim := { program := "ytcahphhfknkjgaa", sum := "e2183c6a5f82a0be0657d1caff0637b7552353b1470a6032007d737297b79537", func := "loop.example/g00987/laws.FnExactNextJob", spec := "fnExactNextJob", unfollowed := true, recurses := true, apart := false }
def FnExactNextJobSaid : Prop := fnExactNextJobRow.holds Try.pinned (OpenSpec.ofChange fnExactNextJobSpec)

/-- ITS FALSE NEIGHBOUR: 'it returns false'. Refute it at one input. -/
def fnExactNextJobWrong : ChangeSpec := { name := "fnExactNextJob", fn := fun _ => fun
  | [d] => { results := [.lit (.bool false)], args := [d] }
  | _ => none }
def FnExactNextJobWrongFalsely : Prop := fnExactNextJobRow.holds Try.pinned (OpenSpec.ofChange fnExactNextJobWrong)

/-- 'laws.FnExactAddJob': WHATEVER THE INPUT: true; the input reads as it did. -/
def fnExactAddJobSpec : ChangeSpec := { name := "fnExactAddJob", fn := fun _ => fun
  | [d1, d2] => { results := [.lit (.bool true)], args := [d1, d2] }
  | _ => none }
def fnExactAddJobRow : OpenClaim := { program := "ytcahphhfknkjgaa", sum := "e2183c6a5f82a0be0657d1caff0637b7552353b1470a6032007d737297b79537", func := "loop.example/g00987/laws.FnExactAddJob", spec := "fnExactAddJob", unfollowed := true, recurses := true, apart := false }
def FnExactAddJobSaid : Prop := fnExactAddJobRow.holds Try.pinned (OpenSpec.ofChange fnExactAddJobSpec)

/-- ITS FALSE NEIGHBOUR: 'it returns false'. Refute it at one input. -/
def fnExactAddJobWrong : ChangeSpec := { name := "fnExactAddJob", fn := fun _ => fun
  | [d1, d2] => { results := [.lit (.bool false)], args := [d1, d2] }
  | _ => none }
def FnExactAddJobWrongFalsely : Prop := fnExactAddJobRow.holds Try.pinned (OpenSpec.ofChange fnExactAddJobWrong)

/-- 'laws.FnExactReleaseJob': WHATEVER THE INPUT: true; the input reads as it did. -/
def fnExactReleaseJobSpec : ChangeSpec := { name := "fnExactReleaseJob", fn := fun _ => fun
  | [d1, d2] => { results := [.lit (.bool true)], args := [d1, d2] }
  | _ => none }
def fnExactReleaseJobRow : OpenClaim := { program := "ytcahphhfknkjgaa", sum := "e2183c6a5f82a0be0657d1caff0637b7552353b1470a6032007d737297b79537", func := "loop.example/g00987/laws.FnExactReleaseJob", spec := "fnExactReleaseJob", unfollowed := true, recurses := true, apart := false }
def FnExactReleaseJobSaid : Prop := fnExactReleaseJobRow.holds Try.pinned (OpenSpec.ofChange fnExactReleaseJobSpec)

/-- ITS FALSE NEIGHBOUR: 'it returns false'. Refute it at one input. -/
def fnExactReleaseJobWrong : ChangeSpec := { name := "fnExactReleaseJob", fn := fun _ => fun
  | [d1, d2] => { results := [.lit (.bool false)], args := [d1, d2] }
  | _ => none }
def FnExactReleaseJobWrongFalsely : Prop := fnExactReleaseJobRow.holds Try.pinned (OpenSpec.ofChange fnExactReleaseJobWrong)

/-- 'laws.FnExactCancelJob': WHATEVER THE INPUT: true; the input reads as it did. -/
def fnExactCancelJobSpec : ChangeSpec := { name := "fnExactCancelJob", fn := fun _ => fun
  | [d1, d2] => { results := [.lit (.bool true)], args := [d1, d2] }
  | _ => none }
def fnExactCancelJobRow : OpenClaim := { program := "ytcahphhfknkjgaa", sum := "e2183c6a5f82a0be0657d1caff0637b7552353b1470a6032007d737297b79537", func := "loop.example/g00987/laws.FnExactCancelJob", spec := "fnExactCancelJob", unfollowed := true, recurses := true, apart := false }
def FnExactCancelJobSaid : Prop := fnExactCancelJobRow.holds Try.pinned (OpenSpec.ofChange fnExactCancelJobSpec)

/-- ITS FALSE NEIGHBOUR: 'it returns false'. Refute it at one input. -/
def fnExactCancelJobWrong : ChangeSpec := { name := "fnExactCancelJob", fn := fun _ => fun
  | [d1, d2] => { results := [.lit (.bool false)], args := [d1, d2] }
  | _ => none }
def FnExactCancelJobWrongFalsely : Prop := fnExactCancelJobRow.holds Try.pinned (OpenSpec.ofChange fnExactCancelJobWrong)

/-- 'laws.FnExactTakeJob': WHATEVER THE INPUT: true; the input reads as it did. -/
def fnExactTakeJobSpec : ChangeSpec := { name := "fnExactTakeJob", fn := fun _ => fun
  | [d] => { results := [.lit (.bool true)], args := [d] }
  | _ => none }
def fnExactTakeJobRow : OpenClaim := { program := "ytcahphhfknkjgaa", sum := "e2183c6a5f82a0be0657d1caff0637b7552353b1470a6032007d737297b79537", func := "loop.example/g00987/laws.FnExactTakeJob", spec := "fnExactTakeJob", unfollowed := true, recurses := true, apart := false }
def FnExactTakeJobSaid : Prop := fnExactTakeJobRow.holds Try.pinned (OpenSpec.ofChange fnExactTakeJobSpec)

/-- ITS FALSE NEIGHBOUR: 'it returns false'. Refute it at one input. -/
def fnExactTakeJobWrong : ChangeSpec := { name := "fnExactTakeJob", fn := fun _ => fun
  | [d] => { results := [.lit (.bool false)], args := [d] }
  | _ => none }
def FnExactTakeJobWrongFalsely : Prop := fnExactTakeJobRow.holds Try.pinned (OpenSpec.ofChange fnExactTakeJobWrong)

/-- 'laws.FnExactPrintOrder': WHATEVER THE INPUT: true; the input reads as it did. -/
def fnExactPrintOrderSpec : ChangeSpec := { name := "fnExactPrintOrder", fn := fun _ => fun
  | [d] => { results := [.lit (.bool true)], args := [d] }
  | _ => none }
def fnExactPrintOrderRow : OpenClaim := { program := "ytcahphhfknkjgaa", sum := "e2183c6a5f82a0be0657d1caff0637b7552353b1470a6032007d737297b79537", func := "loop.example/g00987/laws.FnExactPrintOrder", spec := "fnExactPrintOrder", unfollowed := true, recurses := true, apart := false }
def FnExactPrintOrderSaid : Prop := fnExactPrintOrderRow.holds Try.pinned (OpenSpec.ofChange fnExactPrintOrderSpec)

/-- ITS FALSE NEIGHBOUR: 'it returns false'. Refute it at one input. -/
def fnExactPrintOrderWrong : ChangeSpec := { name := "fnExactPrintOrder", fn := fun _ => fun
  | [d] => { results := [.lit (.bool false)], args := [d] }
  | _ => none }
def FnExactPrintOrderWrongFalsely : Prop := fnExactPrintOrderRow.holds Try.pinned (OpenSpec.ofChange fnExactPrintOrderWrong)

/-- 'laws.FnQueued': WHATEVER THE INPUT: true; the input reads as it did. -/
def fnQueuedSpec : ChangeSpec := { name := "fnQueued", fn := fun _ => fun
  | [d] => { results := [.lit (.bool true)], args := [d] }
  | _ => none }
def fnQueuedRow : OpenClaim := { program := "ytcahphhfknkjgaa", sum := "e2183c6a5f82a0be0657d1caff0637b7552353b1470a6032007d737297b79537", func := "loop.example/g00987/laws.FnQueued", spec := "fnQueued", unfollowed := true, recurses := true, apart := false }
def FnQueuedSaid : Prop := fnQueuedRow.holds Try.pinned (OpenSpec.ofChange fnQueuedSpec)

/-- ITS FALSE NEIGHBOUR: 'it returns false'. Refute it at one input. -/
def fnQueuedWrong : ChangeSpec := { name := "fnQueued", fn := fun _ => fun
  | [d] => { results := [.lit (.bool false)], args := [d] }
  | _ => none }
def FnQueuedWrongFalsely : Prop := fnQueuedRow.holds Try.pinned (OpenSpec.ofChange fnQueuedWrong)

/-- 'laws.FnSpools': WHATEVER THE INPUT: true; the input reads as it did. -/
def fnSpoolsSpec : ChangeSpec := { name := "fnSpools", fn := fun _ => fun
  | [d] => { results := [.lit (.bool true)], args := [d] }
  | _ => none }
def fnSpoolsRow : OpenClaim := { program := "ytcahphhfknkjgaa", sum := "e2183c6a5f82a0be0657d1caff0637b7552353b1470a6032007d737297b79537", func := "loop.example/g00987/laws.FnSpools", spec := "fnSpools", unfollowed := true, recurses := true, apart := false }
def FnSpoolsSaid : Prop := fnSpoolsRow.holds Try.pinned (OpenSpec.ofChange fnSpoolsSpec)

/-- ITS FALSE NEIGHBOUR: 'it returns false'. Refute it at one input. -/
def fnSpoolsWrong : ChangeSpec := { name := "fnSpools", fn := fun _ => fun
  | [d] => { results := [.lit (.bool false)], args := [d] }
  | _ => none }
def FnSpoolsWrongFalsely : Prop := fnSpoolsRow.holds Try.pinned (OpenSpec.ofChange fnSpoolsWrong)

/- THE SECOND FORM. 'bulk': how many values and letters a reading holds, each counted each time it is reached (what is shared counts as often as it is met; a slice's spare places count too). A statement '..UptoSaid' is the law's where the arguments, and the package variables that the reading takes, are together of bulk at most 1048576: NARROWER than '..Said'. Prove '..Said' where nothing that the law and all that it calls make is longer than what came in: it says more and counts as full. Else prove '..UptoSaid'. A law counts once. -/
mutual
def uptoBulk {H : Type} : DataW H → Nat
  | .lit (.string bytes) => bytes.length + 1
  | .lit _ => 1
  | .nil => 1
  | .ptr d => uptoBulk d + 1
  | .slice elems spare => uptoBulkAll elems + uptoBulkAll spare + 1
  | .agg parts => uptoBulkAll parts + 1
  | .iface _ d => uptoBulk d + 1
  | .map entries => uptoBulkEntries entries + 1
  | .held _ => 1
def uptoBulkAll {H : Type} : List (DataW H) → Nat
  | [] => 0
  | d :: r => uptoBulk d + uptoBulkAll r
def uptoBulkEntries {H : Type} : List (Lit × DataW H) → Nat
  | [] => 0
  | x :: r => uptoBulkEntry x + uptoBulkEntries r
def uptoBulkEntry {H : Type} : Lit × DataW H → Nat
  | (.string bytes, d) => bytes.length + uptoBulk d + 1
  | (_, d) => uptoBulk d + 1
 end
def uptoSmall : (H : Type) → List (DataW H) → Bool := fun _ ds => decide (uptoBulkAll ds ≤ 1048576)
def OpenSpec.upto (s : _root_.Go.ChangeSpec) : _root_.Go.OpenSpec := { _root_.Go.OpenSpec.ofChange s with cond := some uptoSmall }

/-- 'laws.FnExactJobsOk', WHERE WHAT IT READS IS OF BULK AT MOST 1048576: true; the input reads as it did. -/
def fnExactJobsOkUptoRow : OpenClaim := { program := "ytcahphhfknkjgaa", sum := "e2183c6a5f82a0be0657d1caff0637b7552353b1470a6032007d737297b79537", func := "loop.example/g00987/laws.FnExactJobsOk", spec := "fnExactJobsOk", unfollowed := true, recurses := true, apart := false, narrowed := true }
def FnExactJobsOkUptoSaid : Prop := fnExactJobsOkUptoRow.holds Try.pinned (OpenSpec.upto fnExactJobsOkSpec)

/-- 'laws.FnExactNextJob', WHERE WHAT IT READS IS OF BULK AT MOST 1048576: true; the input reads as it did. -/
def fnExactNextJobUptoRow : OpenClaim := { program := "ytcahphhfknkjgaa", sum := "e2183c6a5f82a0be0657d1caff0637b7552353b1470a6032007d737297b79537", func := "loop.example/g00987/laws.FnExactNextJob", spec := "fnExactNextJob", unfollowed := true, recurses := true, apart := false, narrowed := true }
def FnExactNextJobUptoSaid : Prop := fnExactNextJobUptoRow.holds Try.pinned (OpenSpec.upto fnExactNextJobSpec)

/-- 'laws.FnExactAddJob', WHERE WHAT IT READS IS OF BULK AT MOST 1048576: true; the input reads as it did. -/
def fnExactAddJobUptoRow : OpenClaim := { program := "ytcahphhfknkjgaa", sum := "e2183c6a5f82a0be0657d1caff0637b7552353b1470a6032007d737297b79537", func := "loop.example/g00987/laws.FnExactAddJob", spec := "fnExactAddJob", unfollowed := true, recurses := true, apart := false, narrowed := true }
def FnExactAddJobUptoSaid : Prop := fnExactAddJobUptoRow.holds Try.pinned (OpenSpec.upto fnExactAddJobSpec)

/-- 'laws.FnExactReleaseJob', WHERE WHAT IT READS IS OF BULK AT MOST 1048576: true; the input reads as it did. -/
def fnExactReleaseJobUptoRow : OpenClaim := { program := "ytcahphhfknkjgaa", sum := "e2183c6a5f82a0be0657d1caff0637b7552353b1470a6032007d737297b79537", func := "loop.example/g00987/laws.FnExactReleaseJob", spec := "fnExactReleaseJob", unfollowed := true, recurses := true, apart := false, narrowed := true }
def FnExactReleaseJobUptoSaid : Prop := fnExactReleaseJobUptoRow.holds Try.pinned (OpenSpec.upto fnExactReleaseJobSpec)

/-- 'laws.FnExactCancelJob', WHERE WHAT IT READS IS OF BULK AT MOST 1048576: true; the input reads as it did. -/
def fnExactCancelJobUptoRow : OpenClaim := { program := "ytcahphhfknkjgaa", sum := "e2183c6a5f82a0be0657d1caff0637b7552353b1470a6032007d737297b79537", func := "loop.example/g00987/laws.FnExactCancelJob", spec := "fnExactCancelJob", unfollowed := true, recurses := true, apart := false, narrowed := true }
def FnExactCancelJobUptoSaid : Prop := fnExactCancelJobUptoRow.holds Try.pinned (OpenSpec.upto fnExactCancelJobSpec)

/-- 'laws.FnExactTakeJob', WHERE WHAT IT READS IS OF BULK AT MOST 1048576: true; the input reads as it did. -/
def fnExactTakeJobUptoRow : OpenClaim := { program := "ytcahphhfknkjgaa", sum := "e2183c6a5f82a0be0657d1caff0637b7552353b1470a6032007d737297b79537", func := "loop.example/g00987/laws.FnExactTakeJob", spec := "fnExactTakeJob", unfollowed := true, recurses := true, apart := false, narrowed := true }
def FnExactTakeJobUptoSaid : Prop := fnExactTakeJobUptoRow.holds Try.pinned (OpenSpec.upto fnExactTakeJobSpec)

/-- 'laws.FnExactPrintOrder', WHERE WHAT IT READS IS OF BULK AT MOST 1048576: true; the input reads as it did. -/
def fnExactPrintOrderUptoRow : OpenClaim := { program := "ytcahphhfknkjgaa", sum := "e2183c6a5f82a0be0657d1caff0637b7552353b1470a6032007d737297b79537", func := "loop.example/g00987/laws.FnExactPrintOrder", spec := "fnExactPrintOrder", unfollowed := true, recurses := true, apart := false, narrowed := true }
def FnExactPrintOrderUptoSaid : Prop := fnExactPrintOrderUptoRow.holds Try.pinned (OpenSpec.upto fnExactPrintOrderSpec)

/-- 'laws.FnQueued', WHERE WHAT IT READS IS OF BULK AT MOST 1048576: true; the input reads as it did. -/
def fnQueuedUptoRow : OpenClaim := { program := "ytcahphhfknkjgaa", sum := "e2183c6a5f82a0be0657d1caff0637b7552353b1470a6032007d737297b79537", func := "loop.example/g00987/laws.FnQueued", spec := "fnQueued", unfollowed := true, recurses := true, apart := false, narrowed := true }
def FnQueuedUptoSaid : Prop := fnQueuedUptoRow.holds Try.pinned (OpenSpec.upto fnQueuedSpec)

/-- 'laws.FnSpools', WHERE WHAT IT READS IS OF BULK AT MOST 1048576: true; the input reads as it did. -/
def fnSpoolsUptoRow : OpenClaim := { program := "ytcahphhfknkjgaa", sum := "e2183c6a5f82a0be0657d1caff0637b7552353b1470a6032007d737297b79537", func := "loop.example/g00987/laws.FnSpools", spec := "fnSpools", unfollowed := true, recurses := true, apart := false, narrowed := true }
def FnSpoolsUptoSaid : Prop := fnSpoolsUptoRow.holds Try.pinned (OpenSpec.upto fnSpoolsSpec)

end Rows
end Go.Proofs.Ytcahphhfknkjgaa
