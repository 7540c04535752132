/-
  No cell of these rows narrows 'for every input' (looked for: loops, veiled, ifaces, maps, wideKeys, modest, calm, conditions, laid).
  DERIVED. THE GIVEN ROWS OF THIS SEAT. 4 by the template 'for every input the law returns true; each argument reads behind the call as it read before'; 0 by the template 'total and deterministic' (their statements: YtphjcllhlecpfaaTotals.lean).
  GIVEN WITH THE SEED: the statements are not yours to turn. If you find one false, say at which input.
  Laid BY PROGRAM, IN A SANDBOX (cutbox-rows.mjs): the forced cells as the released guide's own fill.sh prints them over the translation 40400c02da7c67f5… (all of the seat's roots in one cut). By AI agents, Wed Nov 11 2026. No macro, syntax, notation, axiom, sorry.
-/
import Derived.Test.YtphjcllhlecpfaaChecked
import GoSem.Claim
import GoSem.ClaimJoined
import GoSem.ClaimMapViews
import Derived.JoinedTies
import Derived.KernelRfl
namespace Go.Proofs.Ytphjcllhlecpfaa
/- THE CELL 'sum', in the pinned program and in every row, IS THE sha256 OF THE DUMP (.gsa) THAT YtphjcllhlecpfaaProg.lean LOADS. Nothing in Lean hashes anything: it is a label: what it is worth is what the hold of that sum in a sandbox is worth. -/
noncomputable def Try.pinned : Pinned := { name := "ytphjcllhlecpfaa", sum := "40400c02da7c67f5e2a19565c11497c5a2910285548f211d01a9d954a515a39b", checked := Try.checked }
namespace Rows
def none {H : Type} : Left H := { results := [], args := [] }

/-- 'laws.FnForgets': WHATEVER THE INPUT: true; the input reads as it did. -/
def fnForgetsSpec : ChangeSpec := { name := "fnForgets", fn := fun _ => fun
  | [d] => { results := [.lit (.bool true)], args := [d] }
  | _ => none }
def fnForgetsRow : OpenClaim := { program := "ytphjcllhlecpfaa", sum := "40400c02da7c67f5e2a19565c11497c5a2910285548f211d01a9d954a515a39b", func := "loop.example/g00987/laws.FnForgets", spec := "fnForgets", apart := false }
def FnForgetsSaid : Prop := fnForgetsRow.holds Try.pinned (OpenSpec.ofChange fnForgetsSpec)

/-- ITS FALSE NEIGHBOUR: 'it returns false'. Refute it at one input. -/
def fnForgetsWrong : ChangeSpec := { name := "fnForgets", fn := fun _ => fun
  | [d] => { results := [.lit (.bool false)], args := [d] }
  | _ => none }
def FnForgetsWrongFalsely : Prop := fnForgetsRow.holds Try.pinned (OpenSpec.ofChange fnForgetsWrong)

/-- 'laws.FnCaches': WHATEVER THE INPUT: true; the input reads as it did. -/
def fnCachesSpec : ChangeSpec := { name := "fnCaches", fn := fun _ => fun
  | [d] => { results := [.lit (.bool true)], args := [d] }
  | _ => none }
def fnCachesRow : OpenClaim := { program := "ytphjcllhlecpfaa", sum := "40400c02da7c67f5e2a19565c11497c5a2910285548f211d01a9d954a515a39b", func := "loop.example/g00987/laws.FnCaches", spec := "fnCaches", apart := false }
def FnCachesSaid : Prop := fnCachesRow.holds Try.pinned (OpenSpec.ofChange fnCachesSpec)

/-- ITS FALSE NEIGHBOUR: 'it returns false'. Refute it at one input. -/
def fnCachesWrong : ChangeSpec := { name := "fnCaches", fn := fun _ => fun
  | [d] => { results := [.lit (.bool false)], args := [d] }
  | _ => none }
def FnCachesWrongFalsely : Prop := fnCachesRow.holds Try.pinned (OpenSpec.ofChange fnCachesWrong)

/-- 'laws.FnExactForgetGlyph': WHATEVER THE INPUT: true; the input reads as it did. -/
def fnExactForgetGlyphSpec : ChangeSpec := { name := "fnExactForgetGlyph", fn := fun _ => fun
  | [d1, d2] => { results := [.lit (.bool true)], args := [d1, d2] }
  | _ => none }
def fnExactForgetGlyphRow : OpenClaim := { program := "ytphjcllhlecpfaa", sum := "40400c02da7c67f5e2a19565c11497c5a2910285548f211d01a9d954a515a39b", func := "loop.example/g00987/laws.FnExactForgetGlyph", spec := "fnExactForgetGlyph", apart := false }
def FnExactForgetGlyphSaid : Prop := fnExactForgetGlyphRow.holds Try.pinned (OpenSpec.ofChange fnExactForgetGlyphSpec)

/-- ITS FALSE NEIGHBOUR: 'it returns false'. Refute it at one input. -/
def fnExactForgetGlyphWrong : ChangeSpec := { name := "fnExactForgetGlyph", fn := fun _ => fun
  | [d1, d2] => { results := [.lit (.bool false)], args := [d1, d2] }
  | _ => none }
def FnExactForgetGlyphWrongFalsely : Prop := fnExactForgetGlyphRow.holds Try.pinned (OpenSpec.ofChange fnExactForgetGlyphWrong)

/-- 'laws.FnExactFetchGlyph': WHATEVER THE INPUT: true; the input reads as it did. -/
def fnExactFetchGlyphSpec : ChangeSpec := { name := "fnExactFetchGlyph", fn := fun _ => fun
  | [d1, d2, d3] => { results := [.lit (.bool true)], args := [d1, d2, d3] }
  | _ => none }
def fnExactFetchGlyphRow : OpenClaim := { program := "ytphjcllhlecpfaa", sum := "40400c02da7c67f5e2a19565c11497c5a2910285548f211d01a9d954a515a39b", func := "loop.example/g00987/laws.FnExactFetchGlyph", spec := "fnExactFetchGlyph", apart := false }
def FnExactFetchGlyphSaid : Prop := fnExactFetchGlyphRow.holds Try.pinned (OpenSpec.ofChange fnExactFetchGlyphSpec)

/-- ITS FALSE NEIGHBOUR: 'it returns false'. Refute it at one input. -/
def fnExactFetchGlyphWrong : ChangeSpec := { name := "fnExactFetchGlyph", fn := fun _ => fun
  | [d1, d2, d3] => { results := [.lit (.bool false)], args := [d1, d2, d3] }
  | _ => none }
def FnExactFetchGlyphWrongFalsely : Prop := fnExactFetchGlyphRow.holds Try.pinned (OpenSpec.ofChange fnExactFetchGlyphWrong)

/- THE SECOND FORM. 'bulk': how many values and letters a reading holds, each counted each time it is reached (what is shared counts as often as it is met; a slice's spare places count too). A statement '..UptoSaid' is the law's where the arguments, and the package variables that the reading takes, are together of bulk at most 1048576: NARROWER than '..Said'. Prove '..Said' where nothing that the law and all that it calls make is longer than what came in: it says more and counts as full. Else prove '..UptoSaid'. A law counts once. -/
mutual
def uptoBulk {H : Type} : DataW H → Nat
  | .lit (.string bytes) => bytes.length + 1
  | .lit _ => 1
  | .nil => 1
  | .ptr d => uptoBulk d + 1
  | .slice elems spare => uptoBulkAll elems + uptoBulkAll spare + 1
  | .agg parts => uptoBulkAll parts + 1
  | .iface _ d => uptoBulk d + 1
  | .map entries => uptoBulkEntries entries + 1
  | .held _ => 1
def uptoBulkAll {H : Type} : List (DataW H) → Nat
  | [] => 0
  | d :: r => uptoBulk d + uptoBulkAll r
def uptoBulkEntries {H : Type} : List (Lit × DataW H) → Nat
  | [] => 0
  | x :: r => uptoBulkEntry x + uptoBulkEntries r
def uptoBulkEntry {H : Type} : Lit × DataW H → Nat
  | (.string bytes, d) => bytes.length + uptoBulk d + 1
  | (_, d) => uptoBulk d + 1
 end
def uptoSmall : (H : Type) → List (DataW H) → Bool := fun _ ds => decide (uptoBulkAll ds ≤ 1048576)
def OpenSpec.upto (s : _root_.Go.ChangeSpec) : _root_.Go.OpenSpec := { _root_.Go.OpenSpec.ofChange s with cond := some uptoSmall }

/-- 'laws.FnForgets', WHERE WHAT IT READS IS OF BULK AT MOST 1048576: true; the input reads as it did. -/
def fnForgetsUptoRow : OpenClaim := { program := "ytphjcllhlecpfaa", sum := "40400c02da7c67f5e2a19565c11497c5a2910285548f211d01a9d954a515a39b", func := "loop.example/g00987/laws.FnForgets", spec := "fnForgets", apart := false, narrowed := true }
def FnForgetsUptoSaid : Prop := fnForgetsUptoRow.holds Try.pinned (OpenSpec.upto fnForgetsSpec)

/-- 'laws.FnCaches', WHERE WHAT IT READS IS OF BULK AT MOST 1048576: true; the input reads as it did. -/
def fnCachesUptoRow : OpenClaim := { program := "ytphjcllhlecpfaa", sum := "40400c02da7c67f5e2a19565c11497c5a2910285548f211d01a9d954a515a39b", func := "loop.example/g00987/laws.FnCaches", spec := "fnCaches", apart := false, narrowed := true }
def FnCachesUptoSaid : Prop := fnCachesUptoRow.holds Try.pinned (OpenSpec.upto fnCachesSpec)

/-- 'laws.FnExactForgetGlyph', WHERE WHAT IT READS IS OF BULK AT MOST 1048576: true; the input reads as it did. -/
def fnExactForgetGlyphUptoRow : OpenClaim := { program := "ytphjcllhlecpfaa", sum := "40400c02da7c67f5e2a19565c11497c5a2910285548f211d01a9d954a515a39b", func := "loop.example/g00987/laws.FnExactForgetGlyph", spec := "fnExactForgetGlyph", apart := false, narrowed := true }
def FnExactForgetGlyphUptoSaid : Prop := fnExactForgetGlyphUptoRow.holds Try.pinned (OpenSpec.upto fnExactForgetGlyphSpec)

/-- 'laws.FnExactFetchGlyph', WHERE WHAT IT READS IS OF BULK AT MOST 1048576: true; the input reads as it did. -/
def fnExactFetchGlyphUptoRow : OpenClaim := { program := "ytphjcllhlecpfaa", sum := "40400c02da7c67f5e2a19565c11497c5a2910285548f211d01a9d954a515a39b", func := "loop.example/g00987/laws.FnExactFetchGlyph", spec := "fnExactFetchGlyph", apart := false, narrowed := true }
def FnExactFetchGlyphUptoSaid : Prop := fnExactFetchGlyphUptoRow.holds Try.pinned (OpenSpec.upto fnExactFetchGlyphSpec)

end Rows
end Go.Proofs.Ytphjcllhlecpfaa
