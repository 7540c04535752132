/-
  DERIVED. GIVEN WITH THE SEED: THE CARDS: each row of YtneeokmfpiacoaaDoorRows.lean that lists a variable, with what it lists TIED to the program's text (the seventh form; the later family's looks); each row that meets fmt, with fmt's text TOLD by the authors' own Lean function (tested against real Go, not proved from fmt's source: count such statements apart). THE CARD IS WHAT COUNTS. Prove the row's statement (the work); the ties are given (YtneeokmfpiacoaaDoorTie.lean); close each card by the builder's one call (the guide's Derived/Test/ToyasCard.lean, 'card_holds'). Laid BY PROGRAM, IN A SANDBOX (cutbox-door.mjs). By AI agents, Wed Nov 11 2026. No macro, syntax, notation, axiom, sorry.
-/
import Derived.Test.YtneeokmfpiacoaaDoorRows
import GoSem.ClaimSeven
namespace Go.Proofs.YtneeokmfpiacoaaDoor
namespace Rows

/-- THE TIED CARD OF 'laws.FnExactFormatJob'. -/
def fnExactFormatJobCard : Claim7 := { stood := { row := fnExactFormatJobRow, standIns := [], harness := (true, "39944dfd3c55cfccc07faa23954dd1288181915b5653d3ba0e2389bfb5a3f3ed"), looks := false }, kinds := [], alts := [], laidByText := true, laidKinds := [.data, .data, .data], laidTests := true, laidLooks := .later }
def FnExactFormatJobCardSaid : Prop := Claim7.holds Tryd.pinned (.plain (OpenSpec.ofChange fnExactFormatJobSpec)) fnExactFormatJobCard

/-- THE TIED CARD OF 'laws.FnExactParseJob'. -/
def fnExactParseJobCard : Claim7 := { stood := { row := fnExactParseJobRow, standIns := [], harness := (true, "39944dfd3c55cfccc07faa23954dd1288181915b5653d3ba0e2389bfb5a3f3ed"), looks := false }, kinds := [], alts := [], laidByText := true, laidKinds := [.data, .data, .data, .data, .pinned], laidTests := true, laidLooks := .later }
def FnExactParseJobCardSaid : Prop := Claim7.holds Tryd.pinned (.plain (OpenSpec.ofChange fnExactParseJobSpec)) fnExactParseJobCard

/-- THE TIED CARD OF 'laws.FnJobs'. -/
def fnJobsCard : Claim7 := { stood := { row := fnJobsRow, standIns := [], harness := (true, "39944dfd3c55cfccc07faa23954dd1288181915b5653d3ba0e2389bfb5a3f3ed"), looks := false }, kinds := [], alts := [], laidByText := true, laidKinds := [.data, .data, .data, .data, .pinned], laidTests := true, laidLooks := .later }
def FnJobsCardSaid : Prop := Claim7.holds Tryd.pinned (.plain (OpenSpec.ofChange fnJobsSpec)) fnJobsCard

/-- THE SECOND FORM's CARD OF 'laws.FnExactFormatJob'. -/
def fnExactFormatJobUptoCard : Claim7 := { stood := { row := fnExactFormatJobUptoRow, standIns := [], harness := (true, "39944dfd3c55cfccc07faa23954dd1288181915b5653d3ba0e2389bfb5a3f3ed"), looks := false }, kinds := [], alts := [], laidByText := true, laidKinds := [.data, .data, .data], laidTests := true, laidLooks := .later }
def FnExactFormatJobUptoCardSaid : Prop := Claim7.holds Tryd.pinned (.plain (OpenSpec.upto fnExactFormatJobSpec)) fnExactFormatJobUptoCard

/-- THE SECOND FORM's CARD OF 'laws.FnExactParseJob'. -/
def fnExactParseJobUptoCard : Claim7 := { stood := { row := fnExactParseJobUptoRow, standIns := [], harness := (true, "39944dfd3c55cfccc07faa23954dd1288181915b5653d3ba0e2389bfb5a3f3ed"), looks := false }, kinds := [], alts := [], laidByText := true, laidKinds := [.data, .data, .data, .data, .pinned], laidTests := true, laidLooks := .later }
def FnExactParseJobUptoCardSaid : Prop := Claim7.holds Tryd.pinned (.plain (OpenSpec.upto fnExactParseJobSpec)) fnExactParseJobUptoCard

/-- THE SECOND FORM's CARD OF 'laws.FnJobs'. -/
def fnJobsUptoCard : Claim7 := { stood := { row := fnJobsUptoRow, standIns := [], harness := (true, "39944dfd3c55cfccc07faa23954dd1288181915b5653d3ba0e2389bfb5a3f3ed"), looks := false }, kinds := [], alts := [], laidByText := true, laidKinds := [.data, .data, .data, .data, .pinned], laidTests := true, laidLooks := .later }
def FnJobsUptoCardSaid : Prop := Claim7.holds Tryd.pinned (.plain (OpenSpec.upto fnJobsSpec)) fnJobsUptoCard
end Rows
end Go.Proofs.YtneeokmfpiacoaaDoor
