/- The program's JobOk answers as the reference's for every job: no condition. -/
import Derived.Test.YtmhdmebbefbcbaaOpsFnExactJobOk
import Derived.Test.YtmhdmebbefbcbaaPlain
namespace Go.Proofs.Ytmhdmebbefbcbaa.PureFnExactJobOk
open Go.RowKit Go.Proofs.Ytmhdmebbefbcbaa.PFnExactJobOk Go.Proofs.Ytmhdmebbefbcbaa.Opened Go.Proofs.Ytmhdmebbefbcbaa.Plain Go.Proofs.YtmhdmebbefbcbaaW.PrintWords Go.Proofs.YtmhdmebbefbcbaaW.PrintLast
theorem in_some (a b c : Int) : ∃ r, spec_l01In.f a b c = some r := by unfold spec_l01In.f; split <;> exact ⟨_, rfl⟩
theorem ok_some (a b c : Int) (d : Bool) (e : Int) (f : Bool) : ∃ r, spec_JobOk.f a b c d e f = some r := by
  unfold spec_JobOk.f
  obtain ⟨r, h⟩ := in_some a 1 9999
  obtain ⟨r2, h2⟩ := in_some b 1 64
  obtain ⟨r3, h3⟩ := in_some c 1 20
  obtain ⟨r4, h4⟩ := in_some e 0 9
  rw [h, h2, h3, h4]
  simp only [Option.bind_some]
  repeat' split
  all_goals exact ⟨_, rfl⟩
theorem ok_eq (a b c : Int) (d : Bool) (e : Int) (f : Bool) : impl_JobOk.f a b c d e f = spec_JobOk.f a b c d e f := rfl
theorem pure : laws_FnExactJobOk.Stm := by
  intro a b c d e f _ _ _ _
  obtain ⟨r, hr⟩ := ok_some a b c d e f
  unfold laws_FnExactJobOk.f laws_toJob.f
  simp only [Option.bind_some, ok_eq, hr]
  simp
end Go.Proofs.Ytmhdmebbefbcbaa.PureFnExactJobOk
