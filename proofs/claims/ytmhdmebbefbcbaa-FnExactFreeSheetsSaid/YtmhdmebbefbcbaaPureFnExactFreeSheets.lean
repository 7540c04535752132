/- The program's FreeSheets answers as the reference's for every account: no condition. -/
import Derived.Test.YtmhdmebbefbcbaaOpsFnExactFreeSheets
import Derived.Test.YtmhdmebbefbcbaaPlain
namespace Go.Proofs.Ytmhdmebbefbcbaa.PureFnExactFreeSheets
open Go.RowKit Go.Proofs.Ytmhdmebbefbcbaa.PFnExactFreeSheets Go.Proofs.Ytmhdmebbefbcbaa.Opened Go.Proofs.Ytmhdmebbefbcbaa.Plain Go.Proofs.YtmhdmebbefbcbaaW.PrintWords Go.Proofs.YtmhdmebbefbcbaaW.PrintLast
theorem in_some (a b c : Int) : ∃ r, spec_l01In.f a b c = some r := by unfold spec_l01In.f; split <;> exact ⟨_, rfl⟩
theorem ok_some (a b c : Int) : ∃ r, spec_AccountOk.f a b c = some r := by
  unfold spec_AccountOk.f
  obtain ⟨r, h⟩ := in_some a 0 1000000
  obtain ⟨r2, h2⟩ := in_some b 0 1000000
  obtain ⟨r3, h3⟩ := in_some c 0 1000000
  rw [h, h2, h3]
  simp only [Option.bind_some]
  repeat' split
  all_goals exact ⟨_, rfl⟩
theorem free_eq (a b c : Int) : impl_FreeSheets.f a b c = spec_FreeSheets.f a b c := rfl
theorem free_some (a b c : Int) : ∃ r, spec_FreeSheets.f a b c = some r := by
  obtain ⟨r, hr⟩ := ok_some a b c
  unfold spec_FreeSheets.f
  rw [hr]
  simp only [Option.bind_some]
  split <;> exact ⟨_, rfl⟩
theorem pure : laws_FnExactFreeSheets.Stm := by
  intro a b c _ _ _
  obtain ⟨r, hr⟩ := free_some a b c
  unfold laws_FnExactFreeSheets.f laws_toAccount.f
  simp only [Option.bind_some, free_eq, hr]
  simp
end Go.Proofs.Ytmhdmebbefbcbaa.PureFnExactFreeSheets
