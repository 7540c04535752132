/- The program's Settle answers as the reference's for every account and numbers of sheets: no condition. -/
import Derived.Test.YtmhdmebbefbcbaaOpsFnExactSettle
import Derived.Test.YtmhdmebbefbcbaaPlain
namespace Go.Proofs.Ytmhdmebbefbcbaa.PureFnExactSettle
open Go.RowKit Go.Proofs.Ytmhdmebbefbcbaa.PFnExactSettle Go.Proofs.Ytmhdmebbefbcbaa.Opened Go.Proofs.Ytmhdmebbefbcbaa.Plain Go.Proofs.YtmhdmebbefbcbaaW.PrintWords Go.Proofs.YtmhdmebbefbcbaaW.PrintLast
theorem in_some (a b c : Int) : ∃ r, spec_l01In.f a b c = some r := by unfold spec_l01In.f; split <;> exact ⟨_, rfl⟩
theorem ok_some (a b c : Int) : ∃ r, spec_AccountOk.f a b c = some r := by
  unfold spec_AccountOk.f
  obtain ⟨r, h⟩ := in_some a 0 1000000
  obtain ⟨r2, h2⟩ := in_some b 0 1000000
  obtain ⟨r3, h3⟩ := in_some c 0 1000000
  rw [h, h2, h3]
  simp only [Option.bind_some]
  repeat' split
  all_goals exact ⟨_, rfl⟩
theorem settle_eq (a b c d e : Int) : impl_Settle.f a b c d e = spec_Settle.f a b c d e := rfl
theorem settle_some (a b c d e : Int) : ∃ r, spec_Settle.f a b c d e = some r := by
  obtain ⟨r, hr⟩ := ok_some a b c
  obtain ⟨r2, h2⟩ := in_some d 0 b
  obtain ⟨r3, h3⟩ := in_some e 0 d
  unfold spec_Settle.f
  rw [hr, h2, h3]
  simp only [Option.bind_some]
  repeat' split
  all_goals exact ⟨_, rfl⟩
theorem pure : laws_FnExactSettle.Stm := by
  intro a b c d e _ _ _ _ _
  obtain ⟨r, hr⟩ := settle_some a b c d e
  unfold laws_FnExactSettle.f laws_toAccount.f laws_eqAccount.f
  simp only [Option.bind_some, settle_eq, hr]
  simp
end Go.Proofs.Ytmhdmebbefbcbaa.PureFnExactSettle
