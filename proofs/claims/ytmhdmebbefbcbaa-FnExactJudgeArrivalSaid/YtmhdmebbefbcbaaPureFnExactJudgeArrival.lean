/- The program's JudgeArrival answers as the reference's for every arrival: no condition. -/
import Derived.Test.YtmhdmebbefbcbaaOpsFnExactJudgeArrival
import Derived.Test.YtmhdmebbefbcbaaPlain
namespace Go.Proofs.Ytmhdmebbefbcbaa.PureFnExactJudgeArrival
open Go.RowKit Go.Proofs.Ytmhdmebbefbcbaa.PFnExactJudgeArrival Go.Proofs.Ytmhdmebbefbcbaa.Opened Go.Proofs.Ytmhdmebbefbcbaa.Plain Go.Proofs.YtmhdmebbefbcbaaW.PrintWords Go.Proofs.YtmhdmebbefbcbaaW.PrintLast
theorem in_some (a b c : Int) : ∃ r, spec_l01In.f a b c = some r := by unfold spec_l01In.f; split <;> exact ⟨_, rfl⟩
theorem ok_some (a b c : Int) : ∃ r, spec_ArrivalOk.f a b c = some r := by
  unfold spec_ArrivalOk.f
  obtain ⟨r, h⟩ := in_some a 0 10000
  obtain ⟨r2, h2⟩ := in_some b 0 100
  obtain ⟨r3, h3⟩ := in_some c (-1) 20000
  rw [h, h2, h3]
  simp only [Option.bind_some]
  repeat' split
  all_goals exact ⟨_, rfl⟩
theorem judge_eq (a b c : Int) : impl_JudgeArrival.f a b c = spec_JudgeArrival.f a b c := rfl
theorem judge_some (a b c : Int) : ∃ r, spec_JudgeArrival.f a b c = some r := by
  obtain ⟨r, hr⟩ := ok_some a b c
  unfold spec_JudgeArrival.f
  rw [hr]
  simp only [Option.bind_some]
  repeat' split
  all_goals exact ⟨_, rfl⟩
theorem pure : laws_FnExactJudgeArrival.Stm := by
  intro a b c _ _ _
  obtain ⟨r, hr⟩ := judge_some a b c
  unfold laws_FnExactJudgeArrival.f laws_toArrival.f
  simp only [Option.bind_some, judge_eq, hr]
  simp
end Go.Proofs.Ytmhdmebbefbcbaa.PureFnExactJudgeArrival
