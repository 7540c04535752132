/- The program's Reserve answers as the reference's for every account and number of sheets: no condition. -/
import Derived.Test.YtmhdmebbefbcbaaOpsFnExactReserve
import Derived.Test.YtmhdmebbefbcbaaPlain
namespace Go.Proofs.Ytmhdmebbefbcbaa.PureFnExactReserve
open Go.RowKit Go.Proofs.Ytmhdmebbefbcbaa.PFnExactReserve Go.Proofs.Ytmhdmebbefbcbaa.Opened Go.Proofs.Ytmhdmebbefbcbaa.Plain Go.Proofs.YtmhdmebbefbcbaaW.PrintWords Go.Proofs.YtmhdmebbefbcbaaW.PrintLast
theorem in_some (a b c : Int) : ∃ r, spec_l01In.f a b c = some r := by unfold spec_l01In.f; split <;> exact ⟨_, rfl⟩
theorem ok_some (a b c : Int) : ∃ r, spec_AccountOk.f a b c = some r := by
  unfold spec_AccountOk.f
  obtain ⟨r, h⟩ := in_some a 0 1000000
  obtain ⟨r2, h2⟩ := in_some b 0 1000000
  obtain ⟨r3, h3⟩ := in_some c 0 1000000
  rw [h, h2, h3]
  simp only [Option.bind_some]
  repeat' split
  all_goals exact ⟨_, rfl⟩
def inB (a b c : Int) : Bool := if a ≥ b then decide (a ≤ c) else false
theorem in_eq (a b c : Int) : spec_l01In.f a b c = some (inB a b c) := by unfold spec_l01In.f inB; split <;> rfl
theorem within_eq (a b c : Int) : impl_within.f a b c = some (inB a b c) := in_eq a b c
theorem inB_iff (a b c : Int) : inB a b c = true ↔ b ≤ a ∧ a ≤ c := by unfold inB; split <;> simp <;> omega
def okB (a b c : Int) : Bool := inB a 0 1000000 && (inB b 0 1000000 && (inB c 0 1000000 && decide (wrap64 (b + c) ≤ a)))
theorem ok_eq (a b c : Int) : spec_AccountOk.f a b c = some (okB a b c) := by
  unfold spec_AccountOk.f okB
  simp only [in_eq, Option.bind_some]
  cases inB a 0 1000000 <;> cases inB b 0 1000000 <;> cases inB c 0 1000000 <;> simp
theorem iok_eq (a b c : Int) : impl_AccountOk.f a b c = some (okB a b c) := ok_eq a b c
theorem okB_iff (a b c : Int) : okB a b c = true ↔ (0 ≤ a ∧ a ≤ 1000000) ∧ (0 ≤ b ∧ b ≤ 1000000) ∧ (0 ≤ c ∧ c ≤ 1000000) ∧ wrap64 (b + c) ≤ a := by
  simp [okB, inB_iff]
theorem reserve_eq (a b c d : Int) : impl_Reserve.f 1 a b c d = spec_Reserve.f a b c d := by
  unfold impl_Reserve.f spec_Reserve.f
  simp only [ok_eq, iok_eq, in_eq, within_eq, Option.bind_some, impl_Reserve.j0]
  cases h : okB a b c with
  | false => simp
  | true =>
    rw [okB_iff] at h
    cases h2 : inB d 0 1000000 with
    | false => simp
    | true =>
      rw [inB_iff] at h2
      have e1 : wrap64 (b + d) = b + d := wrap_id (by omega) (by omega)
      have e2 : wrap64 (b + c) = b + c := wrap_id (by omega) (by omega)
      have e3 : wrap64 (b + c + d) = b + c + d := wrap_id (by omega) (by omega)
      have e4 : wrap64 (b + d + c) = b + d + c := wrap_id (by omega) (by omega)
      rw [e2] at h
      simp only [e1, e2, e3, Bool.not_true, Bool.false_eq_true, if_true, if_false]
      by_cases hd : b + c + d > a
      · rw [if_pos hd]
        have : okB a (b + d) c = false := by
          rw [← Bool.not_eq_true, okB_iff, e4]; omega
        simp [this]
      · rw [if_neg hd]
        have : okB a (b + d) c = true := by
          rw [okB_iff, e4]; omega
        simp [this]
theorem reserve_some (a b c d : Int) : ∃ r, spec_Reserve.f a b c d = some r := by
  obtain ⟨r, hr⟩ := ok_some a b c
  obtain ⟨r2, h2⟩ := in_some d 0 1000000
  unfold spec_Reserve.f
  rw [hr, h2]
  simp only [Option.bind_some]
  repeat' split
  all_goals exact ⟨_, rfl⟩
theorem pure : laws_FnExactReserve.Stm := by
  intro a b c d _ _ _ _
  obtain ⟨r, hr⟩ := reserve_some a b c d
  refine ⟨1, ?_⟩
  unfold laws_FnExactReserve.f laws_toAccount.f laws_eqAccount.f
  simp only [Option.bind_some, reserve_eq, hr]
  simp
end Go.Proofs.Ytmhdmebbefbcbaa.PureFnExactReserve
