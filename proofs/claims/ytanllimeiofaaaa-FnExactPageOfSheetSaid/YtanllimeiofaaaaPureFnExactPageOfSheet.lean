/- The program's PageOfSheet answers as the reference's for every job and sheet: no condition. -/
import Derived.Test.YtanllimeiofaaaaOpsFnExactPageOfSheet
import Derived.Test.YtanllimeiofaaaaPlain
namespace Go.Proofs.Ytanllimeiofaaaa.PureFnExactPageOfSheet
open Go.RowKit Go.Proofs.Ytanllimeiofaaaa.PFnExactPageOfSheet Go.Proofs.Ytanllimeiofaaaa.Opened Go.Proofs.Ytanllimeiofaaaa.Plain Go.Proofs.YtanllimeiofaaaaW.PrintWords Go.Proofs.YtanllimeiofaaaaW.PrintLast Go.Proofs.YtanllimeiofaaaaW.PrintMore
set_option linter.unusedVariables false
set_option linter.unusedSimpArgs false
def inB (a b c : Int) : Bool := if a ≥ b then decide (a ≤ c) else false
theorem in_eq (a b c : Int) : spec_l01In.f a b c = some (inB a b c) := by unfold spec_l01In.f inB; split <;> rfl
theorem within_eq (a b c : Int) : impl_within.f a b c = some (inB a b c) := in_eq a b c
theorem inB_iff (a b c : Int) : inB a b c = true ↔ b ≤ a ∧ a ≤ c := by unfold inB; split <;> simp <;> omega
def okB (a b c e : Int) : Bool := inB a 1 9999 && (inB b 1 64 && (inB c 1 20 && inB e 0 9))
theorem ok_eq (a b c : Int) (d : Bool) (e : Int) (f : Bool) : spec_JobOk.f a b c d e f = some (okB a b c e) := by
  unfold spec_JobOk.f okB
  simp only [in_eq, Option.bind_some]
  cases inB a 1 9999 <;> cases inB b 1 64 <;> cases inB c 1 20 <;> cases inB e 0 9 <;> rfl
theorem iok_eq (a b c : Int) (d : Bool) (e : Int) (f : Bool) : impl_JobOk.f a b c d e f = some (okB a b c e) := ok_eq a b c d e f
theorem okB_iff (a b c e : Int) : okB a b c e = true ↔ (1 ≤ a ∧ a ≤ 9999) ∧ (1 ≤ b ∧ b ≤ 64) ∧ (1 ≤ c ∧ c ≤ 20) ∧ (0 ≤ e ∧ e ≤ 9) := by
  simp [okB, inB_iff]
/-- How many sheets a job of b pages has, a page a side. -/
def sheetsN (b : Int) (d : Bool) : Int := if d = true then (b + 1) / 2 else b
theorem sheetsN_range (b : Int) (d : Bool) (h0 : 1 ≤ b) (h1 : b ≤ 64) : 1 ≤ sheetsN b d ∧ sheetsN b d ≤ 64 := by unfold sheetsN; split <;> omega
theorem small : ∀ i : Fin 64, ∀ d : Bool, spec_SheetsFor.f 70 ((i.val : Int) + 1) 1 d = some (sheetsN ((i.val : Int) + 1) d) ∧ impl_SheetsFor.f 70 ((i.val : Int) + 1) 1 d = some (sheetsN ((i.val : Int) + 1) d) := by decide +kernel
theorem small' (b : Int) (d : Bool) (h0 : 1 ≤ b) (h1 : b ≤ 64) : spec_SheetsFor.f 70 b 1 d = some (sheetsN b d) ∧ impl_SheetsFor.f 70 b 1 d = some (sheetsN b d) := by
  have := small ⟨(b - 1).toNat, by omega⟩ d
  rw [show (((b - 1).toNat : Nat) : Int) + 1 = b by omega] at this
  exact this
theorem specSheets_eq (b : Int) (d : Bool) (h0 : 1 ≤ b) (h1 : b ≤ 64) : spec_SheetsFor.f 70 b 1 d = some (sheetsN b d) := (small' b d h0 h1).1
theorem implSheets_eq (b : Int) (d : Bool) (h0 : 1 ≤ b) (h1 : b ≤ 64) : impl_SheetsFor.f 70 b 1 d = some (sheetsN b d) := (small' b d h0 h1).2
theorem specSheets_eq71 (b : Int) (d : Bool) (h0 : 1 ≤ b) (h1 : b ≤ 64) : spec_SheetsFor.f 71 b 1 d = some (sheetsN b d) := spec_SheetsFor.mono b 1 d 70 _ (small' b d h0 h1).1
theorem implSheets_eq71 (b : Int) (d : Bool) (h0 : 1 ≤ b) (h1 : b ≤ 64) : impl_SheetsFor.f 71 b 1 d = some (sheetsN b d) := impl_SheetsFor.mono b 1 d 70 _ (small' b d h0 h1).2
theorem pure : laws_FnExactPageOfSheet.Stm := by
  intro a b c d e f s _ _ _ _ _
  refine ⟨71, ?_⟩
  unfold laws_FnExactPageOfSheet.f laws_toJob.f spec_PageOfSheet.f impl_PageOfSheet.f spec_JobSheets.f impl_JobSheets.f
  simp only [Option.bind_some, ok_eq, iok_eq, impl_PageOfSheet.j0, in_eq, within_eq]
  cases h : okB a b c e with
  | false =>
    have : inB s 0 (wrap64 (-1)) = false := by rw [← Bool.not_eq_true, inB_iff, wrap_id (by omega) (by omega)]; omega
    simp [in_eq, this]
  | true =>
    rw [okB_iff] at h
    have hr := sheetsN_range b d (by omega) (by omega)
    simp only [if_true, specSheets_eq71 b d (by omega) (by omega), implSheets_eq b d (by omega) (by omega), implSheets_eq71 b d (by omega) (by omega), Option.bind_some, in_eq, within_eq]
    cases hs : inB s 0 (wrap64 (wrap64 (c * sheetsN b d) - 1)) with
    | false => simp
    | true =>
      have hz : ¬ sheetsN b d = 0 := by omega
      simp only [if_true, Bool.not_true, Bool.false_eq_true, if_false, if_neg hz]
      cases d with
      | false => simp
      | true =>
        simp only [if_true, spec_l27Page.f]
        by_cases hq : wrap64 (wrap64 (2 * s.tmod (sheetsN b true)) + 2) > b
        · simp [if_pos hq]
        · simp [if_neg hq]
end Go.Proofs.Ytanllimeiofaaaa.PureFnExactPageOfSheet
