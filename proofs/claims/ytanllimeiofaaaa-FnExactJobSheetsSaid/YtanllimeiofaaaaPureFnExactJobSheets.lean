/- The program's JobSheets answers as the reference's for every job: no condition. -/
import Derived.Test.YtanllimeiofaaaaOpsFnExactJobSheets
import Derived.Test.YtanllimeiofaaaaPlain
namespace Go.Proofs.Ytanllimeiofaaaa.PureFnExactJobSheets
open Go.RowKit Go.Proofs.Ytanllimeiofaaaa.PFnExactJobSheets Go.Proofs.Ytanllimeiofaaaa.Opened Go.Proofs.Ytanllimeiofaaaa.Plain Go.Proofs.YtanllimeiofaaaaW.PrintWords Go.Proofs.YtanllimeiofaaaaW.PrintLast Go.Proofs.YtanllimeiofaaaaW.PrintMore
set_option linter.unusedVariables false
set_option linter.unusedSimpArgs false
def inB (a b c : Int) : Bool := if a ≥ b then decide (a ≤ c) else false
theorem in_eq (a b c : Int) : spec_l01In.f a b c = some (inB a b c) := by unfold spec_l01In.f inB; split <;> rfl
theorem within_eq (a b c : Int) : impl_within.f a b c = some (inB a b c) := in_eq a b c
theorem inB_iff (a b c : Int) : inB a b c = true ↔ b ≤ a ∧ a ≤ c := by unfold inB; split <;> simp <;> omega
def okB (a b c e : Int) : Bool := inB a 1 9999 && (inB b 1 64 && (inB c 1 20 && inB e 0 9))
theorem ok_eq (a b c : Int) (d : Bool) (e : Int) (f : Bool) : spec_JobOk.f a b c d e f = some (okB a b c e) := by
  unfold spec_JobOk.f okB
  simp only [in_eq, Option.bind_some]
  cases inB a 1 9999 <;> cases inB b 1 64 <;> cases inB c 1 20 <;> cases inB e 0 9 <;> rfl
theorem iok_eq (a b c : Int) (d : Bool) (e : Int) (f : Bool) : impl_JobOk.f a b c d e f = some (okB a b c e) := ok_eq a b c d e f
theorem okB_iff (a b c e : Int) : okB a b c e = true ↔ (1 ≤ a ∧ a ≤ 9999) ∧ (1 ≤ b ∧ b ≤ 64) ∧ (1 ≤ c ∧ c ≤ 20) ∧ (0 ≤ e ∧ e ≤ 9) := by
  simp [okB, inB_iff]
/-- How many sheets a job of b pages has, a page a side. -/
def sheetsN (b : Int) (d : Bool) : Int := if d = true then (b + 1) / 2 else b
theorem sheetsN_range (b : Int) (d : Bool) (h0 : 1 ≤ b) (h1 : b ≤ 64) : 1 ≤ sheetsN b d ∧ sheetsN b d ≤ 64 := by unfold sheetsN; split <;> omega
theorem small : ∀ i : Fin 64, ∀ d : Bool, spec_SheetsFor.f 70 ((i.val : Int) + 1) 1 d = some (sheetsN ((i.val : Int) + 1) d) ∧ impl_SheetsFor.f 70 ((i.val : Int) + 1) 1 d = some (sheetsN ((i.val : Int) + 1) d) := by decide +kernel
theorem small' (b : Int) (d : Bool) (h0 : 1 ≤ b) (h1 : b ≤ 64) : spec_SheetsFor.f 70 b 1 d = some (sheetsN b d) ∧ impl_SheetsFor.f 70 b 1 d = some (sheetsN b d) := by
  have := small ⟨(b - 1).toNat, by omega⟩ d
  rw [show (((b - 1).toNat : Nat) : Int) + 1 = b by omega] at this
  exact this
theorem specSheets_eq (b : Int) (d : Bool) (h0 : 1 ≤ b) (h1 : b ≤ 64) : spec_SheetsFor.f 70 b 1 d = some (sheetsN b d) := (small' b d h0 h1).1
theorem implSheets_eq (b : Int) (d : Bool) (h0 : 1 ≤ b) (h1 : b ≤ 64) : impl_SheetsFor.f 70 b 1 d = some (sheetsN b d) := (small' b d h0 h1).2
theorem specSheets_eq71 (b : Int) (d : Bool) (h0 : 1 ≤ b) (h1 : b ≤ 64) : spec_SheetsFor.f 71 b 1 d = some (sheetsN b d) := spec_SheetsFor.mono b 1 d 70 _ (small' b d h0 h1).1
theorem implSheets_eq71 (b : Int) (d : Bool) (h0 : 1 ≤ b) (h1 : b ≤ 64) : impl_SheetsFor.f 71 b 1 d = some (sheetsN b d) := impl_SheetsFor.mono b 1 d 70 _ (small' b d h0 h1).2
theorem pure : laws_FnExactJobSheets.Stm := by
  intro a b c d e f _ _ _ _
  refine ⟨70, ?_⟩
  unfold laws_FnExactJobSheets.f laws_toJob.f spec_JobSheets.f impl_JobSheets.f
  simp only [Option.bind_some, ok_eq, iok_eq]
  cases h : okB a b c e with
  | false => simp
  | true =>
    rw [okB_iff] at h
    rw [specSheets_eq b d (by omega) (by omega), implSheets_eq b d (by omega) (by omega)]
    simp
end Go.Proofs.Ytanllimeiofaaaa.PureFnExactJobSheets
