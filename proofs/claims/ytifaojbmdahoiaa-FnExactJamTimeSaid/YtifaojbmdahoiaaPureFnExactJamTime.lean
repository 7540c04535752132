/- The program's JamTime answers as the reference's for every list of arrivals and leaves it as it was: no condition. -/
import Derived.Test.YtifaojbmdahoiaaOpsFnExactJamTime
import Derived.Test.YtifaojbmdahoiaaPlain
namespace Go.Proofs.Ytifaojbmdahoiaa.PureFnExactJamTime
open Go.RowKit Go.Proofs.Ytifaojbmdahoiaa.PFnExactJamTime Go.Proofs.Ytifaojbmdahoiaa.Opened Go.Proofs.Ytifaojbmdahoiaa.Plain Go.Proofs.YtifaojbmdahoiaaW.PrintWords Go.Proofs.YtifaojbmdahoiaaW.PrintLast Go.Proofs.YtifaojbmdahoiaaW.PrintMore
set_option linter.unusedVariables false
set_option linter.unusedSimpArgs false
def toArrival (x : S107) : S76 := ⟨x.f0, x.f1, x.f2⟩
theorem toArrivalS_l0 (x : List S107) (hx : x.length ≤ 1048576) (d : Nat) : ∀ (k : Nat) (y : List S76) (i : Nat), i + d = x.length → y.length = x.length → d < k → y.take i = (x.take i).map toArrival → laws_toArrivalS.l0 k x y i = some (x.map toArrival) := by
  induction d with
  | zero =>
    intro k y i hi hl hk h
    obtain ⟨k, rfl⟩ : ∃ m, k = m + 1 := ⟨k - 1, by omega⟩
    rw [laws_toArrivalS.l0, if_neg (by omega), take_all_map (by omega) hl h]
  | succ d ih =>
    intro k y i hi hl hk h
    obtain ⟨k, rfl⟩ : ∃ m, k = m + 1 := ⟨k - 1, by omega⟩
    rw [laws_toArrivalS.l0, if_pos (by omega), if_pos (by omega)]
    simp only [laws_toArrival.f, Option.bind_some]
    rw [if_pos (by omega), wrap_cast i (by omega), Int.toNat_natCast]
    refine ih k _ (i + 1) (by omega) (by simpa using hl) (by omega) (take_set_map toArrival x y z107 _ i (by omega) hl h ?_)
    simp [toArrival, rd_T107]
theorem toArrivalS_eq (x : List S107) (hx : x.length ≤ 1048576) (k : Nat) (hk : x.length < k) : laws_toArrivalS.f k x = some (x.map toArrival) := by
  rw [laws_toArrivalS.f, if_pos (by omega), if_pos (by omega)]
  exact toArrivalS_l0 x hx x.length k _ 0 (by omega) (by simp) hk (by simp)
theorem eqArrival_eq (x : S76) : laws_eqArrival.f x.f0 x.f1 x.f2 x.f0 x.f1 x.f2 = some true := by simp [laws_eqArrival.f]
theorem eqArrivalS_l0 (x : List S76) (hx : x.length ≤ 1048576) (d : Nat) : ∀ (k : Nat) (i : Nat), i + d = x.length → d < k → laws_eqArrivalS.l0 k x x i = some true := by
  induction d with
  | zero =>
    intro k i hi hk
    obtain ⟨k, rfl⟩ : ∃ m, k = m + 1 := ⟨k - 1, by omega⟩
    rw [laws_eqArrivalS.l0, if_neg (by omega)]
  | succ d ih =>
    intro k i hi hk
    obtain ⟨k, rfl⟩ : ∃ m, k = m + 1 := ⟨k - 1, by omega⟩
    rw [laws_eqArrivalS.l0, if_pos (by omega), if_pos (by omega), if_pos (by omega), eqArrival_eq]
    simp only [Option.bind_some, if_true]
    rw [wrap_cast i (by omega)]
    exact ih k (i + 1) (by omega) (by omega)
theorem eqArrivalS_eq (x : List S76) (hx : x.length ≤ 1048576) (k : Nat) (hk : x.length < k) : laws_eqArrivalS.f k x x = some true := by
  rw [laws_eqArrivalS.f, if_pos rfl]
  exact eqArrivalS_l0 x hx x.length k 0 (by omega) hk
theorem szArrivalS_eq (x : List S107) (hx : x.length ≤ maxLen) : laws_szArrivalS.f x 1048576 = some (if x.length ≤ 1048576 then 1048576 - (x.length : Int) else -1) := by
  unfold maxLen at hx
  have e : wrap64 (1048576 - (x.length : Int)) = 1048576 - (x.length : Int) := wrap_id (by omega) (by omega)
  rw [laws_szArrivalS.f, e]
  by_cases h : x.length ≤ 1048576
  · rw [if_neg (by omega), if_pos h]
  · rw [if_pos (by omega), if_neg h]
theorem in_some (a b c : Int) : ∃ r, spec_l01In.f a b c = some r := by unfold spec_l01In.f; split <;> exact ⟨_, rfl⟩
theorem arr_some (a b c : Int) : ∃ r, spec_ArrivalOk.f a b c = some r := by
  unfold spec_ArrivalOk.f
  obtain ⟨r, h⟩ := in_some a 0 10000
  obtain ⟨r2, h2⟩ := in_some b 0 100
  obtain ⟨r3, h3⟩ := in_some c (-1) 20000
  rw [h, h2, h3]
  simp only [Option.bind_some]
  repeat' split
  all_goals exact ⟨_, rfl⟩
theorem judge_eq (a b c : Int) : impl_JudgeArrival.f a b c = spec_JudgeArrival.f a b c := rfl
theorem judge_some (a b c : Int) : ∃ r, spec_JudgeArrival.f a b c = some r := by
  obtain ⟨r, hr⟩ := arr_some a b c
  unfold spec_JudgeArrival.f
  rw [hr]
  simp only [Option.bind_some]
  repeat' split
  all_goals exact ⟨_, rfl⟩
theorem jam_l0 (x : List S76) (hx : x.length ≤ 1048576) (d : Nat) : ∀ (k : Nat) (i : Nat), i + d = x.length → d < k → ∃ r, spec_FirstJam.l0 k x i = some r ∧ impl_FirstJam.l0 k x x.length i = some r ∧ -1 ≤ r ∧ r < x.length := by
  induction d with
  | zero =>
    intro k i hi hk
    obtain ⟨k, rfl⟩ : ∃ m, k = m + 1 := ⟨k - 1, by omega⟩
    rw [spec_FirstJam.l0, impl_FirstJam.l0, if_neg (by omega), if_neg (by omega)]
    exact ⟨_, rfl, rfl, by omega, by omega⟩
  | succ d ih =>
    intro k i hi hk
    obtain ⟨k, rfl⟩ : ∃ m, k = m + 1 := ⟨k - 1, by omega⟩
    have c1 : (i : Int) < (x.length : Int) := by omega
    have c2 : 0 ≤ (i : Int) := by omega
    obtain ⟨r, hr⟩ := judge_some (rd_T76 x i).f0 (rd_T76 x i).f1 (rd_T76 x i).f2
    simp only [spec_FirstJam.l0, impl_FirstJam.l0, if_pos c1, if_pos c2, judge_eq, hr, Option.bind_some, wrap_cast i (by omega)]
    by_cases h : r > 0
    · simp only [if_pos h]
      exact ⟨_, rfl, rfl, by omega, by omega⟩
    · simp only [if_neg h]
      exact ih k (i + 1) (by omega) (by omega)
theorem jam_eq (x : List S76) (hx : x.length ≤ 1048576) (k : Nat) (hk : x.length < k) : ∃ r, spec_FirstJam.f k x = some r ∧ impl_FirstJam.f k x = some r ∧ -1 ≤ r ∧ r < x.length := jam_l0 x hx x.length k 0 (by omega) hk
theorem time_eq (x : List S76) (hx : x.length ≤ 1048576) (k : Nat) (hk : x.length < k) : ∃ r, spec_JamTime.f k x = some r ∧ impl_JamTime.f k x = some r := by
  obtain ⟨r, e1, e2, r0, r1⟩ := jam_eq x hx k hk
  unfold spec_JamTime.f impl_JamTime.f
  rw [e1, e2]
  simp only [Option.bind_some]
  by_cases h : r < 0
  · simp only [if_pos h]; exact ⟨_, rfl, rfl⟩
  · obtain ⟨q, hq⟩ := judge_some (rd_T76 x r).f0 (rd_T76 x r).f1 (rd_T76 x r).f2
    have h0 : 0 ≤ r := by omega
    simp only [if_neg h, if_pos h0, if_pos r1, judge_eq, hq, Option.bind_some]
    by_cases hq1 : q = 1
    · simp only [if_pos hq1]; exact ⟨_, rfl, rfl⟩
    · simp only [if_neg hq1]; exact ⟨_, rfl, rfl⟩
theorem pure : laws_FnExactJamTime.Stm := by
  intro l hl _
  refine ⟨l.length + 3, ?_⟩
  rw [laws_FnExactJamTime.f, szArrivalS_eq l hl]
  simp only [Option.bind_some]
  by_cases h : l.length ≤ 1048576
  · rw [if_pos h, if_neg (by omega), toArrivalS_eq l h _ (by omega)]
    have h' : (l.map toArrival).length ≤ 1048576 := by simpa using h
    obtain ⟨r, e1, e2⟩ := time_eq (l.map toArrival) h' (l.length + 3) (by simp)
    simp only [Option.bind_some]
    rw [e1, e2, eqArrivalS_eq _ h' _ (by simp)]
    simp
  · rw [if_neg h, if_pos (by omega)]
end Go.Proofs.Ytifaojbmdahoiaa.PureFnExactJamTime
