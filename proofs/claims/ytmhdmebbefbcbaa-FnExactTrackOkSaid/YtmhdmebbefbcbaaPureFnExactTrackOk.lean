/- The program's TrackOk answers as the reference's for every track and leaves it as it was: no condition. -/
import Derived.Test.YtmhdmebbefbcbaaOpsFnExactTrackOk
import Derived.Test.YtmhdmebbefbcbaaPlain
namespace Go.Proofs.Ytmhdmebbefbcbaa.PureFnExactTrackOk
open Go.RowKit Go.Proofs.Ytmhdmebbefbcbaa.PFnExactTrackOk Go.Proofs.Ytmhdmebbefbcbaa.Opened Go.Proofs.Ytmhdmebbefbcbaa.Plain Go.Proofs.YtmhdmebbefbcbaaW.PrintWords Go.Proofs.YtmhdmebbefbcbaaW.PrintLast
def toSegment (x : S74) : S72 := ⟨x.f0, x.f1⟩
theorem toSegmentS_l0 (x : List S74) (hx : x.length ≤ 1048576) (d : Nat) : ∀ (k : Nat) (y : List S72) (i : Nat), i + d = x.length → y.length = x.length → d < k → y.take i = (x.take i).map toSegment → laws_toSegmentS.l0 k x y i = some (x.map toSegment) := by
  induction d with
  | zero =>
    intro k y i hi hl hk h
    obtain ⟨k, rfl⟩ : ∃ m, k = m + 1 := ⟨k - 1, by omega⟩
    rw [laws_toSegmentS.l0, if_neg (by omega), take_all_map (by omega) hl h]
  | succ d ih =>
    intro k y i hi hl hk h
    obtain ⟨k, rfl⟩ : ∃ m, k = m + 1 := ⟨k - 1, by omega⟩
    rw [laws_toSegmentS.l0, if_pos (by omega), if_pos (by omega)]
    simp only [laws_toSegment.f, Option.bind_some]
    rw [if_pos (by omega), wrap_cast i (by omega), Int.toNat_natCast]
    refine ih k _ (i + 1) (by omega) (by simpa using hl) (by omega) (take_set_map toSegment x y z74 _ i (by omega) hl h ?_)
    simp [toSegment, rd_T74]
theorem toSegmentS_eq (x : List S74) (hx : x.length ≤ 1048576) (k : Nat) (hk : x.length < k) : laws_toSegmentS.f k x = some (x.map toSegment) := by
  rw [laws_toSegmentS.f, if_pos (by omega), if_pos (by omega)]
  exact toSegmentS_l0 x hx x.length k _ 0 (by omega) (by simp) hk (by simp)
theorem eqSegment_eq (x : S72) : laws_eqSegment.f x.f0 x.f1 x.f0 x.f1 = some true := by simp [laws_eqSegment.f]
theorem eqSegmentS_l0 (x : List S72) (hx : x.length ≤ 1048576) (d : Nat) : ∀ (k : Nat) (i : Nat), i + d = x.length → d < k → laws_eqSegmentS.l0 k x x i = some true := by
  induction d with
  | zero =>
    intro k i hi hk
    obtain ⟨k, rfl⟩ : ∃ m, k = m + 1 := ⟨k - 1, by omega⟩
    rw [laws_eqSegmentS.l0, if_neg (by omega)]
  | succ d ih =>
    intro k i hi hk
    obtain ⟨k, rfl⟩ : ∃ m, k = m + 1 := ⟨k - 1, by omega⟩
    rw [laws_eqSegmentS.l0, if_pos (by omega), if_pos (by omega), if_pos (by omega), eqSegment_eq]
    simp only [Option.bind_some, if_true]
    rw [wrap_cast i (by omega)]
    exact ih k (i + 1) (by omega) (by omega)
theorem eqSegmentS_eq (x : List S72) (hx : x.length ≤ 1048576) (k : Nat) (hk : x.length < k) : laws_eqSegmentS.f k x x = some true := by
  rw [laws_eqSegmentS.f, if_pos rfl]
  exact eqSegmentS_l0 x hx x.length k 0 (by omega) hk
theorem szSegmentS_eq (x : List S74) (hx : x.length ≤ maxLen) : laws_szSegmentS.f x 1048576 = some (if x.length ≤ 1048576 then 1048576 - (x.length : Int) else -1) := by
  unfold maxLen at hx
  have e : wrap64 (1048576 - (x.length : Int)) = 1048576 - (x.length : Int) := wrap_id (by omega) (by omega)
  rw [laws_szSegmentS.f, e]
  by_cases h : x.length ≤ 1048576
  · rw [if_neg (by omega), if_pos h]
  · rw [if_pos (by omega), if_neg h]
def inB (a b c : Int) : Bool := if a ≥ b then decide (a ≤ c) else false
theorem in_eq (a b c : Int) : spec_l01In.f a b c = some (inB a b c) := by unfold spec_l01In.f inB; split <;> rfl
theorem within_eq (a b c : Int) : impl_within.f a b c = some (inB a b c) := in_eq a b c
theorem inB_iff (a b c : Int) : inB a b c = true ↔ b ≤ a ∧ a ≤ c := by unfold inB; split <;> simp <;> omega
def segB (x : S72) : Bool := inB x.f0 1 100 && inB x.f1 1 20
def trackB (t : List S72) : Bool := t.all segB && inB t.length 1 6
theorem specTrackOk_l0 (x : List S72) (hx : x.length ≤ 1048576) (d : Nat) : ∀ (k : Nat) (i : Nat), i + d = x.length → d < k → spec_TrackOk.l0 k x i = some ((x.drop i).all segB && inB x.length 1 6) := by
  induction d with
  | zero =>
    intro k i hi hk
    obtain ⟨k, rfl⟩ : ∃ m, k = m + 1 := ⟨k - 1, by omega⟩
    rw [spec_TrackOk.l0, if_neg (by omega), List.drop_of_length_le (by omega), in_eq]; rfl
  | succ d ih =>
    intro k i hi hk
    obtain ⟨k, rfl⟩ : ∃ m, k = m + 1 := ⟨k - 1, by omega⟩
    have e : rd_T72 x i = x.getD i z72 := by simp [rd_T72]
    rw [spec_TrackOk.l0, if_pos (by omega), if_pos (by omega), e, in_eq, in_eq, getD_drop x z72 i (by omega)]
    simp only [Option.bind_some, List.all_cons, segB]
    cases inB (x.getD i z72).f0 1 100 with
    | false => simp
    | true =>
      cases inB (x.getD i z72).f1 1 20 with
      | false => simp
      | true => simp only [if_true]; rw [wrap_cast i (by omega), ih k (i + 1) (by omega) (by omega)]; simp
theorem specTrackOk_eq (x : List S72) (hx : x.length ≤ 1048576) (k : Nat) (hk : x.length < k) : spec_TrackOk.f k x = some (trackB x) := by
  rw [spec_TrackOk.f]
  simpa [trackB] using specTrackOk_l0 x hx x.length k 0 (by omega) hk
theorem implTrackOk_l0 (x : List S72) (hx : x.length ≤ 1048576) (d : Nat) : ∀ (k : Nat) (i : Nat), i + d = x.length → d < k → impl_TrackOk.l0 k x x.length i = some ((x.drop i).all segB) := by
  induction d with
  | zero =>
    intro k i hi hk
    obtain ⟨k, rfl⟩ : ∃ m, k = m + 1 := ⟨k - 1, by omega⟩
    rw [impl_TrackOk.l0, if_neg (by omega), List.drop_of_length_le (by omega)]; rfl
  | succ d ih =>
    intro k i hi hk
    obtain ⟨k, rfl⟩ : ∃ m, k = m + 1 := ⟨k - 1, by omega⟩
    have e : rd_T72 x i = x.getD i z72 := by simp [rd_T72]
    rw [impl_TrackOk.l0, if_pos (by omega), if_pos (by omega), if_pos (by omega), e, within_eq, within_eq, getD_drop x z72 i (by omega)]
    simp only [Option.bind_some, List.all_cons, segB]
    cases inB (x.getD i z72).f0 1 100 with
    | false => simp
    | true =>
      cases inB (x.getD i z72).f1 1 20 with
      | false => simp
      | true => simp only [if_true]; rw [wrap_cast i (by omega), ih k (i + 1) (by omega) (by omega)]; simp
theorem implTrackOk_eq (x : List S72) (hx : x.length ≤ 1048576) (k : Nat) (hk : x.length < k) : impl_TrackOk.f k x = some (trackB x) := by
  have h := implTrackOk_l0 x hx x.length k 0 (by omega) hk
  simp only [List.drop_zero, Int.ofNat_zero] at h
  rw [impl_TrackOk.f, within_eq]
  simp only [Option.bind_some, trackB]
  cases inB (x.length : Int) 1 6 with
  | false => simp
  | true => simp only [if_true]; first | (rw [h]; simp) | (simp at h ⊢; exact h)
theorem pure : laws_FnExactTrackOk.Stm := by
  intro l hl _
  refine ⟨l.length + 2, ?_⟩
  rw [laws_FnExactTrackOk.f, szSegmentS_eq l hl]
  simp only [Option.bind_some]
  by_cases h : l.length ≤ 1048576
  · rw [if_pos h, if_neg (by omega), toSegmentS_eq l h _ (by omega)]
    have h' : (l.map toSegment).length ≤ 1048576 := by simpa using h
    simp only [Option.bind_some]
    rw [specTrackOk_eq _ h' _ (by simp), implTrackOk_eq _ h' _ (by simp), eqSegmentS_eq _ h' _ (by simp)]
    simp
  · rw [if_neg h, if_pos (by omega)]
end Go.Proofs.Ytmhdmebbefbcbaa.PureFnExactTrackOk
