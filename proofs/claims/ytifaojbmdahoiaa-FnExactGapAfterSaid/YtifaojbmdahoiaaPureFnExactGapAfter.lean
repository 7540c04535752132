/- The program's GapAfter answers as the reference's for every track, lead and number of steps and leaves the track as it was: no condition. -/
import Derived.Test.YtifaojbmdahoiaaOpsFnExactGapAfter
import Derived.Test.YtifaojbmdahoiaaPlain
namespace Go.Proofs.Ytifaojbmdahoiaa.PureFnExactGapAfter
open Go.RowKit Go.Proofs.Ytifaojbmdahoiaa.PFnExactGapAfter Go.Proofs.Ytifaojbmdahoiaa.Opened Go.Proofs.Ytifaojbmdahoiaa.Plain Go.Proofs.YtifaojbmdahoiaaW.PrintWords Go.Proofs.YtifaojbmdahoiaaW.PrintLast Go.Proofs.YtifaojbmdahoiaaW.PrintMore
def toSegment (x : S118) : S115 := ⟨x.f0, x.f1⟩
theorem toSegmentS_l0 (x : List S118) (hx : x.length ≤ 1048576) (d : Nat) : ∀ (k : Nat) (y : List S115) (i : Nat), i + d = x.length → y.length = x.length → d < k → y.take i = (x.take i).map toSegment → laws_toSegmentS.l0 k x y i = some (x.map toSegment) := by
  induction d with
  | zero =>
    intro k y i hi hl hk h
    obtain ⟨k, rfl⟩ : ∃ m, k = m + 1 := ⟨k - 1, by omega⟩
    rw [laws_toSegmentS.l0, if_neg (by omega), take_all_map (by omega) hl h]
  | succ d ih =>
    intro k y i hi hl hk h
    obtain ⟨k, rfl⟩ : ∃ m, k = m + 1 := ⟨k - 1, by omega⟩
    rw [laws_toSegmentS.l0, if_pos (by omega), if_pos (by omega)]
    simp only [laws_toSegment.f, Option.bind_some]
    rw [if_pos (by omega), wrap_cast i (by omega), Int.toNat_natCast]
    refine ih k _ (i + 1) (by omega) (by simpa using hl) (by omega) (take_set_map toSegment x y z118 _ i (by omega) hl h ?_)
    simp [toSegment, rd_T118]
theorem toSegmentS_eq (x : List S118) (hx : x.length ≤ 1048576) (k : Nat) (hk : x.length < k) : laws_toSegmentS.f k x = some (x.map toSegment) := by
  rw [laws_toSegmentS.f, if_pos (by omega), if_pos (by omega)]
  exact toSegmentS_l0 x hx x.length k _ 0 (by omega) (by simp) hk (by simp)
theorem eqSegment_eq (x : S115) : laws_eqSegment.f x.f0 x.f1 x.f0 x.f1 = some true := by simp [laws_eqSegment.f]
theorem eqSegmentS_l0 (x : List S115) (hx : x.length ≤ 1048576) (d : Nat) : ∀ (k : Nat) (i : Nat), i + d = x.length → d < k → laws_eqSegmentS.l0 k x x i = some true := by
  induction d with
  | zero =>
    intro k i hi hk
    obtain ⟨k, rfl⟩ : ∃ m, k = m + 1 := ⟨k - 1, by omega⟩
    rw [laws_eqSegmentS.l0, if_neg (by omega)]
  | succ d ih =>
    intro k i hi hk
    obtain ⟨k, rfl⟩ : ∃ m, k = m + 1 := ⟨k - 1, by omega⟩
    rw [laws_eqSegmentS.l0, if_pos (by omega), if_pos (by omega), if_pos (by omega), eqSegment_eq]
    simp only [Option.bind_some, if_true]
    rw [wrap_cast i (by omega)]
    exact ih k (i + 1) (by omega) (by omega)
theorem eqSegmentS_eq (x : List S115) (hx : x.length ≤ 1048576) (k : Nat) (hk : x.length < k) : laws_eqSegmentS.f k x x = some true := by
  rw [laws_eqSegmentS.f, if_pos rfl]
  exact eqSegmentS_l0 x hx x.length k 0 (by omega) hk
theorem szSegmentS_eq (x : List S118) (hx : x.length ≤ maxLen) : laws_szSegmentS.f x 1048576 = some (if x.length ≤ 1048576 then 1048576 - (x.length : Int) else -1) := by
  unfold maxLen at hx
  have e : wrap64 (1048576 - (x.length : Int)) = 1048576 - (x.length : Int) := wrap_id (by omega) (by omega)
  rw [laws_szSegmentS.f, e]
  by_cases h : x.length ≤ 1048576
  · rw [if_neg (by omega), if_pos h]
  · rw [if_pos (by omega), if_neg h]
def inB (a b c : Int) : Bool := if a ≥ b then decide (a ≤ c) else false
theorem in_eq (a b c : Int) : spec_l01In.f a b c = some (inB a b c) := by unfold spec_l01In.f inB; split <;> rfl
theorem within_eq (a b c : Int) : impl_within.f a b c = some (inB a b c) := in_eq a b c
theorem inB_iff (a b c : Int) : inB a b c = true ↔ b ≤ a ∧ a ≤ c := by unfold inB; split <;> simp <;> omega
def segB (x : S115) : Bool := inB x.f0 1 100 && inB x.f1 1 20
def trackB (t : List S115) : Bool := t.all segB && inB t.length 1 6
theorem specTrackOk_l0 (x : List S115) (hx : x.length ≤ 1048576) (d : Nat) : ∀ (k : Nat) (i : Nat), i + d = x.length → d < k → spec_TrackOk.l0 k x i = some ((x.drop i).all segB && inB x.length 1 6) := by
  induction d with
  | zero =>
    intro k i hi hk
    obtain ⟨k, rfl⟩ : ∃ m, k = m + 1 := ⟨k - 1, by omega⟩
    rw [spec_TrackOk.l0, if_neg (by omega), List.drop_of_length_le (by omega), in_eq]; rfl
  | succ d ih =>
    intro k i hi hk
    obtain ⟨k, rfl⟩ : ∃ m, k = m + 1 := ⟨k - 1, by omega⟩
    have e : rd_T115 x i = x.getD i z115 := by simp [rd_T115]
    rw [spec_TrackOk.l0, if_pos (by omega), if_pos (by omega), e, in_eq, in_eq, getD_drop x z115 i (by omega)]
    simp only [Option.bind_some, List.all_cons, segB]
    cases inB (x.getD i z115).f0 1 100 with
    | false => simp
    | true =>
      cases inB (x.getD i z115).f1 1 20 with
      | false => simp
      | true => simp only [if_true]; rw [wrap_cast i (by omega), ih k (i + 1) (by omega) (by omega)]; simp
theorem specTrackOk_eq (x : List S115) (hx : x.length ≤ 1048576) (k : Nat) (hk : x.length < k) : spec_TrackOk.f k x = some (trackB x) := by
  rw [spec_TrackOk.f]
  simpa [trackB] using specTrackOk_l0 x hx x.length k 0 (by omega) hk
theorem implTrackOk_l0 (x : List S115) (hx : x.length ≤ 1048576) (d : Nat) : ∀ (k : Nat) (i : Nat), i + d = x.length → d < k → impl_TrackOk.l0 k x x.length i = some ((x.drop i).all segB) := by
  induction d with
  | zero =>
    intro k i hi hk
    obtain ⟨k, rfl⟩ : ∃ m, k = m + 1 := ⟨k - 1, by omega⟩
    rw [impl_TrackOk.l0, if_neg (by omega), List.drop_of_length_le (by omega)]; rfl
  | succ d ih =>
    intro k i hi hk
    obtain ⟨k, rfl⟩ : ∃ m, k = m + 1 := ⟨k - 1, by omega⟩
    have e : rd_T115 x i = x.getD i z115 := by simp [rd_T115]
    rw [impl_TrackOk.l0, if_pos (by omega), if_pos (by omega), if_pos (by omega), e, within_eq, within_eq, getD_drop x z115 i (by omega)]
    simp only [Option.bind_some, List.all_cons, segB]
    cases inB (x.getD i z115).f0 1 100 with
    | false => simp
    | true =>
      cases inB (x.getD i z115).f1 1 20 with
      | false => simp
      | true => simp only [if_true]; rw [wrap_cast i (by omega), ih k (i + 1) (by omega) (by omega)]; simp
theorem implTrackOk_eq (x : List S115) (hx : x.length ≤ 1048576) (k : Nat) (hk : x.length < k) : impl_TrackOk.f k x = some (trackB x) := by
  have h := implTrackOk_l0 x hx x.length k 0 (by omega) hk
  simp only [List.drop_zero, Int.ofNat_zero] at h
  rw [impl_TrackOk.f, within_eq]
  simp only [Option.bind_some, trackB]
  cases inB (x.length : Int) 1 6 with
  | false => simp
  | true => simp only [if_true]; first | (rw [h]; simp) | (simp at h ⊢; exact h)
def lenSum : List S115 → Int
  | [] => 0
  | s :: r => s.f0 + lenSum r
theorem segB_iff (x : S115) : segB x = true ↔ (1 ≤ x.f0 ∧ x.f0 ≤ 100) ∧ (1 ≤ x.f1 ∧ x.f1 ≤ 20) := by simp [segB, inB_iff]
theorem lenSum_range (t : List S115) (h : t.all segB = true) : (t.length : Int) ≤ lenSum t ∧ lenSum t ≤ 100 * t.length := by
  induction t with
  | nil => simp [lenSum]
  | cons s r ih =>
    simp only [List.all_cons, Bool.and_eq_true, segB_iff] at h
    have := ih h.2
    simp only [lenSum, List.length_cons]
    omega
theorem all_drop {t : List S115} (h : t.all segB = true) (i : Nat) : (t.drop i).all segB = true := by
  rw [List.all_eq_true] at h ⊢
  exact fun x hx => h x (List.mem_of_mem_drop hx)
theorem trackB_iff (t : List S115) : trackB t = true ↔ t.all segB = true ∧ 1 ≤ t.length ∧ t.length ≤ 6 := by
  simp only [trackB, Bool.and_eq_true, inB_iff]
  exact ⟨fun h => ⟨h.1, by omega, by omega⟩, fun h => ⟨h.1, by omega, by omega⟩⟩
def trackLen (t : List S115) : Int := if trackB t = true then lenSum t else 0
theorem trackLen_range (t : List S115) : 0 ≤ trackLen t ∧ trackLen t ≤ 600 := by
  unfold trackLen
  split
  · rename_i h
    rw [trackB_iff] at h
    have := lenSum_range t h.1
    omega
  · omega
theorem specLen_l0 (x : List S115) (hb : trackB x = true) (d : Nat) : ∀ (k : Nat) (i : Nat) (a : Int), i + d = x.length → d + 7 < k → 0 ≤ a → a ≤ 100 * i → spec_TrackLength.l0 k x a i = some (a + lenSum (x.drop i)) := by
  have hx := (trackB_iff x).1 hb
  induction d with
  | zero =>
    intro k i a hi hk h0 h1
    obtain ⟨k, rfl⟩ : ∃ m, k = m + 1 := ⟨k - 1, by omega⟩
    rw [spec_TrackLength.l0, if_neg (by omega), List.drop_of_length_le (by omega)]; simp [lenSum]
  | succ d ih =>
    intro k i a hi hk h0 h1
    obtain ⟨k, rfl⟩ : ∃ m, k = m + 1 := ⟨k - 1, by omega⟩
    have e : rd_T115 x i = x.getD i z115 := by simp [rd_T115]
    have hs := List.all_eq_true.1 hx.1 _ (getD_mem x z115 i (by omega))
    rw [segB_iff] at hs
    rw [spec_TrackLength.l0, if_pos (by omega), specTrackOk_eq x (by omega) k (by omega)]
    simp only [Option.bind_some, hb, if_true]
    rw [if_pos (by omega), e, wrap_id (by omega) (by omega), wrap_cast i (by omega), ih k (i + 1) _ (by omega) (by omega) (by omega) (by omega), getD_drop x z115 i (by omega)]
    simp only [lenSum]
    congr 1; omega
theorem specLen_eq (x : List S115) (hx : x.length ≤ 1048576) (k : Nat) (hk : x.length + 16 < k) : spec_TrackLength.f k x = some (trackLen x) := by
  unfold spec_TrackLength.f trackLen
  cases hb : trackB x with
  | true =>
    have h := (trackB_iff x).1 hb
    have := specLen_l0 x hb x.length k 0 0 (by omega) (by omega) (by omega) (by omega)
    simpa using this
  | false =>
    obtain ⟨k, rfl⟩ : ∃ m, k = m + 1 := ⟨k - 1, by omega⟩
    rw [spec_TrackLength.l0]
    by_cases h : 0 < x.length
    · rw [if_pos (by omega), specTrackOk_eq x hx k (by omega)]; simp [hb]
    · rw [if_neg (by omega)]; simp
theorem implLen_l0 (x : List S115) (hb : trackB x = true) (d : Nat) : ∀ (k : Nat) (i : Nat) (a : Int), i + d = x.length → d < k → 0 ≤ a → a ≤ 100 * i → impl_TrackLength.l0 k a x x.length i = some (a + lenSum (x.drop i)) := by
  have hx := (trackB_iff x).1 hb
  induction d with
  | zero =>
    intro k i a hi hk h0 h1
    obtain ⟨k, rfl⟩ : ∃ m, k = m + 1 := ⟨k - 1, by omega⟩
    rw [impl_TrackLength.l0, if_neg (by omega), List.drop_of_length_le (by omega)]; simp [lenSum]
  | succ d ih =>
    intro k i a hi hk h0 h1
    obtain ⟨k, rfl⟩ : ∃ m, k = m + 1 := ⟨k - 1, by omega⟩
    have e : rd_T115 x i = x.getD i z115 := by simp [rd_T115]
    have hs := List.all_eq_true.1 hx.1 _ (getD_mem x z115 i (by omega))
    rw [segB_iff] at hs
    rw [impl_TrackLength.l0, if_pos (by omega), if_pos (by omega), if_pos (by omega), e, wrap_id (by omega) (by omega), wrap_cast i (by omega), ih k (i + 1) _ (by omega) (by omega) (by omega) (by omega), getD_drop x z115 i (by omega)]
    simp only [lenSum]
    congr 1; omega
theorem implLen_eq (x : List S115) (hx : x.length ≤ 1048576) (k : Nat) (hk : x.length + 16 < k) : impl_TrackLength.f k x = some (trackLen x) := by
  unfold impl_TrackLength.f trackLen
  rw [implTrackOk_eq x hx k (by omega)]
  simp only [Option.bind_some]
  cases hb : trackB x with
  | true =>
    have h := (trackB_iff x).1 hb
    have := implLen_l0 x hb x.length k 0 0 (by omega) (by omega) (by omega) (by omega)
    simpa using this
  | false => simp
/-- Where a sheet at place a is one step later: b: where the first of these segments begins, n: the path's length. -/
def stepIn (n a : Int) : Int → List S115 → Int
  | _, [] => a
  | b, s :: r => if a < b + s.f0 then mn n (a + s.f1) else stepIn n a (b + s.f0) r
def stepF (t : List S115) (a : Int) : Int := if trackB t && inB a 0 (trackLen t) then stepIn (trackLen t) a 0 t else -1
theorem mn_comm (a b : Int) : mn a b = mn b a := by unfold mn; split <;> split <;> omega
theorem specStep_l0 (x : List S115) (hb : trackB x = true) (a : Int) (ha : 0 ≤ a ∧ a ≤ 600) (n : Int) (d : Nat) : ∀ (k : Nat) (i : Nat) (b : Int), i + d = x.length → d < k → 0 ≤ b → b ≤ 100 * i → spec_StepSheet.l0 k x a n b i = some (stepIn n a b (x.drop i)) := by
  have hx := (trackB_iff x).1 hb
  induction d with
  | zero =>
    intro k i b hi hk h0 h1
    obtain ⟨k, rfl⟩ : ∃ m, k = m + 1 := ⟨k - 1, by omega⟩
    rw [spec_StepSheet.l0, if_neg (by omega), List.drop_of_length_le (by omega)]; rfl
  | succ d ih =>
    intro k i b hi hk h0 h1
    obtain ⟨k, rfl⟩ : ∃ m, k = m + 1 := ⟨k - 1, by omega⟩
    have e : rd_T115 x i = x.getD i z115 := by simp [rd_T115]
    have hs := List.all_eq_true.1 hx.1 _ (getD_mem x z115 i (by omega))
    rw [segB_iff] at hs
    rw [spec_StepSheet.l0, if_pos (by omega), if_pos (by omega), e, wrap_id (x := b + (x.getD i z115).f0) (by omega) (by omega), wrap_id (x := a + (x.getD i z115).f1) (by omega) (by omega), wrap_cast i (by omega), getD_drop x z115 i (by omega)]
    simp only [stepIn]
    by_cases hlt : a < b + (x.getD i z115).f0
    · rw [if_pos hlt, if_pos hlt]
    · rw [if_neg hlt, if_neg hlt]
      exact ih k (i + 1) _ (by omega) (by omega) (by omega) (by omega)
theorem implStep_l0 (x : List S115) (hb : trackB x = true) (a : Int) (ha : 0 ≤ a ∧ a ≤ 600) (n : Int) (d : Nat) : ∀ (k : Nat) (i : Nat) (b : Int), i + d = x.length → d < k → 0 ≤ b → b ≤ 100 * i → impl_StepSheet.l0 k a n b x x.length i = some (stepIn n a b (x.drop i)) := by
  have hx := (trackB_iff x).1 hb
  induction d with
  | zero =>
    intro k i b hi hk h0 h1
    obtain ⟨k, rfl⟩ : ∃ m, k = m + 1 := ⟨k - 1, by omega⟩
    rw [impl_StepSheet.l0, if_neg (by omega), List.drop_of_length_le (by omega)]; rfl
  | succ d ih =>
    intro k i b hi hk h0 h1
    obtain ⟨k, rfl⟩ : ∃ m, k = m + 1 := ⟨k - 1, by omega⟩
    have e : rd_T115 x i = x.getD i z115 := by simp [rd_T115]
    have hs := List.all_eq_true.1 hx.1 _ (getD_mem x z115 i (by omega))
    rw [segB_iff] at hs
    rw [impl_StepSheet.l0, if_pos (by omega), if_pos (by omega), if_pos (by omega), e, wrap_id (x := b + (x.getD i z115).f0) (by omega) (by omega), wrap_id (x := a + (x.getD i z115).f1) (by omega) (by omega), wrap_cast i (by omega), getD_drop x z115 i (by omega), mn_comm]
    simp only [stepIn]
    by_cases hlt : a < b + (x.getD i z115).f0
    · rw [if_pos hlt, if_pos hlt]
    · rw [if_neg hlt, if_neg hlt]
      exact ih k (i + 1) _ (by omega) (by omega) (by omega) (by omega)
theorem specStep_eq (x : List S115) (hx : x.length ≤ 1048576) (a : Int) (k : Nat) (hk : x.length + 17 < k) : spec_StepSheet.f k x a = some (stepF x a) := by
  obtain ⟨k, rfl⟩ : ∃ m, k = m + 1 := ⟨k - 1, by omega⟩
  unfold spec_StepSheet.f stepF
  rw [specLen_eq x hx _ (by omega), specTrackOk_eq x hx _ (by omega)]
  simp only [Option.bind_some, spec_StepSheet.j0, in_eq]
  cases hb : trackB x with
  | false => simp
  | true =>
    cases ha : inB a 0 (trackLen x) with
    | false => simp
    | true =>
      rw [inB_iff] at ha
      have h := (trackB_iff x).1 hb
      have hr := trackLen_range x
      have := specStep_l0 x hb a (by omega) (trackLen x) x.length k 0 0 (by omega) (by omega) (by omega) (by omega)
      simpa using this
theorem implStep_eq (x : List S115) (hx : x.length ≤ 1048576) (a : Int) (k : Nat) (hk : x.length + 17 < k) : impl_StepSheet.f k x a = some (stepF x a) := by
  obtain ⟨k, rfl⟩ : ∃ m, k = m + 1 := ⟨k - 1, by omega⟩
  unfold impl_StepSheet.f stepF
  rw [implLen_eq x hx _ (by omega), implTrackOk_eq x hx _ (by omega)]
  simp only [Option.bind_some, impl_StepSheet.j0, within_eq]
  cases hb : trackB x with
  | false => simp
  | true =>
    cases ha : inB a 0 (trackLen x) with
    | false => simp
    | true =>
      rw [inB_iff] at ha
      have h := (trackB_iff x).1 hb
      have hr := trackLen_range x
      have := implStep_l0 x hb a (by omega) (trackLen x) x.length k 0 0 (by omega) (by omega) (by omega) (by omega)
      simpa using this
def iterS (t : List S115) : Nat → Int → Int
  | 0, a => a
  | n + 1, a => iterS t n (stepF t a)
theorem iterS_succ (t : List S115) (n : Nat) : ∀ a, iterS t (n + 1) a = stepF t (iterS t n a) := by
  induction n with
  | zero => intro a; rfl
  | succ n ih => intro a; exact ih (stepF t a)
def placeF (t : List S115) (s : Int) : Int := if trackB t && inB s 0 1000 then iterS t s.toNat 0 else -1
/-- One step on: further, and not beyond the end. -/
theorem stepIn_range (n a : Int) : ∀ (r : List S115) (b : Int), r.all segB = true → b ≤ a → a ≤ n → n = b + lenSum r → a ≤ stepIn n a b r ∧ stepIn n a b r ≤ n ∧ (a < n → a < stepIn n a b r)
  | [], b, _, h0, h1, h2 => by simp only [lenSum] at h2; simp only [stepIn]; omega
  | s :: r, b, hs, h0, h1, h2 => by
    simp only [List.all_cons, Bool.and_eq_true, segB_iff] at hs
    simp only [lenSum] at h2
    simp only [stepIn]
    by_cases h : a < b + s.f0
    · rw [if_pos h]
      have hl := lenSum_range r hs.2
      unfold mn
      split <;> omega
    · rw [if_neg h]
      exact stepIn_range n a r (b + s.f0) hs.2 (by omega) h1 (by omega)
theorem stepF_range (t : List S115) (hb : trackB t = true) (a : Int) (h0 : 0 ≤ a) (h1 : a ≤ trackLen t) : a ≤ stepF t a ∧ stepF t a ≤ trackLen t ∧ (a < trackLen t → a < stepF t a) := by
  have e : trackLen t = lenSum t := by simp [trackLen, hb]
  have ha : inB a 0 (trackLen t) = true := (inB_iff _ _ _).2 ⟨h0, h1⟩
  unfold stepF
  rw [hb, ha]
  simp only [Bool.and_self, if_true]
  exact stepIn_range (trackLen t) a t 0 ((trackB_iff t).1 hb).1 h0 h1 (by omega)
theorem iterS_range (t : List S115) (hb : trackB t = true) (n : Nat) : 0 ≤ iterS t n 0 ∧ iterS t n 0 ≤ trackLen t := by
  induction n with
  | zero => exact ⟨by simp [iterS], (trackLen_range t).1⟩
  | succ n ih =>
    rw [iterS_succ]
    have := stepF_range t hb _ ih.1 ih.2
    omega
theorem implPlace_l0 (x : List S115) (hx : x.length ≤ 1048576) (d : Nat) : ∀ (k : Nat) (a : Int), d ≤ 1000 → d + x.length + 18 < k → impl_PlaceAfter.l0 k x d a = some (iterS x d a) := by
  induction d with
  | zero =>
    intro k a hi hk
    obtain ⟨k, rfl⟩ : ∃ m, k = m + 1 := ⟨k - 1, by omega⟩
    rw [impl_PlaceAfter.l0, if_neg (by omega)]; rfl
  | succ d ih =>
    intro k a hi hk
    obtain ⟨k, rfl⟩ : ∃ m, k = m + 1 := ⟨k - 1, by omega⟩
    rw [impl_PlaceAfter.l0, if_pos (by omega), implStep_eq x hx a k (by omega)]
    simp only [Option.bind_some]
    rw [wrap_id (by omega) (by omega), show ((d + 1 : Nat) : Int) - 1 = (d : Int) by omega]
    exact ih k _ (by omega) (by omega)
theorem implPlace_eq (x : List S115) (hx : x.length ≤ 1048576) (s : Int) (k : Nat) (hk : x.length + 1020 < k) : impl_PlaceAfter.f k x s = some (placeF x s) := by
  obtain ⟨k, rfl⟩ : ∃ m, k = m + 1 := ⟨k - 1, by omega⟩
  unfold impl_PlaceAfter.f placeF
  rw [implTrackOk_eq x hx _ (by omega)]
  simp only [Option.bind_some, impl_PlaceAfter.j0, within_eq]
  cases hb : trackB x with
  | false => simp
  | true =>
    cases ha : inB s 0 1000 with
    | false => simp
    | true =>
      rw [inB_iff] at ha
      have := implPlace_l0 x hx s.toNat k 0 (by omega) (by omega)
      rw [Int.toNat_of_nonneg ha.1] at this
      simpa using this
theorem specPlace_l0 (x : List S115) (hx : x.length ≤ 1048576) (s : Nat) (hs : s ≤ 1000) (d : Nat) : ∀ (k : Nat) (j : Nat) (a : Int), j + d = s → d + x.length + 18 < k → spec_PlaceAfter.l0 k x s a j = some (iterS x d a) := by
  induction d with
  | zero =>
    intro k j a hi hk
    obtain ⟨k, rfl⟩ : ∃ m, k = m + 1 := ⟨k - 1, by omega⟩
    rw [spec_PlaceAfter.l0, if_neg (by omega)]; rfl
  | succ d ih =>
    intro k j a hi hk
    obtain ⟨k, rfl⟩ : ∃ m, k = m + 1 := ⟨k - 1, by omega⟩
    rw [spec_PlaceAfter.l0, if_pos (by omega), specStep_eq x hx a k (by omega)]
    simp only [Option.bind_some]
    rw [wrap_cast j (by omega)]
    exact ih k (j + 1) _ (by omega) (by omega)
theorem specPlace_eq (x : List S115) (hx : x.length ≤ 1048576) (s : Int) (k : Nat) (hk : x.length + 1020 < k) : spec_PlaceAfter.f k x s = some (placeF x s) := by
  obtain ⟨k, rfl⟩ : ∃ m, k = m + 1 := ⟨k - 1, by omega⟩
  unfold spec_PlaceAfter.f placeF
  rw [specTrackOk_eq x hx _ (by omega)]
  simp only [Option.bind_some, spec_PlaceAfter.j0, in_eq]
  cases hb : trackB x with
  | false => simp
  | true =>
    cases ha : inB s 0 1000 with
    | false => simp
    | true =>
      rw [inB_iff] at ha
      have := specPlace_l0 x hx s.toNat (by omega) s.toNat k 0 0 (by omega) (by omega)
      rw [Int.toNat_of_nonneg ha.1] at this
      simpa using this
def gapF (t : List S115) (lead s : Int) : Int := if inB lead 0 1000 && inB s 0 1000 then (if placeF t (s + lead) < 0 then -1 else if placeF t s < 0 then -1 else placeF t (s + lead) - placeF t s) else -1
theorem placeF_range (t : List S115) (s : Int) : -1 ≤ placeF t s ∧ placeF t s ≤ 600 := by
  unfold placeF
  split
  · rename_i h
    simp only [Bool.and_eq_true] at h
    have := iterS_range t h.1 s.toNat
    have := trackLen_range t
    omega
  · omega
theorem placeF_neg (t : List S115) (s : Int) (h : ¬ (0 ≤ s ∧ s ≤ 1000)) : placeF t s = -1 := by
  unfold placeF
  have : inB s 0 1000 = false := by rw [← Bool.not_eq_true, inB_iff]; omega
  simp [this]
theorem implGap_eq (x : List S115) (hx : x.length ≤ 1048576) (l s : Int) (hl : (Lit.int .i64 l).wf = true) (hs : (Lit.int .i64 s).wf = true) (k : Nat) (hk : x.length + 1020 < k) : impl_GapAfter.f k x l s = some (gapF x l s) := by
  have hl := wf64 hl
  have hs := wf64 hs
  unfold impl_GapAfter.f gapF
  rw [implPlace_eq x hx _ k hk, implPlace_eq x hx _ k hk]
  simp only [Option.bind_some]
  have r1 := placeF_range x s
  have r2 := placeF_range x (wrap64 (s + l))
  have r3 := placeF_range x (s + l)
  by_cases h : (0 ≤ l ∧ l ≤ 1000) ∧ (0 ≤ s ∧ s ≤ 1000)
  · have h1 : inB l 0 1000 = true := (inB_iff _ _ _).2 h.1
    have h2 : inB s 0 1000 = true := (inB_iff _ _ _).2 h.2
    rw [h1, h2, wrap_id (by omega) (by omega)]
    simp only [Bool.and_self, if_true]
    by_cases c1 : placeF x (s + l) < 0
    · rw [if_pos c1, if_pos c1]
    · rw [if_neg c1, if_neg c1]
      by_cases c2 : placeF x s < 0
      · rw [if_pos c2, if_pos c2]
      · rw [if_neg c2, if_neg c2, if_neg (by omega), wrap_id (by omega) (by omega)]
  · have hf : (inB l 0 1000 && inB s 0 1000) = false := by rw [← Bool.not_eq_true, Bool.and_eq_true, inB_iff, inB_iff]; exact h
    rw [hf]
    simp only [Bool.false_eq_true, if_false]
    by_cases c2 : placeF x s < 0
    · rw [if_pos c2]; split <;> rfl
    · have hs' : 0 ≤ s ∧ s ≤ 1000 := by
        by_cases q : 0 ≤ s ∧ s ≤ 1000
        · exact q
        · exact absurd (placeF_neg x s q) (by omega)
      by_cases c3 : l < 0
      · rw [if_neg c2, if_pos c3]; split <;> rfl
      · have : placeF x (wrap64 (s + l)) = -1 := by
          apply placeF_neg
          unfold wrap64
          omega
        rw [this, if_pos (by omega)]
theorem specGap_eq (x : List S115) (hx : x.length ≤ 1048576) (l s : Int) (k : Nat) (hk : x.length + 1021 < k) : spec_GapAfter.f k x l s = some (gapF x l s) := by
  obtain ⟨k, rfl⟩ : ∃ m, k = m + 1 := ⟨k - 1, by omega⟩
  unfold spec_GapAfter.f gapF
  simp only [in_eq, Option.bind_some, spec_GapAfter.j0]
  rw [specPlace_eq x hx _ k (by omega), specPlace_eq x hx _ k (by omega)]
  simp only [Option.bind_some]
  cases h1 : inB l 0 1000 with
  | false => simp
  | true =>
    cases h2 : inB s 0 1000 with
    | false => simp
    | true =>
      rw [inB_iff] at h1 h2
      have r1 := placeF_range x s
      have r3 := placeF_range x (s + l)
      rw [wrap_id (x := s + l) (by omega) (by omega)]
      simp only [Bool.not_true, Bool.false_eq_true, if_false, if_true, Bool.and_self]
      by_cases c1 : placeF x (s + l) < 0
      · rw [if_pos c1, if_pos c1]
      · rw [if_neg c1, if_neg c1]
        by_cases c2 : placeF x s < 0
        · rw [if_pos c2, if_pos c2]
        · rw [if_neg c2, if_neg c2, wrap_id (by omega) (by omega)]
theorem pure : laws_FnExactGapAfter.Stm := by
  intro l a s hl _ ha hs
  refine ⟨l.length + 1030, ?_⟩
  rw [laws_FnExactGapAfter.f, szSegmentS_eq l hl]
  simp only [Option.bind_some]
  by_cases h : l.length ≤ 1048576
  · rw [if_pos h, if_neg (by omega), toSegmentS_eq l h _ (by omega)]
    have h' : (l.map toSegment).length ≤ 1048576 := by simpa using h
    simp only [Option.bind_some]
    rw [specGap_eq _ h' a s _ (by simp), implGap_eq _ h' a s ha hs _ (by simp), eqSegmentS_eq _ h' _ (by simp)]
    simp
  · rw [if_neg h, if_pos (by omega)]
end Go.Proofs.Ytifaojbmdahoiaa.PureFnExactGapAfter
