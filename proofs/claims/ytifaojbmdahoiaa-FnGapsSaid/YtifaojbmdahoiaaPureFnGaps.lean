/- A sheet that began earlier stays ahead of the next one until both have arrived, whatever is drawn: no condition. -/
import Derived.Test.YtifaojbmdahoiaaOpsFnGaps
import Derived.Test.YtifaojbmdahoiaaPlain
namespace Go.Proofs.Ytifaojbmdahoiaa.PureFnGaps
open Go.RowKit Go.Proofs.Ytifaojbmdahoiaa.PFnGaps Go.Proofs.Ytifaojbmdahoiaa.Opened Go.Proofs.Ytifaojbmdahoiaa.Plain Go.Proofs.YtifaojbmdahoiaaW.PrintWords Go.Proofs.YtifaojbmdahoiaaW.PrintLast Go.Proofs.YtifaojbmdahoiaaW.PrintMore
set_option linter.unusedVariables false
set_option linter.unusedSimpArgs false
theorem new_l0 (x : List Int) (hx : x.length ≤ 1048576) (d : Nat) : ∀ (k : Nat) (h : Int) (i : Nat), i + d = x.length → d < k → ∃ h', spec_l01New.l0 k x h i = some (x, 0, h') := by
  induction d with
  | zero =>
    intro k h i hi hk
    obtain ⟨k, rfl⟩ : ∃ m, k = m + 1 := ⟨k - 1, by omega⟩
    rw [spec_l01New.l0, if_neg (by omega)]
    exact ⟨_, rfl⟩
  | succ d ih =>
    intro k h i hi hk
    obtain ⟨k, rfl⟩ : ∃ m, k = m + 1 := ⟨k - 1, by omega⟩
    rw [spec_l01New.l0, if_pos (by omega)]
    by_cases h4 : (i : Int) < 4000
    · rw [if_pos h4, if_pos (by omega), wrap_cast i (by omega)]
      exact ih k _ (i + 1) (by omega) (by omega)
    · rw [if_neg h4]
      exact ⟨_, rfl⟩
theorem new_some (x : List Int) (hx : x.length ≤ 1048576) (k : Nat) (hk : x.length < k) : ∃ h, spec_l01New.f k x = some (x, 0, h) := new_l0 x hx x.length k _ 0 (by omega) hk
theorem byte_some (s : List Int) (hs : s.length ≤ 1048576) (i h : Int) (hi : 0 ≤ i) : ∃ v i' h', spec_l01Byte.f s i h = some (v, i', h') ∧ 0 ≤ v ∧ v ≤ 255 ∧ 0 ≤ i' := by
  unfold spec_l01Byte.f
  simp only [i64_and255]
  by_cases h1 : i < (s.length : Int)
  · rw [if_pos h1, if_pos hi]
    exact ⟨_, _, _, rfl, by omega, by omega, by rw [wrap_id (by omega) (by omega)]; omega⟩
  · rw [if_neg h1]
    exact ⟨_, _, _, rfl, by omega, by omega, hi⟩
theorem below_some (s : List Int) (hs : s.length ≤ 1048576) (i h n : Int) (hi : 0 ≤ i) (hn : 0 < n) : ∃ v i' h', spec_l01Below.f s i h n = some (v, i', h') ∧ 0 ≤ v ∧ v < n ∧ 0 ≤ i' := by
  unfold spec_l01Below.f
  rw [if_neg (by omega)]
  obtain ⟨v1, i1, h1, e1, a1, b1, c1⟩ := byte_some s hs i h hi
  by_cases h2 : n ≤ 256
  · rw [if_pos h2, e1]
    simp only [Option.bind_some]
    rw [if_neg (by omega)]
    have := tmod_range a1 hn
    exact ⟨_, _, _, rfl, this.1, this.2, c1⟩
  · rw [if_neg h2, e1]
    simp only [Option.bind_some]
    obtain ⟨v2, i2, h2, e2, a2, b2, c2⟩ := byte_some s hs i1 h1 c1
    rw [e2]
    simp only [Option.bind_some]
    obtain ⟨v3, i3, h3, e3, a3, b3, c3⟩ := byte_some s hs i2 h2 c2
    rw [e3]
    simp only [Option.bind_some]
    obtain ⟨v4, i4, h4, e4, a4, b4, c4⟩ := byte_some s hs i3 h3 c3
    rw [e4]
    simp only [Option.bind_some]
    rw [if_neg (by omega)]
    have w1 : wrap64 (v1 * 16777216) = v1 * 16777216 := wrap_id (by omega) (by omega)
    have w2 : wrap64 (v2 * 65536) = v2 * 65536 := wrap_id (by omega) (by omega)
    have w3 : wrap64 (v3 * 256) = v3 * 256 := wrap_id (by omega) (by omega)
    rw [w1, w2, w3, wrap_id (x := v1 * 16777216 + v2 * 65536) (by omega) (by omega), wrap_id (x := v1 * 16777216 + v2 * 65536 + v3 * 256) (by omega) (by omega), wrap_id (x := v1 * 16777216 + v2 * 65536 + v3 * 256 + v4) (by omega) (by omega)]
    have := tmod_range (a := v1 * 16777216 + v2 * 65536 + v3 * 256 + v4) (by omega) hn
    exact ⟨_, _, _, rfl, this.1, this.2, c4⟩
theorem places_l0 (s : List Int) (hs : s.length ≤ 1048576) (d : Nat) : ∀ (k : Nat) (r : List Int) (i : Nat) (c h : Int), i + d = 12 → d < k → 0 ≤ c → r.length = i → (∀ x ∈ r, 0 ≤ x ∧ x < 10000) →
    ∃ q, spec_DrawPlaces.l0 k r i s c h = some q ∧ q.length = 12 ∧ ∀ x ∈ q, 0 ≤ x ∧ x < 10000 := by
  induction d with
  | zero =>
    intro k r i c h hi hk hc hl hr
    obtain ⟨k, rfl⟩ : ∃ m, k = m + 1 := ⟨k - 1, by omega⟩
    rw [spec_DrawPlaces.l0, if_neg (by omega)]
    exact ⟨r, rfl, by omega, hr⟩
  | succ d ih =>
    intro k r i c h hi hk hc hl hr
    obtain ⟨k, rfl⟩ : ∃ m, k = m + 1 := ⟨k - 1, by omega⟩
    obtain ⟨v, c', h', e, a, b, hc'⟩ := below_some s hs c h 10000 hc (by omega)
    rw [spec_DrawPlaces.l0, if_pos (by omega), e]
    simp only [Option.bind_some]
    rw [if_pos (by omega), wrap_cast i (by omega)]
    refine ih k _ (i + 1) c' h' (by omega) (by omega) hc' (by simp; omega) ?_
    intro x hx
    rcases List.mem_append.1 hx with hx | hx
    · exact hr x hx
    · rw [List.mem_singleton.1 hx]; exact ⟨a, b⟩
theorem places_some (x : List Int) (hx : x.length ≤ 1048576) (k : Nat) (hk : x.length < k) (h12 : 12 < k) : ∃ q, spec_DrawPlaces.f k x = some q ∧ q.length = 12 ∧ ∀ y ∈ q, 0 ≤ y ∧ y < 10000 := by
  obtain ⟨h, e⟩ := new_some x hx k hk
  unfold spec_DrawPlaces.f
  rw [e]
  simp only [Option.bind_some]
  exact places_l0 x hx 12 k [] 0 0 h (by omega) h12 (by omega) rfl (by simp)
theorem rd_range {q : List Int} (hl : q.length = 12) (hq : ∀ y ∈ q, 0 ≤ y ∧ y < 10000) (i : Nat) (hi : i < 12) : 0 ≤ rd q (i : Int) ∧ rd q (i : Int) < 10000 := hq _ (rd_mem q i (by omega))
def inB (a b c : Int) : Bool := if a ≥ b then decide (a ≤ c) else false
theorem in_eq (a b c : Int) : spec_l01In.f a b c = some (inB a b c) := by unfold spec_l01In.f inB; split <;> rfl
theorem within_eq (a b c : Int) : impl_within.f a b c = some (inB a b c) := in_eq a b c
theorem inB_iff (a b c : Int) : inB a b c = true ↔ b ≤ a ∧ a ≤ c := by unfold inB; split <;> simp <;> omega
def segB (x : S115) : Bool := inB x.f0 1 100 && inB x.f1 1 20
def trackB (t : List S115) : Bool := t.all segB && inB t.length 1 6
theorem specTrackOk_l0 (x : List S115) (hx : x.length ≤ 1048576) (d : Nat) : ∀ (k : Nat) (i : Nat), i + d = x.length → d < k → spec_TrackOk.l0 k x i = some ((x.drop i).all segB && inB x.length 1 6) := by
  induction d with
  | zero =>
    intro k i hi hk
    obtain ⟨k, rfl⟩ : ∃ m, k = m + 1 := ⟨k - 1, by omega⟩
    rw [spec_TrackOk.l0, if_neg (by omega), List.drop_of_length_le (by omega), in_eq]; rfl
  | succ d ih =>
    intro k i hi hk
    obtain ⟨k, rfl⟩ : ∃ m, k = m + 1 := ⟨k - 1, by omega⟩
    have e : rd_T115 x i = x.getD i z115 := by simp [rd_T115]
    rw [spec_TrackOk.l0, if_pos (by omega), if_pos (by omega), e, in_eq, in_eq, getD_drop x z115 i (by omega)]
    simp only [Option.bind_some, List.all_cons, segB]
    cases inB (x.getD i z115).f0 1 100 with
    | false => simp
    | true =>
      cases inB (x.getD i z115).f1 1 20 with
      | false => simp
      | true => simp only [if_true]; rw [wrap_cast i (by omega), ih k (i + 1) (by omega) (by omega)]; simp
theorem specTrackOk_eq (x : List S115) (hx : x.length ≤ 1048576) (k : Nat) (hk : x.length < k) : spec_TrackOk.f k x = some (trackB x) := by
  rw [spec_TrackOk.f]
  simpa [trackB] using specTrackOk_l0 x hx x.length k 0 (by omega) hk
theorem implTrackOk_l0 (x : List S115) (hx : x.length ≤ 1048576) (d : Nat) : ∀ (k : Nat) (i : Nat), i + d = x.length → d < k → impl_TrackOk.l0 k x x.length i = some ((x.drop i).all segB) := by
  induction d with
  | zero =>
    intro k i hi hk
    obtain ⟨k, rfl⟩ : ∃ m, k = m + 1 := ⟨k - 1, by omega⟩
    rw [impl_TrackOk.l0, if_neg (by omega), List.drop_of_length_le (by omega)]; rfl
  | succ d ih =>
    intro k i hi hk
    obtain ⟨k, rfl⟩ : ∃ m, k = m + 1 := ⟨k - 1, by omega⟩
    have e : rd_T115 x i = x.getD i z115 := by simp [rd_T115]
    rw [impl_TrackOk.l0, if_pos (by omega), if_pos (by omega), if_pos (by omega), e, within_eq, within_eq, getD_drop x z115 i (by omega)]
    simp only [Option.bind_some, List.all_cons, segB]
    cases inB (x.getD i z115).f0 1 100 with
    | false => simp
    | true =>
      cases inB (x.getD i z115).f1 1 20 with
      | false => simp
      | true => simp only [if_true]; rw [wrap_cast i (by omega), ih k (i + 1) (by omega) (by omega)]; simp
theorem implTrackOk_eq (x : List S115) (hx : x.length ≤ 1048576) (k : Nat) (hk : x.length < k) : impl_TrackOk.f k x = some (trackB x) := by
  have h := implTrackOk_l0 x hx x.length k 0 (by omega) hk
  simp only [List.drop_zero, Int.ofNat_zero] at h
  rw [impl_TrackOk.f, within_eq]
  simp only [Option.bind_some, trackB]
  cases inB (x.length : Int) 1 6 with
  | false => simp
  | true => simp only [if_true]; first | (rw [h]; simp) | (simp at h ⊢; exact h)
def lenSum : List S115 → Int
  | [] => 0
  | s :: r => s.f0 + lenSum r
theorem segB_iff (x : S115) : segB x = true ↔ (1 ≤ x.f0 ∧ x.f0 ≤ 100) ∧ (1 ≤ x.f1 ∧ x.f1 ≤ 20) := by simp [segB, inB_iff]
theorem lenSum_range (t : List S115) (h : t.all segB = true) : (t.length : Int) ≤ lenSum t ∧ lenSum t ≤ 100 * t.length := by
  induction t with
  | nil => simp [lenSum]
  | cons s r ih =>
    simp only [List.all_cons, Bool.and_eq_true, segB_iff] at h
    have := ih h.2
    simp only [lenSum, List.length_cons]
    omega
theorem all_drop {t : List S115} (h : t.all segB = true) (i : Nat) : (t.drop i).all segB = true := by
  rw [List.all_eq_true] at h ⊢
  exact fun x hx => h x (List.mem_of_mem_drop hx)
theorem trackB_iff (t : List S115) : trackB t = true ↔ t.all segB = true ∧ 1 ≤ t.length ∧ t.length ≤ 6 := by
  simp only [trackB, Bool.and_eq_true, inB_iff]
  exact ⟨fun h => ⟨h.1, by omega, by omega⟩, fun h => ⟨h.1, by omega, by omega⟩⟩
def trackLen (t : List S115) : Int := if trackB t = true then lenSum t else 0
theorem trackLen_range (t : List S115) : 0 ≤ trackLen t ∧ trackLen t ≤ 600 := by
  unfold trackLen
  split
  · rename_i h
    rw [trackB_iff] at h
    have := lenSum_range t h.1
    omega
  · omega
theorem specLen_l0 (x : List S115) (hb : trackB x = true) (d : Nat) : ∀ (k : Nat) (i : Nat) (a : Int), i + d = x.length → d + 7 < k → 0 ≤ a → a ≤ 100 * i → spec_TrackLength.l0 k x a i = some (a + lenSum (x.drop i)) := by
  have hx := (trackB_iff x).1 hb
  induction d with
  | zero =>
    intro k i a hi hk h0 h1
    obtain ⟨k, rfl⟩ : ∃ m, k = m + 1 := ⟨k - 1, by omega⟩
    rw [spec_TrackLength.l0, if_neg (by omega), List.drop_of_length_le (by omega)]; simp [lenSum]
  | succ d ih =>
    intro k i a hi hk h0 h1
    obtain ⟨k, rfl⟩ : ∃ m, k = m + 1 := ⟨k - 1, by omega⟩
    have e : rd_T115 x i = x.getD i z115 := by simp [rd_T115]
    have hs := List.all_eq_true.1 hx.1 _ (getD_mem x z115 i (by omega))
    rw [segB_iff] at hs
    rw [spec_TrackLength.l0, if_pos (by omega), specTrackOk_eq x (by omega) k (by omega)]
    simp only [Option.bind_some, hb, if_true]
    rw [if_pos (by omega), e, wrap_id (by omega) (by omega), wrap_cast i (by omega), ih k (i + 1) _ (by omega) (by omega) (by omega) (by omega), getD_drop x z115 i (by omega)]
    simp only [lenSum]
    congr 1; omega
theorem specLen_eq (x : List S115) (hx : x.length ≤ 1048576) (k : Nat) (hk : x.length + 16 < k) : spec_TrackLength.f k x = some (trackLen x) := by
  unfold spec_TrackLength.f trackLen
  cases hb : trackB x with
  | true =>
    have h := (trackB_iff x).1 hb
    have := specLen_l0 x hb x.length k 0 0 (by omega) (by omega) (by omega) (by omega)
    simpa using this
  | false =>
    obtain ⟨k, rfl⟩ : ∃ m, k = m + 1 := ⟨k - 1, by omega⟩
    rw [spec_TrackLength.l0]
    by_cases h : 0 < x.length
    · rw [if_pos (by omega), specTrackOk_eq x hx k (by omega)]; simp [hb]
    · rw [if_neg (by omega)]; simp
theorem implLen_l0 (x : List S115) (hb : trackB x = true) (d : Nat) : ∀ (k : Nat) (i : Nat) (a : Int), i + d = x.length → d < k → 0 ≤ a → a ≤ 100 * i → impl_TrackLength.l0 k a x x.length i = some (a + lenSum (x.drop i)) := by
  have hx := (trackB_iff x).1 hb
  induction d with
  | zero =>
    intro k i a hi hk h0 h1
    obtain ⟨k, rfl⟩ : ∃ m, k = m + 1 := ⟨k - 1, by omega⟩
    rw [impl_TrackLength.l0, if_neg (by omega), List.drop_of_length_le (by omega)]; simp [lenSum]
  | succ d ih =>
    intro k i a hi hk h0 h1
    obtain ⟨k, rfl⟩ : ∃ m, k = m + 1 := ⟨k - 1, by omega⟩
    have e : rd_T115 x i = x.getD i z115 := by simp [rd_T115]
    have hs := List.all_eq_true.1 hx.1 _ (getD_mem x z115 i (by omega))
    rw [segB_iff] at hs
    rw [impl_TrackLength.l0, if_pos (by omega), if_pos (by omega), if_pos (by omega), e, wrap_id (by omega) (by omega), wrap_cast i (by omega), ih k (i + 1) _ (by omega) (by omega) (by omega) (by omega), getD_drop x z115 i (by omega)]
    simp only [lenSum]
    congr 1; omega
theorem implLen_eq (x : List S115) (hx : x.length ≤ 1048576) (k : Nat) (hk : x.length + 16 < k) : impl_TrackLength.f k x = some (trackLen x) := by
  unfold impl_TrackLength.f trackLen
  rw [implTrackOk_eq x hx k (by omega)]
  simp only [Option.bind_some]
  cases hb : trackB x with
  | true =>
    have h := (trackB_iff x).1 hb
    have := implLen_l0 x hb x.length k 0 0 (by omega) (by omega) (by omega) (by omega)
    simpa using this
  | false => simp
/-- Where a sheet at place a is one step later: b: where the first of these segments begins, n: the path's length. -/
def stepIn (n a : Int) : Int → List S115 → Int
  | _, [] => a
  | b, s :: r => if a < b + s.f0 then mn n (a + s.f1) else stepIn n a (b + s.f0) r
def stepF (t : List S115) (a : Int) : Int := if trackB t && inB a 0 (trackLen t) then stepIn (trackLen t) a 0 t else -1
theorem mn_comm (a b : Int) : mn a b = mn b a := by unfold mn; split <;> split <;> omega
theorem implStep_l0 (x : List S115) (hb : trackB x = true) (a : Int) (ha : 0 ≤ a ∧ a ≤ 600) (n : Int) (d : Nat) : ∀ (k : Nat) (i : Nat) (b : Int), i + d = x.length → d < k → 0 ≤ b → b ≤ 100 * i → impl_StepSheet.l0 k a n b x x.length i = some (stepIn n a b (x.drop i)) := by
  have hx := (trackB_iff x).1 hb
  induction d with
  | zero =>
    intro k i b hi hk h0 h1
    obtain ⟨k, rfl⟩ : ∃ m, k = m + 1 := ⟨k - 1, by omega⟩
    rw [impl_StepSheet.l0, if_neg (by omega), List.drop_of_length_le (by omega)]; rfl
  | succ d ih =>
    intro k i b hi hk h0 h1
    obtain ⟨k, rfl⟩ : ∃ m, k = m + 1 := ⟨k - 1, by omega⟩
    have e : rd_T115 x i = x.getD i z115 := by simp [rd_T115]
    have hs := List.all_eq_true.1 hx.1 _ (getD_mem x z115 i (by omega))
    rw [segB_iff] at hs
    rw [impl_StepSheet.l0, if_pos (by omega), if_pos (by omega), if_pos (by omega), e, wrap_id (x := b + (x.getD i z115).f0) (by omega) (by omega), wrap_id (x := a + (x.getD i z115).f1) (by omega) (by omega), wrap_cast i (by omega), getD_drop x z115 i (by omega), mn_comm]
    simp only [stepIn]
    by_cases hlt : a < b + (x.getD i z115).f0
    · rw [if_pos hlt, if_pos hlt]
    · rw [if_neg hlt, if_neg hlt]
      exact ih k (i + 1) _ (by omega) (by omega) (by omega) (by omega)
theorem implStep_eq (x : List S115) (hx : x.length ≤ 1048576) (a : Int) (k : Nat) (hk : x.length + 17 < k) : impl_StepSheet.f k x a = some (stepF x a) := by
  obtain ⟨k, rfl⟩ : ∃ m, k = m + 1 := ⟨k - 1, by omega⟩
  unfold impl_StepSheet.f stepF
  rw [implLen_eq x hx _ (by omega), implTrackOk_eq x hx _ (by omega)]
  simp only [Option.bind_some, impl_StepSheet.j0, within_eq]
  cases hb : trackB x with
  | false => simp
  | true =>
    cases ha : inB a 0 (trackLen x) with
    | false => simp
    | true =>
      rw [inB_iff] at ha
      have h := (trackB_iff x).1 hb
      have hr := trackLen_range x
      have := implStep_l0 x hb a (by omega) (trackLen x) x.length k 0 0 (by omega) (by omega) (by omega) (by omega)
      simpa using this
def iterS (t : List S115) : Nat → Int → Int
  | 0, a => a
  | n + 1, a => iterS t n (stepF t a)
theorem iterS_succ (t : List S115) (n : Nat) : ∀ a, iterS t (n + 1) a = stepF t (iterS t n a) := by
  induction n with
  | zero => intro a; rfl
  | succ n ih => intro a; exact ih (stepF t a)
def placeF (t : List S115) (s : Int) : Int := if trackB t && inB s 0 1000 then iterS t s.toNat 0 else -1
/-- One step on: further, and not beyond the end. -/
theorem stepIn_range (n a : Int) : ∀ (r : List S115) (b : Int), r.all segB = true → b ≤ a → a ≤ n → n = b + lenSum r → a ≤ stepIn n a b r ∧ stepIn n a b r ≤ n ∧ (a < n → a < stepIn n a b r)
  | [], b, _, h0, h1, h2 => by simp only [lenSum] at h2; simp only [stepIn]; omega
  | s :: r, b, hs, h0, h1, h2 => by
    simp only [List.all_cons, Bool.and_eq_true, segB_iff] at hs
    simp only [lenSum] at h2
    simp only [stepIn]
    by_cases h : a < b + s.f0
    · rw [if_pos h]
      have hl := lenSum_range r hs.2
      unfold mn
      split <;> omega
    · rw [if_neg h]
      exact stepIn_range n a r (b + s.f0) hs.2 (by omega) h1 (by omega)
theorem stepF_range (t : List S115) (hb : trackB t = true) (a : Int) (h0 : 0 ≤ a) (h1 : a ≤ trackLen t) : a ≤ stepF t a ∧ stepF t a ≤ trackLen t ∧ (a < trackLen t → a < stepF t a) := by
  have e : trackLen t = lenSum t := by simp [trackLen, hb]
  have ha : inB a 0 (trackLen t) = true := (inB_iff _ _ _).2 ⟨h0, h1⟩
  unfold stepF
  rw [hb, ha]
  simp only [Bool.and_self, if_true]
  exact stepIn_range (trackLen t) a t 0 ((trackB_iff t).1 hb).1 h0 h1 (by omega)
theorem iterS_range (t : List S115) (hb : trackB t = true) (n : Nat) : 0 ≤ iterS t n 0 ∧ iterS t n 0 ≤ trackLen t := by
  induction n with
  | zero => exact ⟨by simp [iterS], (trackLen_range t).1⟩
  | succ n ih =>
    rw [iterS_succ]
    have := stepF_range t hb _ ih.1 ih.2
    omega
theorem implPlace_l0 (x : List S115) (hx : x.length ≤ 1048576) (d : Nat) : ∀ (k : Nat) (a : Int), d ≤ 1000 → d + x.length + 18 < k → impl_PlaceAfter.l0 k x d a = some (iterS x d a) := by
  induction d with
  | zero =>
    intro k a hi hk
    obtain ⟨k, rfl⟩ : ∃ m, k = m + 1 := ⟨k - 1, by omega⟩
    rw [impl_PlaceAfter.l0, if_neg (by omega)]; rfl
  | succ d ih =>
    intro k a hi hk
    obtain ⟨k, rfl⟩ : ∃ m, k = m + 1 := ⟨k - 1, by omega⟩
    rw [impl_PlaceAfter.l0, if_pos (by omega), implStep_eq x hx a k (by omega)]
    simp only [Option.bind_some]
    rw [wrap_id (by omega) (by omega), show ((d + 1 : Nat) : Int) - 1 = (d : Int) by omega]
    exact ih k _ (by omega) (by omega)
theorem implPlace_eq (x : List S115) (hx : x.length ≤ 1048576) (s : Int) (k : Nat) (hk : x.length + 1020 < k) : impl_PlaceAfter.f k x s = some (placeF x s) := by
  obtain ⟨k, rfl⟩ : ∃ m, k = m + 1 := ⟨k - 1, by omega⟩
  unfold impl_PlaceAfter.f placeF
  rw [implTrackOk_eq x hx _ (by omega)]
  simp only [Option.bind_some, impl_PlaceAfter.j0, within_eq]
  cases hb : trackB x with
  | false => simp
  | true =>
    cases ha : inB s 0 1000 with
    | false => simp
    | true =>
      rw [inB_iff] at ha
      have := implPlace_l0 x hx s.toNat k 0 (by omega) (by omega)
      rw [Int.toNat_of_nonneg ha.1] at this
      simpa using this
def gapF (t : List S115) (lead s : Int) : Int := if inB lead 0 1000 && inB s 0 1000 then (if placeF t (s + lead) < 0 then -1 else if placeF t s < 0 then -1 else placeF t (s + lead) - placeF t s) else -1
theorem placeF_range (t : List S115) (s : Int) : -1 ≤ placeF t s ∧ placeF t s ≤ 600 := by
  unfold placeF
  split
  · rename_i h
    simp only [Bool.and_eq_true] at h
    have := iterS_range t h.1 s.toNat
    have := trackLen_range t
    omega
  · omega
theorem placeF_neg (t : List S115) (s : Int) (h : ¬ (0 ≤ s ∧ s ≤ 1000)) : placeF t s = -1 := by
  unfold placeF
  have : inB s 0 1000 = false := by rw [← Bool.not_eq_true, inB_iff]; omega
  simp [this]
theorem implGap_eq (x : List S115) (hx : x.length ≤ 1048576) (l s : Int) (hl : (Lit.int .i64 l).wf = true) (hs : (Lit.int .i64 s).wf = true) (k : Nat) (hk : x.length + 1020 < k) : impl_GapAfter.f k x l s = some (gapF x l s) := by
  have hl := wf64 hl
  have hs := wf64 hs
  unfold impl_GapAfter.f gapF
  rw [implPlace_eq x hx _ k hk, implPlace_eq x hx _ k hk]
  simp only [Option.bind_some]
  have r1 := placeF_range x s
  have r2 := placeF_range x (wrap64 (s + l))
  have r3 := placeF_range x (s + l)
  by_cases h : (0 ≤ l ∧ l ≤ 1000) ∧ (0 ≤ s ∧ s ≤ 1000)
  · have h1 : inB l 0 1000 = true := (inB_iff _ _ _).2 h.1
    have h2 : inB s 0 1000 = true := (inB_iff _ _ _).2 h.2
    rw [h1, h2, wrap_id (by omega) (by omega)]
    simp only [Bool.and_self, if_true]
    by_cases c1 : placeF x (s + l) < 0
    · rw [if_pos c1, if_pos c1]
    · rw [if_neg c1, if_neg c1]
      by_cases c2 : placeF x s < 0
      · rw [if_pos c2, if_pos c2]
      · rw [if_neg c2, if_neg c2, if_neg (by omega), wrap_id (by omega) (by omega)]
  · have hf : (inB l 0 1000 && inB s 0 1000) = false := by rw [← Bool.not_eq_true, Bool.and_eq_true, inB_iff, inB_iff]; exact h
    rw [hf]
    simp only [Bool.false_eq_true, if_false]
    by_cases c2 : placeF x s < 0
    · rw [if_pos c2]; split <;> rfl
    · have hs' : 0 ≤ s ∧ s ≤ 1000 := by
        by_cases q : 0 ≤ s ∧ s ≤ 1000
        · exact q
        · exact absurd (placeF_neg x s q) (by omega)
      by_cases c3 : l < 0
      · rw [if_neg c2, if_pos c3]; split <;> rfl
      · have : placeF x (wrap64 (s + l)) = -1 := by
          apply placeF_neg
          unfold wrap64
          omega
        rw [this, if_pos (by omega)]
theorem track_l0 (s : List Int) (hs : s.length ≤ 1048576) (n : Nat) (hn : n ≤ 4) (d : Nat) : ∀ (k : Nat) (t : List S115) (i : Nat) (c h : Int), i + d = n → d < k → 0 ≤ c → t.length = i → t.all segB = true →
    ∃ t' c' h', spec_l31Track.l0 k t n i s c h = some (t', c', h') ∧ t'.length = n ∧ t'.all segB = true ∧ 0 ≤ c' := by
  induction d with
  | zero =>
    intro k t i c h hi hk hc hl ht
    obtain ⟨k, rfl⟩ : ∃ m, k = m + 1 := ⟨k - 1, by omega⟩
    rw [spec_l31Track.l0, if_neg (by omega)]
    exact ⟨t, c, h, rfl, by omega, ht, hc⟩
  | succ d ih =>
    intro k t i c h hi hk hc hl ht
    obtain ⟨k, rfl⟩ : ∃ m, k = m + 1 := ⟨k - 1, by omega⟩
    obtain ⟨v, c1, h1, e1, a1, b1, hc1⟩ := below_some s hs c h 30 hc (by omega)
    obtain ⟨v2, c2, h2, e2, a2, b2, hc2⟩ := below_some s hs c1 h1 8 hc1 (by omega)
    rw [spec_l31Track.l0, if_pos (by omega), e1]
    simp only [Option.bind_some]
    rw [e2]
    simp only [Option.bind_some]
    rw [if_pos (by omega), wrap_cast i (by omega)]
    refine ih k _ (i + 1) c2 h2 (by omega) (by omega) hc2 (by simp; omega) ?_
    rw [List.all_append, ht]
    simp only [List.all_cons, List.all_nil, Bool.and_true, Bool.true_and, segB_iff]
    rw [wrap_id (by omega) (by omega), wrap_id (by omega) (by omega)]
    omega
theorem drawTrack_some (x : List Int) (hx : x.length ≤ 1048576) (k : Nat) (hk : x.length + 5 < k) : ∃ t, spec_DrawTrack.f k x = some t ∧ trackB t = true := by
  obtain ⟨h, e⟩ := new_some x hx k (by omega)
  obtain ⟨v, c1, h1, e1, a1, b1, hc1⟩ := below_some x hx 0 h 4 (by omega) (by omega)
  obtain ⟨t, c2, h2, e2, hl, ht, _⟩ := track_l0 x hx (v + 1).toNat (by omega) (v + 1).toNat k [] 0 c1 h1 (by omega) (by omega) hc1 rfl rfl
  refine ⟨t, ?_, (trackB_iff t).2 ⟨ht, by omega, by omega⟩⟩
  unfold spec_DrawTrack.f spec_l31Track.f
  rw [e]
  simp only [Option.bind_some]
  rw [e1]
  simp only [Option.bind_some]
  rw [wrap_id (by omega) (by omega), show (1 + v : Int) = (((v + 1).toNat : Nat) : Int) by omega]
  have e2' : spec_l31Track.l0 k [] (((v + 1).toNat : Nat) : Int) 0 x c1 h1 = some (t, c2, h2) := e2
  rw [e2']
  simp only [Option.bind_some]
theorem stepF_end (t : List S115) (hb : trackB t = true) : stepF t (trackLen t) = trackLen t := by
  have := stepF_range t hb (trackLen t) (trackLen_range t).1 (Int.le_refl _)
  omega
theorem iterS_le (t : List S115) (hb : trackB t = true) (n m : Nat) : iterS t n 0 ≤ iterS t (n + m) 0 := by
  induction m with
  | zero => simp
  | succ m ih =>
    rw [← Nat.add_assoc, iterS_succ]
    have r := iterS_range t hb (n + m)
    have := stepF_range t hb _ r.1 r.2
    omega
theorem iterS_lt (t : List S115) (hb : trackB t = true) (n m : Nat) (h : iterS t n 0 < trackLen t) (hm : 0 < m) : iterS t n 0 < iterS t (n + m) 0 := by
  have h1 := iterS_le t hb (n + 1) (m - 1)
  rw [show n + 1 + (m - 1) = n + m by omega, iterS_succ] at h1
  have r := iterS_range t hb n
  have := stepF_range t hb _ r.1 r.2
  omega
theorem placeF_eq (t : List S115) (hb : trackB t = true) (s : Int) (h0 : 0 ≤ s) (h1 : s ≤ 1000) : placeF t s = iterS t s.toNat 0 := by
  have : inB s 0 1000 = true := (inB_iff _ _ _).2 ⟨h0, h1⟩
  simp [placeF, hb, this]
theorem pure : laws_FnGaps.Stm := by
  intro x _ _
  refine ⟨x.length + 1100, ?_⟩
  unfold laws_FnGaps.f laws_big.f
  simp only [Option.bind_some]
  by_cases h : (x.length : Int) > 1048576
  · simp [h]
  · rw [if_neg (by simpa using h)]
    obtain ⟨t, et, hb⟩ := drawTrack_some x (by omega) (x.length + 1100) (by omega)
    obtain ⟨q, e, hl, hq⟩ := places_some x (by omega) (x.length + 1100) (by omega) (by omega)
    have hx : t.length ≤ 6 := ((trackB_iff t).1 hb).2.2
    rw [et]
    simp only [Option.bind_some]
    rw [e]
    simp only [Option.bind_some]
    have r0 := rd_range hl hq 0 (by omega)
    have r1 := rd_range hl hq 1 (by omega)
    simp only [Int.ofNat_zero, Int.ofNat_one] at r0 r1
    have t0 := tmod_range (a := rd q 0) (b := 12) r0.1 (by omega)
    have t1 := tmod_range (a := rd q 1) (b := 60) r1.1 (by omega)
    generalize Int.tmod (rd q 0) 12 = a at *
    generalize Int.tmod (rd q 1) 60 = s at *
    rw [if_pos (by omega), if_pos (by omega), wrap_id (x := 1 + a) (by omega) (by omega), wrap_id (x := s + (1 + a)) (by omega) (by omega)]
    have wl : (Lit.int .i64 (1 + a)).wf = true := wf_mk (by omega) (by omega)
    have ws : (Lit.int .i64 s).wf = true := wf_mk (by omega) (by omega)
    rw [implGap_eq t (by omega) _ _ wl ws _ (by omega), implLen_eq t (by omega) _ (by omega), specLen_eq t (by omega) _ (by omega), implPlace_eq t (by omega) _ _ (by omega), implPlace_eq t (by omega) _ _ (by omega)]
    simp only [Option.bind_some, if_true]
    have p1 := placeF_eq t hb s (by omega) (by omega)
    have p2 := placeF_eq t hb (s + (1 + a)) (by omega) (by omega)
    have i1 := iterS_range t hb s.toNat
    have i2 := iterS_range t hb (s + (1 + a)).toNat
    have hr := trackLen_range t
    have hle := iterS_le t hb s.toNat (1 + a).toNat
    rw [show s.toNat + (1 + a).toNat = (s + (1 + a)).toNat by omega] at hle
    have hlt := iterS_lt t hb s.toNat (1 + a).toNat
    rw [show s.toNat + (1 + a).toNat = (s + (1 + a)).toNat by omega] at hlt
    have g : gapF t (1 + a) s = placeF t (s + (1 + a)) - placeF t s := by
      have c1 : inB (1 + a) 0 1000 = true := (inB_iff _ _ _).2 (by omega)
      have c2 : inB s 0 1000 = true := (inB_iff _ _ _).2 (by omega)
      unfold gapF
      rw [c1, c2]
      simp only [Bool.and_self, if_true]
      rw [if_neg (by omega), if_neg (by omega)]
    rw [g, wrap_id (by omega) (by omega), if_pos rfl, p1, p2]
    congr 1
    by_cases c : iterS t s.toNat 0 < trackLen t
    · have := hlt c (by omega)
      have d1 : decide (iterS t (s + (1 + a)).toNat 0 - iterS t s.toNat 0 > 0) = true := decide_eq_true (by omega)
      have d2 : decide (iterS t s.toNat 0 < trackLen t) = true := decide_eq_true c
      rw [d1, d2]; rfl
    · have d1 : decide (iterS t (s + (1 + a)).toNat 0 - iterS t s.toNat 0 > 0) = false := decide_eq_false (by omega)
      have d2 : decide (iterS t s.toNat 0 < trackLen t) = false := decide_eq_false c
      rw [d1, d2]; rfl
end Go.Proofs.Ytifaojbmdahoiaa.PureFnGaps
