/- Of drawn sheets on a drawn track: the plan's arrivals are in order and in time, and a late one is found, whatever is drawn: no condition. -/
import Derived.Test.YtifaojbmdahoiaaOpsFnArrivals
import Derived.Test.YtifaojbmdahoiaaPlain
namespace Go.Proofs.Ytifaojbmdahoiaa.PureFnArrivals
open Go.RowKit Go.Proofs.Ytifaojbmdahoiaa.PFnArrivals Go.Proofs.Ytifaojbmdahoiaa.Opened Go.Proofs.Ytifaojbmdahoiaa.Plain Go.Proofs.YtifaojbmdahoiaaW.PrintWords Go.Proofs.YtifaojbmdahoiaaW.PrintLast Go.Proofs.YtifaojbmdahoiaaW.PrintMore
set_option linter.unusedVariables false
set_option linter.unusedSimpArgs false
theorem new_l0 (x : List Int) (hx : x.length ≤ 1048576) (d : Nat) : ∀ (k : Nat) (h : Int) (i : Nat), i + d = x.length → d < k → ∃ h', spec_l01New.l0 k x h i = some (x, 0, h') := by
  induction d with
  | zero =>
    intro k h i hi hk
    obtain ⟨k, rfl⟩ : ∃ m, k = m + 1 := ⟨k - 1, by omega⟩
    rw [spec_l01New.l0, if_neg (by omega)]
    exact ⟨_, rfl⟩
  | succ d ih =>
    intro k h i hi hk
    obtain ⟨k, rfl⟩ : ∃ m, k = m + 1 := ⟨k - 1, by omega⟩
    rw [spec_l01New.l0, if_pos (by omega)]
    by_cases h4 : (i : Int) < 4000
    · rw [if_pos h4, if_pos (by omega), wrap_cast i (by omega)]
      exact ih k _ (i + 1) (by omega) (by omega)
    · rw [if_neg h4]
      exact ⟨_, rfl⟩
theorem new_some (x : List Int) (hx : x.length ≤ 1048576) (k : Nat) (hk : x.length < k) : ∃ h, spec_l01New.f k x = some (x, 0, h) := new_l0 x hx x.length k _ 0 (by omega) hk
theorem byte_some (s : List Int) (hs : s.length ≤ 1048576) (i h : Int) (hi : 0 ≤ i) : ∃ v i' h', spec_l01Byte.f s i h = some (v, i', h') ∧ 0 ≤ v ∧ v ≤ 255 ∧ 0 ≤ i' := by
  unfold spec_l01Byte.f
  simp only [i64_and255]
  by_cases h1 : i < (s.length : Int)
  · rw [if_pos h1, if_pos hi]
    exact ⟨_, _, _, rfl, by omega, by omega, by rw [wrap_id (by omega) (by omega)]; omega⟩
  · rw [if_neg h1]
    exact ⟨_, _, _, rfl, by omega, by omega, hi⟩
theorem below_some (s : List Int) (hs : s.length ≤ 1048576) (i h n : Int) (hi : 0 ≤ i) (hn : 0 < n) : ∃ v i' h', spec_l01Below.f s i h n = some (v, i', h') ∧ 0 ≤ v ∧ v < n ∧ 0 ≤ i' := by
  unfold spec_l01Below.f
  rw [if_neg (by omega)]
  obtain ⟨v1, i1, h1, e1, a1, b1, c1⟩ := byte_some s hs i h hi
  by_cases h2 : n ≤ 256
  · rw [if_pos h2, e1]
    simp only [Option.bind_some]
    rw [if_neg (by omega)]
    have := tmod_range a1 hn
    exact ⟨_, _, _, rfl, this.1, this.2, c1⟩
  · rw [if_neg h2, e1]
    simp only [Option.bind_some]
    obtain ⟨v2, i2, h2, e2, a2, b2, c2⟩ := byte_some s hs i1 h1 c1
    rw [e2]
    simp only [Option.bind_some]
    obtain ⟨v3, i3, h3, e3, a3, b3, c3⟩ := byte_some s hs i2 h2 c2
    rw [e3]
    simp only [Option.bind_some]
    obtain ⟨v4, i4, h4, e4, a4, b4, c4⟩ := byte_some s hs i3 h3 c3
    rw [e4]
    simp only [Option.bind_some]
    rw [if_neg (by omega)]
    have w1 : wrap64 (v1 * 16777216) = v1 * 16777216 := wrap_id (by omega) (by omega)
    have w2 : wrap64 (v2 * 65536) = v2 * 65536 := wrap_id (by omega) (by omega)
    have w3 : wrap64 (v3 * 256) = v3 * 256 := wrap_id (by omega) (by omega)
    rw [w1, w2, w3, wrap_id (x := v1 * 16777216 + v2 * 65536) (by omega) (by omega), wrap_id (x := v1 * 16777216 + v2 * 65536 + v3 * 256) (by omega) (by omega), wrap_id (x := v1 * 16777216 + v2 * 65536 + v3 * 256 + v4) (by omega) (by omega)]
    have := tmod_range (a := v1 * 16777216 + v2 * 65536 + v3 * 256 + v4) (by omega) hn
    exact ⟨_, _, _, rfl, this.1, this.2, c4⟩
theorem places_l0 (s : List Int) (hs : s.length ≤ 1048576) (d : Nat) : ∀ (k : Nat) (r : List Int) (i : Nat) (c h : Int), i + d = 12 → d < k → 0 ≤ c → r.length = i → (∀ x ∈ r, 0 ≤ x ∧ x < 10000) →
    ∃ q, spec_DrawPlaces.l0 k r i s c h = some q ∧ q.length = 12 ∧ ∀ x ∈ q, 0 ≤ x ∧ x < 10000 := by
  induction d with
  | zero =>
    intro k r i c h hi hk hc hl hr
    obtain ⟨k, rfl⟩ : ∃ m, k = m + 1 := ⟨k - 1, by omega⟩
    rw [spec_DrawPlaces.l0, if_neg (by omega)]
    exact ⟨r, rfl, by omega, hr⟩
  | succ d ih =>
    intro k r i c h hi hk hc hl hr
    obtain ⟨k, rfl⟩ : ∃ m, k = m + 1 := ⟨k - 1, by omega⟩
    obtain ⟨v, c', h', e, a, b, hc'⟩ := below_some s hs c h 10000 hc (by omega)
    rw [spec_DrawPlaces.l0, if_pos (by omega), e]
    simp only [Option.bind_some]
    rw [if_pos (by omega), wrap_cast i (by omega)]
    refine ih k _ (i + 1) c' h' (by omega) (by omega) hc' (by simp; omega) ?_
    intro x hx
    rcases List.mem_append.1 hx with hx | hx
    · exact hr x hx
    · rw [List.mem_singleton.1 hx]; exact ⟨a, b⟩
theorem places_some (x : List Int) (hx : x.length ≤ 1048576) (k : Nat) (hk : x.length < k) (h12 : 12 < k) : ∃ q, spec_DrawPlaces.f k x = some q ∧ q.length = 12 ∧ ∀ y ∈ q, 0 ≤ y ∧ y < 10000 := by
  obtain ⟨h, e⟩ := new_some x hx k hk
  unfold spec_DrawPlaces.f
  rw [e]
  simp only [Option.bind_some]
  exact places_l0 x hx 12 k [] 0 0 h (by omega) h12 (by omega) rfl (by simp)
theorem rd_range {q : List Int} (hl : q.length = 12) (hq : ∀ y ∈ q, 0 ≤ y ∧ y < 10000) (i : Nat) (hi : i < 12) : 0 ≤ rd q (i : Int) ∧ rd q (i : Int) < 10000 := hq _ (rd_mem q i (by omega))
def inB (a b c : Int) : Bool := if a ≥ b then decide (a ≤ c) else false
theorem in_eq (a b c : Int) : spec_l01In.f a b c = some (inB a b c) := by unfold spec_l01In.f inB; split <;> rfl
theorem within_eq (a b c : Int) : impl_within.f a b c = some (inB a b c) := in_eq a b c
theorem inB_iff (a b c : Int) : inB a b c = true ↔ b ≤ a ∧ a ≤ c := by unfold inB; split <;> simp <;> omega
def segB (x : S115) : Bool := inB x.f0 1 100 && inB x.f1 1 20
def trackB (t : List S115) : Bool := t.all segB && inB t.length 1 6
theorem specTrackOk_l0 (x : List S115) (hx : x.length ≤ 1048576) (d : Nat) : ∀ (k : Nat) (i : Nat), i + d = x.length → d < k → spec_TrackOk.l0 k x i = some ((x.drop i).all segB && inB x.length 1 6) := by
  induction d with
  | zero =>
    intro k i hi hk
    obtain ⟨k, rfl⟩ : ∃ m, k = m + 1 := ⟨k - 1, by omega⟩
    rw [spec_TrackOk.l0, if_neg (by omega), List.drop_of_length_le (by omega), in_eq]; rfl
  | succ d ih =>
    intro k i hi hk
    obtain ⟨k, rfl⟩ : ∃ m, k = m + 1 := ⟨k - 1, by omega⟩
    have e : rd_T115 x i = x.getD i z115 := by simp [rd_T115]
    rw [spec_TrackOk.l0, if_pos (by omega), if_pos (by omega), e, in_eq, in_eq, getD_drop x z115 i (by omega)]
    simp only [Option.bind_some, List.all_cons, segB]
    cases inB (x.getD i z115).f0 1 100 with
    | false => simp
    | true =>
      cases inB (x.getD i z115).f1 1 20 with
      | false => simp
      | true => simp only [if_true]; rw [wrap_cast i (by omega), ih k (i + 1) (by omega) (by omega)]; simp
theorem specTrackOk_eq (x : List S115) (hx : x.length ≤ 1048576) (k : Nat) (hk : x.length < k) : spec_TrackOk.f k x = some (trackB x) := by
  rw [spec_TrackOk.f]
  simpa [trackB] using specTrackOk_l0 x hx x.length k 0 (by omega) hk
theorem implTrackOk_l0 (x : List S115) (hx : x.length ≤ 1048576) (d : Nat) : ∀ (k : Nat) (i : Nat), i + d = x.length → d < k → impl_TrackOk.l0 k x x.length i = some ((x.drop i).all segB) := by
  induction d with
  | zero =>
    intro k i hi hk
    obtain ⟨k, rfl⟩ : ∃ m, k = m + 1 := ⟨k - 1, by omega⟩
    rw [impl_TrackOk.l0, if_neg (by omega), List.drop_of_length_le (by omega)]; rfl
  | succ d ih =>
    intro k i hi hk
    obtain ⟨k, rfl⟩ : ∃ m, k = m + 1 := ⟨k - 1, by omega⟩
    have e : rd_T115 x i = x.getD i z115 := by simp [rd_T115]
    rw [impl_TrackOk.l0, if_pos (by omega), if_pos (by omega), if_pos (by omega), e, within_eq, within_eq, getD_drop x z115 i (by omega)]
    simp only [Option.bind_some, List.all_cons, segB]
    cases inB (x.getD i z115).f0 1 100 with
    | false => simp
    | true =>
      cases inB (x.getD i z115).f1 1 20 with
      | false => simp
      | true => simp only [if_true]; rw [wrap_cast i (by omega), ih k (i + 1) (by omega) (by omega)]; simp
theorem implTrackOk_eq (x : List S115) (hx : x.length ≤ 1048576) (k : Nat) (hk : x.length < k) : impl_TrackOk.f k x = some (trackB x) := by
  have h := implTrackOk_l0 x hx x.length k 0 (by omega) hk
  simp only [List.drop_zero, Int.ofNat_zero] at h
  rw [impl_TrackOk.f, within_eq]
  simp only [Option.bind_some, trackB]
  cases inB (x.length : Int) 1 6 with
  | false => simp
  | true => simp only [if_true]; first | (rw [h]; simp) | (simp at h ⊢; exact h)
def lenSum : List S115 → Int
  | [] => 0
  | s :: r => s.f0 + lenSum r
theorem segB_iff (x : S115) : segB x = true ↔ (1 ≤ x.f0 ∧ x.f0 ≤ 100) ∧ (1 ≤ x.f1 ∧ x.f1 ≤ 20) := by simp [segB, inB_iff]
theorem lenSum_range (t : List S115) (h : t.all segB = true) : (t.length : Int) ≤ lenSum t ∧ lenSum t ≤ 100 * t.length := by
  induction t with
  | nil => simp [lenSum]
  | cons s r ih =>
    simp only [List.all_cons, Bool.and_eq_true, segB_iff] at h
    have := ih h.2
    simp only [lenSum, List.length_cons]
    omega
theorem all_drop {t : List S115} (h : t.all segB = true) (i : Nat) : (t.drop i).all segB = true := by
  rw [List.all_eq_true] at h ⊢
  exact fun x hx => h x (List.mem_of_mem_drop hx)
theorem trackB_iff (t : List S115) : trackB t = true ↔ t.all segB = true ∧ 1 ≤ t.length ∧ t.length ≤ 6 := by
  simp only [trackB, Bool.and_eq_true, inB_iff]
  exact ⟨fun h => ⟨h.1, by omega, by omega⟩, fun h => ⟨h.1, by omega, by omega⟩⟩
def trackLen (t : List S115) : Int := if trackB t = true then lenSum t else 0
theorem trackLen_range (t : List S115) : 0 ≤ trackLen t ∧ trackLen t ≤ 600 := by
  unfold trackLen
  split
  · rename_i h
    rw [trackB_iff] at h
    have := lenSum_range t h.1
    omega
  · omega
theorem specLen_l0 (x : List S115) (hb : trackB x = true) (d : Nat) : ∀ (k : Nat) (i : Nat) (a : Int), i + d = x.length → d + 7 < k → 0 ≤ a → a ≤ 100 * i → spec_TrackLength.l0 k x a i = some (a + lenSum (x.drop i)) := by
  have hx := (trackB_iff x).1 hb
  induction d with
  | zero =>
    intro k i a hi hk h0 h1
    obtain ⟨k, rfl⟩ : ∃ m, k = m + 1 := ⟨k - 1, by omega⟩
    rw [spec_TrackLength.l0, if_neg (by omega), List.drop_of_length_le (by omega)]; simp [lenSum]
  | succ d ih =>
    intro k i a hi hk h0 h1
    obtain ⟨k, rfl⟩ : ∃ m, k = m + 1 := ⟨k - 1, by omega⟩
    have e : rd_T115 x i = x.getD i z115 := by simp [rd_T115]
    have hs := List.all_eq_true.1 hx.1 _ (getD_mem x z115 i (by omega))
    rw [segB_iff] at hs
    rw [spec_TrackLength.l0, if_pos (by omega), specTrackOk_eq x (by omega) k (by omega)]
    simp only [Option.bind_some, hb, if_true]
    rw [if_pos (by omega), e, wrap_id (by omega) (by omega), wrap_cast i (by omega), ih k (i + 1) _ (by omega) (by omega) (by omega) (by omega), getD_drop x z115 i (by omega)]
    simp only [lenSum]
    congr 1; omega
theorem specLen_eq (x : List S115) (hx : x.length ≤ 1048576) (k : Nat) (hk : x.length + 16 < k) : spec_TrackLength.f k x = some (trackLen x) := by
  unfold spec_TrackLength.f trackLen
  cases hb : trackB x with
  | true =>
    have h := (trackB_iff x).1 hb
    have := specLen_l0 x hb x.length k 0 0 (by omega) (by omega) (by omega) (by omega)
    simpa using this
  | false =>
    obtain ⟨k, rfl⟩ : ∃ m, k = m + 1 := ⟨k - 1, by omega⟩
    rw [spec_TrackLength.l0]
    by_cases h : 0 < x.length
    · rw [if_pos (by omega), specTrackOk_eq x hx k (by omega)]; simp [hb]
    · rw [if_neg (by omega)]; simp
theorem implLen_l0 (x : List S115) (hb : trackB x = true) (d : Nat) : ∀ (k : Nat) (i : Nat) (a : Int), i + d = x.length → d < k → 0 ≤ a → a ≤ 100 * i → impl_TrackLength.l0 k a x x.length i = some (a + lenSum (x.drop i)) := by
  have hx := (trackB_iff x).1 hb
  induction d with
  | zero =>
    intro k i a hi hk h0 h1
    obtain ⟨k, rfl⟩ : ∃ m, k = m + 1 := ⟨k - 1, by omega⟩
    rw [impl_TrackLength.l0, if_neg (by omega), List.drop_of_length_le (by omega)]; simp [lenSum]
  | succ d ih =>
    intro k i a hi hk h0 h1
    obtain ⟨k, rfl⟩ : ∃ m, k = m + 1 := ⟨k - 1, by omega⟩
    have e : rd_T115 x i = x.getD i z115 := by simp [rd_T115]
    have hs := List.all_eq_true.1 hx.1 _ (getD_mem x z115 i (by omega))
    rw [segB_iff] at hs
    rw [impl_TrackLength.l0, if_pos (by omega), if_pos (by omega), if_pos (by omega), e, wrap_id (by omega) (by omega), wrap_cast i (by omega), ih k (i + 1) _ (by omega) (by omega) (by omega) (by omega), getD_drop x z115 i (by omega)]
    simp only [lenSum]
    congr 1; omega
theorem implLen_eq (x : List S115) (hx : x.length ≤ 1048576) (k : Nat) (hk : x.length + 16 < k) : impl_TrackLength.f k x = some (trackLen x) := by
  unfold impl_TrackLength.f trackLen
  rw [implTrackOk_eq x hx k (by omega)]
  simp only [Option.bind_some]
  cases hb : trackB x with
  | true =>
    have h := (trackB_iff x).1 hb
    have := implLen_l0 x hb x.length k 0 0 (by omega) (by omega) (by omega) (by omega)
    simpa using this
  | false => simp
/-- Where a sheet at place a is one step later: b: where the first of these segments begins, n: the path's length. -/
def stepIn (n a : Int) : Int → List S115 → Int
  | _, [] => a
  | b, s :: r => if a < b + s.f0 then mn n (a + s.f1) else stepIn n a (b + s.f0) r
def stepF (t : List S115) (a : Int) : Int := if trackB t && inB a 0 (trackLen t) then stepIn (trackLen t) a 0 t else -1
theorem mn_comm (a b : Int) : mn a b = mn b a := by unfold mn; split <;> split <;> omega
theorem implStep_l0 (x : List S115) (hb : trackB x = true) (a : Int) (ha : 0 ≤ a ∧ a ≤ 600) (n : Int) (d : Nat) : ∀ (k : Nat) (i : Nat) (b : Int), i + d = x.length → d < k → 0 ≤ b → b ≤ 100 * i → impl_StepSheet.l0 k a n b x x.length i = some (stepIn n a b (x.drop i)) := by
  have hx := (trackB_iff x).1 hb
  induction d with
  | zero =>
    intro k i b hi hk h0 h1
    obtain ⟨k, rfl⟩ : ∃ m, k = m + 1 := ⟨k - 1, by omega⟩
    rw [impl_StepSheet.l0, if_neg (by omega), List.drop_of_length_le (by omega)]; rfl
  | succ d ih =>
    intro k i b hi hk h0 h1
    obtain ⟨k, rfl⟩ : ∃ m, k = m + 1 := ⟨k - 1, by omega⟩
    have e : rd_T115 x i = x.getD i z115 := by simp [rd_T115]
    have hs := List.all_eq_true.1 hx.1 _ (getD_mem x z115 i (by omega))
    rw [segB_iff] at hs
    rw [impl_StepSheet.l0, if_pos (by omega), if_pos (by omega), if_pos (by omega), e, wrap_id (x := b + (x.getD i z115).f0) (by omega) (by omega), wrap_id (x := a + (x.getD i z115).f1) (by omega) (by omega), wrap_cast i (by omega), getD_drop x z115 i (by omega), mn_comm]
    simp only [stepIn]
    by_cases hlt : a < b + (x.getD i z115).f0
    · rw [if_pos hlt, if_pos hlt]
    · rw [if_neg hlt, if_neg hlt]
      exact ih k (i + 1) _ (by omega) (by omega) (by omega) (by omega)
theorem implStep_eq (x : List S115) (hx : x.length ≤ 1048576) (a : Int) (k : Nat) (hk : x.length + 17 < k) : impl_StepSheet.f k x a = some (stepF x a) := by
  obtain ⟨k, rfl⟩ : ∃ m, k = m + 1 := ⟨k - 1, by omega⟩
  unfold impl_StepSheet.f stepF
  rw [implLen_eq x hx _ (by omega), implTrackOk_eq x hx _ (by omega)]
  simp only [Option.bind_some, impl_StepSheet.j0, within_eq]
  cases hb : trackB x with
  | false => simp
  | true =>
    cases ha : inB a 0 (trackLen x) with
    | false => simp
    | true =>
      rw [inB_iff] at ha
      have h := (trackB_iff x).1 hb
      have hr := trackLen_range x
      have := implStep_l0 x hb a (by omega) (trackLen x) x.length k 0 0 (by omega) (by omega) (by omega) (by omega)
      simpa using this
def iterS (t : List S115) : Nat → Int → Int
  | 0, a => a
  | n + 1, a => iterS t n (stepF t a)
theorem iterS_succ (t : List S115) (n : Nat) : ∀ a, iterS t (n + 1) a = stepF t (iterS t n a) := by
  induction n with
  | zero => intro a; rfl
  | succ n ih => intro a; exact ih (stepF t a)
def placeF (t : List S115) (s : Int) : Int := if trackB t && inB s 0 1000 then iterS t s.toNat 0 else -1
/-- One step on: further, and not beyond the end. -/
theorem stepIn_range (n a : Int) : ∀ (r : List S115) (b : Int), r.all segB = true → b ≤ a → a ≤ n → n = b + lenSum r → a ≤ stepIn n a b r ∧ stepIn n a b r ≤ n ∧ (a < n → a < stepIn n a b r)
  | [], b, _, h0, h1, h2 => by simp only [lenSum] at h2; simp only [stepIn]; omega
  | s :: r, b, hs, h0, h1, h2 => by
    simp only [List.all_cons, Bool.and_eq_true, segB_iff] at hs
    simp only [lenSum] at h2
    simp only [stepIn]
    by_cases h : a < b + s.f0
    · rw [if_pos h]
      have hl := lenSum_range r hs.2
      unfold mn
      split <;> omega
    · rw [if_neg h]
      exact stepIn_range n a r (b + s.f0) hs.2 (by omega) h1 (by omega)
theorem stepF_range (t : List S115) (hb : trackB t = true) (a : Int) (h0 : 0 ≤ a) (h1 : a ≤ trackLen t) : a ≤ stepF t a ∧ stepF t a ≤ trackLen t ∧ (a < trackLen t → a < stepF t a) := by
  have e : trackLen t = lenSum t := by simp [trackLen, hb]
  have ha : inB a 0 (trackLen t) = true := (inB_iff _ _ _).2 ⟨h0, h1⟩
  unfold stepF
  rw [hb, ha]
  simp only [Bool.and_self, if_true]
  exact stepIn_range (trackLen t) a t 0 ((trackB_iff t).1 hb).1 h0 h1 (by omega)
theorem iterS_range (t : List S115) (hb : trackB t = true) (n : Nat) : 0 ≤ iterS t n 0 ∧ iterS t n 0 ≤ trackLen t := by
  induction n with
  | zero => exact ⟨by simp [iterS], (trackLen_range t).1⟩
  | succ n ih =>
    rw [iterS_succ]
    have := stepF_range t hb _ ih.1 ih.2
    omega
/-- m: the first number of steps behind which place p is reached. -/
def First (t : List S115) (p : Int) (m : Nat) : Prop := p ≤ iterS t m 0 ∧ ∀ j, j < m → iterS t j 0 < p
theorem First.one {t : List S115} {p : Int} {m m' : Nat} (h : First t p m) (h' : First t p m') : m = m' := by
  rcases Nat.lt_trichotomy m m' with c | c | c
  · have := h'.2 m c; have := h.1; omega
  · exact c
  · have := h.2 m' c; have := h'.1; omega
theorem implSteps_l0 (x : List S115) (hx : x.length ≤ 1048576) (hb : trackB x = true) (p : Int) (hp : p ≤ trackLen x) (d : Nat) : ∀ (k : Nat) (n : Nat), (p - iterS x n 0).toNat ≤ d → n + d ≤ 700 → d + x.length + 18 < k → (∀ j, j < n → iterS x j 0 < p) →
    ∃ m, impl_StepsTo.l0 k x p n (iterS x n 0) = some ((m : Nat) : Int) ∧ First x p m ∧ m ≤ 700 := by
  induction d with
  | zero =>
    intro k n hi hn hk hj
    obtain ⟨k, rfl⟩ : ∃ m, k = m + 1 := ⟨k - 1, by omega⟩
    rw [impl_StepsTo.l0, if_neg (by omega)]
    exact ⟨n, rfl, ⟨by omega, hj⟩, by omega⟩
  | succ d ih =>
    intro k n hi hn hk hj
    obtain ⟨k, rfl⟩ : ∃ m, k = m + 1 := ⟨k - 1, by omega⟩
    rw [impl_StepsTo.l0]
    by_cases h : iterS x n 0 < p
    · have r := iterS_range x hb n
      have r2 := stepF_range x hb _ r.1 r.2
      rw [if_pos h, implStep_eq x hx _ k (by omega)]
      simp only [Option.bind_some]
      rw [wrap_cast n (by omega), ← iterS_succ]
      refine ih k (n + 1) (by rw [iterS_succ]; omega) (by omega) (by omega) (fun j hj' => ?_)
      rcases Nat.lt_succ_iff_lt_or_eq.1 hj' with c | rfl
      · exact hj j c
      · exact h
    · rw [if_neg h]
      exact ⟨n, rfl, ⟨by omega, hj⟩, by omega⟩
theorem implSteps_eq (x : List S115) (hx : x.length ≤ 1048576) (p : Int) (k : Nat) (hk : x.length + 720 < k) :
    (∃ m : Nat, impl_StepsTo.f k x p = some (m : Int) ∧ First x p m ∧ m ≤ 700 ∧ trackB x = true ∧ 0 ≤ p ∧ p ≤ trackLen x) ∨ (impl_StepsTo.f k x p = some (-1) ∧ ¬ (trackB x = true ∧ 0 ≤ p ∧ p ≤ trackLen x)) := by
  obtain ⟨k, rfl⟩ : ∃ m, k = m + 1 := ⟨k - 1, by omega⟩
  unfold impl_StepsTo.f
  rw [implTrackOk_eq x hx _ (by omega), implLen_eq x hx _ (by omega)]
  simp only [Option.bind_some, impl_StepsTo.j0, within_eq]
  cases hb : trackB x with
  | false => right; simp
  | true =>
    cases ha : inB p 0 (trackLen x) with
    | false => right; rw [← Bool.not_eq_true, inB_iff] at ha; simp; omega
    | true =>
      left
      rw [inB_iff] at ha
      have := trackLen_range x
      obtain ⟨m, e, hm, hm'⟩ := implSteps_l0 x hx hb p ha.2 600 k 0 (by simp [iterS]; omega) (by omega) (by omega) (fun j hj => by omega)
      exact ⟨m, by simpa [iterS] using e, hm, hm', rfl, ha.1, ha.2⟩
theorem track_l0 (s : List Int) (hs : s.length ≤ 1048576) (n : Nat) (hn : n ≤ 4) (d : Nat) : ∀ (k : Nat) (t : List S115) (i : Nat) (c h : Int), i + d = n → d < k → 0 ≤ c → t.length = i → t.all segB = true →
    ∃ t' c' h', spec_l31Track.l0 k t n i s c h = some (t', c', h') ∧ t'.length = n ∧ t'.all segB = true ∧ 0 ≤ c' := by
  induction d with
  | zero =>
    intro k t i c h hi hk hc hl ht
    obtain ⟨k, rfl⟩ : ∃ m, k = m + 1 := ⟨k - 1, by omega⟩
    rw [spec_l31Track.l0, if_neg (by omega)]
    exact ⟨t, c, h, rfl, by omega, ht, hc⟩
  | succ d ih =>
    intro k t i c h hi hk hc hl ht
    obtain ⟨k, rfl⟩ : ∃ m, k = m + 1 := ⟨k - 1, by omega⟩
    obtain ⟨v, c1, h1, e1, a1, b1, hc1⟩ := below_some s hs c h 30 hc (by omega)
    obtain ⟨v2, c2, h2, e2, a2, b2, hc2⟩ := below_some s hs c1 h1 8 hc1 (by omega)
    rw [spec_l31Track.l0, if_pos (by omega), e1]
    simp only [Option.bind_some]
    rw [e2]
    simp only [Option.bind_some]
    rw [if_pos (by omega), wrap_cast i (by omega)]
    refine ih k _ (i + 1) c2 h2 (by omega) (by omega) hc2 (by simp; omega) ?_
    rw [List.all_append, ht]
    simp only [List.all_cons, List.all_nil, Bool.and_true, Bool.true_and, segB_iff]
    rw [wrap_id (by omega) (by omega), wrap_id (by omega) (by omega)]
    omega
theorem arr_l0 (s : List Int) (hs : s.length ≤ 1048576) (t : List S115) (ht : t.length ≤ 6) (d : Nat) : ∀ (k : Nat) (q : List Int) (a : Int) (i : Nat) (c h : Int), i + d = 4 → d + 40 < k → 0 ≤ c → q.length = i → q.Pairwise (· ≤ ·) → (∀ y ∈ q, 0 ≤ y ∧ y ≤ a) → 0 ≤ a → a ≤ trackLen t →
    ∃ q' v, spec_DrawArrivals.l0 k t q a i s c h = some (t, q', v) ∧ q'.length ≤ 4 ∧ q'.Pairwise (· ≤ ·) ∧ (∀ y ∈ q', 0 ≤ y ∧ y ≤ trackLen t) ∧ 0 ≤ v ∧ v < 50 := by
  have htl := trackLen_range t
  induction d with
  | zero =>
    intro k q a i c h hi hk hc hl hp hq ha hT
    obtain ⟨k, rfl⟩ : ∃ m, k = m + 1 := ⟨k - 1, by omega⟩
    obtain ⟨v, c1, h1, e1, a1, b1, hc1⟩ := below_some s hs c h 5 hc (by omega)
    obtain ⟨w, c2, h2, e2, a2, b2, hc2⟩ := below_some s hs c1 h1 50 hc1 (by omega)
    rw [spec_DrawArrivals.l0, e1]
    simp only [Option.bind_some]
    rw [if_neg (by omega), e2]
    exact ⟨q, w, rfl, by omega, hp, fun y hy => by have := hq y hy; omega, a2, b2⟩
  | succ d ih =>
    intro k q a i c h hi hk hc hl hp hq ha hT
    obtain ⟨k, rfl⟩ : ∃ m, k = m + 1 := ⟨k - 1, by omega⟩
    obtain ⟨v, c1, h1, e1, a1, b1, hc1⟩ := below_some s hs c h 5 hc (by omega)
    rw [spec_DrawArrivals.l0, e1]
    simp only [Option.bind_some]
    by_cases hv : (i : Int) < v
    · obtain ⟨w, c2, h2, e2, a2, b2, hc2⟩ := below_some s hs c1 h1 12 hc1 (by omega)
      rw [if_pos hv, specLen_eq t (by omega) k (by omega)]
      simp only [Option.bind_some]
      rw [e2]
      simp only [Option.bind_some]
      have em : mn (trackLen t) (wrap64 (a + w)) = min (trackLen t) (a + w) := by rw [wrap_id (by omega) (by omega)]; unfold mn; split <;> omega
      rw [if_pos (by omega), em, wrap_cast i (by omega)]
      refine ih k _ _ (i + 1) c2 h2 (by omega) (by omega) hc2 (by simp; omega) ?_ ?_ (by omega) (by omega)
      · rw [List.pairwise_append]
        refine ⟨hp, List.pairwise_singleton _ _, fun x hx y hy => ?_⟩
        rw [List.mem_singleton.1 hy]
        have := hq x hx; omega
      · intro y hy
        rcases List.mem_append.1 hy with hy | hy
        · have := hq y hy; omega
        · rw [List.mem_singleton.1 hy]; omega
    · obtain ⟨w, c2, h2, e2, a2, b2, hc2⟩ := below_some s hs c1 h1 50 hc1 (by omega)
      rw [if_neg hv, e2]
      exact ⟨q, w, rfl, by omega, hp, fun y hy => by have := hq y hy; omega, a2, b2⟩
theorem drawArr_some (x : List Int) (hx : x.length ≤ 1048576) (k : Nat) (hk : x.length + 60 < k) : ∃ t q v, spec_DrawArrivals.f k x = some (t, q, v) ∧ trackB t = true ∧ q.length ≤ 4 ∧ q.Pairwise (· ≤ ·) ∧ (∀ y ∈ q, 0 ≤ y ∧ y ≤ trackLen t) ∧ 0 ≤ v ∧ v < 50 := by
  obtain ⟨h, e⟩ := new_some x hx k (by omega)
  obtain ⟨v, c1, h1, e1, a1, b1, hc1⟩ := below_some x hx 0 h 4 (by omega) (by omega)
  obtain ⟨t, c2, h2, e2, hl, ht, hc2⟩ := track_l0 x hx (v + 1).toNat (by omega) (v + 1).toNat k [] 0 c1 h1 (by omega) (by omega) hc1 rfl rfl
  have hb : trackB t = true := (trackB_iff t).2 ⟨ht, by omega, by omega⟩
  have htl := trackLen_range t
  obtain ⟨q, w, e3, g1, g2, g3, g4, g5⟩ := arr_l0 x hx t (by omega) 4 k [] 0 0 c2 h2 (by omega) (by omega) hc2 rfl List.Pairwise.nil (by simp) (by omega) (by omega)
  refine ⟨t, q, w, ?_, hb, g1, g2, g3, g4, g5⟩
  have et : spec_l31Track.f k x 0 h = some (t, c2, h2) := by
    unfold spec_l31Track.f
    rw [e1]
    simp only [Option.bind_some]
    rw [wrap_id (by omega) (by omega), show (1 + v : Int) = (((v + 1).toNat : Nat) : Int) by omega]
    exact e2
  unfold spec_DrawArrivals.f
  rw [e]
  simp only [Option.bind_some]
  rw [et]
  simp only [Option.bind_some]
  exact e3
theorem aok (a c : Int) (ha : 0 ≤ a ∧ a ≤ 10000) (hc : -1 ≤ c ∧ c ≤ 20000) : impl_ArrivalOk.f a 2 c = some true := by
  unfold impl_ArrivalOk.f
  simp only [within_eq, Option.bind_some, (inB_iff _ _ _).2 ha, (inB_iff _ _ _).2 hc, (inB_iff 2 0 100).2 (by omega), if_true]
theorem judge_none (a : Int) (ha : 0 ≤ a ∧ a ≤ 10000) : impl_JudgeArrival.f a 2 (-1) = some 3 := by
  unfold impl_JudgeArrival.f
  rw [aok a (-1) ha (by omega)]; rfl
theorem judge_ok (a c : Int) (ha : 0 ≤ a ∧ a ≤ 10000) (h0 : 0 ≤ c) (h1 : a - 2 ≤ c) (h2 : c ≤ a + 2) : impl_JudgeArrival.f a 2 c = some 0 := by
  unfold impl_JudgeArrival.f
  rw [aok a c ha (by omega)]
  simp only [Option.bind_some, if_true]
  rw [if_neg (by omega), wrap_id (x := a - 2) (by omega) (by omega), if_neg (by omega), wrap_id (x := a + 2) (by omega) (by omega), if_neg (by omega)]
theorem judge_late (a c : Int) (ha : 0 ≤ a ∧ a ≤ 10000) (h0 : c = a + 3) : impl_JudgeArrival.f a 2 c = some 2 := by
  unfold impl_JudgeArrival.f
  rw [aok a c ha (by omega)]
  simp only [Option.bind_some, if_true]
  rw [if_neg (by omega), wrap_id (x := a - 2) (by omega) (by omega), if_neg (by omega), wrap_id (x := a + 2) (by omega) (by omega), if_pos (by omega)]
def J (x : List S76) (j : Nat) : Option Int := impl_JudgeArrival.f (x.getD j z76).f0 (x.getD j z76).f1 (x.getD j z76).f2
theorem jamN (x : List S76) (hx : x.length ≤ 100) (h : ∀ j, j < x.length → J x j = some 0) (d : Nat) : ∀ (k i : Nat), i + d = x.length → d < k → impl_FirstJam.l0 k x x.length i = some (-1) := by
  induction d with
  | zero =>
    intro k i hi hk
    obtain ⟨k, rfl⟩ : ∃ m, k = m + 1 := ⟨k - 1, by omega⟩
    rw [impl_FirstJam.l0, if_neg (by omega)]
  | succ d ih =>
    intro k i hi hk
    obtain ⟨k, rfl⟩ : ∃ m, k = m + 1 := ⟨k - 1, by omega⟩
    have e : rd_T76 x i = x.getD i z76 := by simp [rd_T76]
    have hj : impl_JudgeArrival.f (x.getD i z76).f0 (x.getD i z76).f1 (x.getD i z76).f2 = some 0 := h i (by omega)
    rw [impl_FirstJam.l0, if_pos (by omega), if_pos (by omega), if_pos (by omega), e, hj]
    simp only [Option.bind_some]
    rw [if_neg (by omega), wrap_cast i (by omega)]
    exact ih k (i + 1) (by omega) (by omega)
theorem jamAt (x : List S76) (hx : x.length ≤ 100) (m : Nat) (hm : m < x.length) (v : Int) (hv : 0 < v) (h : ∀ j, j < m → J x j = some 0) (hJ : J x m = some v) (d : Nat) : ∀ (k i : Nat), i + d = m → d < k → impl_FirstJam.l0 k x x.length i = some (m : Int) := by
  induction d with
  | zero =>
    intro k i hi hk
    obtain ⟨k, rfl⟩ : ∃ m, k = m + 1 := ⟨k - 1, by omega⟩
    obtain rfl : i = m := by omega
    have e : rd_T76 x i = x.getD i z76 := by simp [rd_T76]
    have hj : impl_JudgeArrival.f (x.getD i z76).f0 (x.getD i z76).f1 (x.getD i z76).f2 = some v := hJ
    rw [impl_FirstJam.l0, if_pos (by omega), if_pos (by omega), if_pos (by omega), e, hj]
    simp only [Option.bind_some]
    rw [if_pos (by omega)]
  | succ d ih =>
    intro k i hi hk
    obtain ⟨k, rfl⟩ : ∃ m, k = m + 1 := ⟨k - 1, by omega⟩
    have e : rd_T76 x i = x.getD i z76 := by simp [rd_T76]
    have hj : impl_JudgeArrival.f (x.getD i z76).f0 (x.getD i z76).f1 (x.getD i z76).f2 = some 0 := h i (by omega)
    rw [impl_FirstJam.l0, if_pos (by omega), if_pos (by omega), if_pos (by omega), e, hj]
    simp only [Option.bind_some]
    rw [if_neg (by omega), wrap_cast i (by omega)]
    exact ih k (i + 1) (by omega) (by omega)
theorem firstN (x : List S76) (hx : x.length ≤ 100) (h : ∀ j, j < x.length → J x j = some 0) (k : Nat) (hk : 200 < k) : impl_FirstJam.f k x = some (-1) := jamN x hx h x.length k 0 (by omega) (by omega)
theorem firstAt (x : List S76) (hx : x.length ≤ 100) (m : Nat) (hm : m < x.length) (v : Int) (hv : 0 < v) (h : ∀ j, j < m → J x j = some 0) (hJ : J x m = some v) (k : Nat) (hk : 200 < k) : impl_FirstJam.f k x = some (m : Int) := jamAt x hx m hm v hv h hJ m k 0 (by omega) (by omega)
theorem timeN (x : List S76) (hx : x.length ≤ 100) (h : ∀ j, j < x.length → J x j = some 0) (k : Nat) (hk : 200 < k) : impl_JamTime.f k x = some (-1) := by
  unfold impl_JamTime.f
  rw [firstN x hx h k hk]; rfl
theorem timeAt (x : List S76) (hx : x.length ≤ 100) (m : Nat) (hm : m < x.length) (v : Int) (hv : 1 < v) (h : ∀ j, j < m → J x j = some 0) (hJ : J x m = some v) (k : Nat) (hk : 200 < k) (h0 : 0 ≤ (x.getD m z76).f0 ∧ (x.getD m z76).f0 ≤ 10000) (h1 : (x.getD m z76).f1 = 2) : impl_JamTime.f k x = some ((x.getD m z76).f0 + 3) := by
  have e : rd_T76 x m = x.getD m z76 := by simp [rd_T76]
  have hj : impl_JudgeArrival.f (x.getD m z76).f0 (x.getD m z76).f1 (x.getD m z76).f2 = some v := hJ
  unfold impl_JamTime.f
  rw [firstAt x hx m hm v (by omega) h hJ k hk]
  simp only [Option.bind_some]
  rw [if_neg (by omega), if_pos (by omega), if_pos (by omega), e, hj]
  simp only [Option.bind_some]
  rw [if_neg (by omega), h1, wrap_id (x := (x.getD m z76).f0 + 2) (by omega) (by omega), wrap_id (x := (x.getD m z76).f0 + 2 + 1) (by omega) (by omega)]
  congr 1; omega
theorem plan_l0 (t : List S115) (ht : t.length ≤ 6) (s : Int) (hs : 0 ≤ s ∧ s < 50) (q : List Int) (hq : q.length ≤ 4) (hr : ∀ y ∈ q, 0 ≤ y ∧ y ≤ trackLen t) (hb : trackB t = true) (d : Nat) : ∀ (k i : Nat) (o : List S76), i + d = q.length → 2 * d + 800 < k → o.length = i →
    ∃ y, impl_PlanArrivals.l0 k t s 2 o q q.length i = some (o ++ y, true) ∧ y.length = d ∧ ∀ j, j < d → ∃ m : Nat, First t (rd q ((i + j : Nat) : Int)) m ∧ m ≤ 700 ∧ y.getD j z76 = ⟨s + m, 2, -1⟩ := by
  induction d with
  | zero =>
    intro k i o hi hk ho
    obtain ⟨k, rfl⟩ : ∃ m, k = m + 1 := ⟨k - 1, by omega⟩
    rw [impl_PlanArrivals.l0, if_neg (by omega)]
    exact ⟨[], by simp, rfl, fun j hj => by omega⟩
  | succ d ih =>
    intro k i o hi hk ho
    obtain ⟨k, rfl⟩ : ∃ m, k = m + 1 := ⟨k - 1, by omega⟩
    have hp := hr _ (rd_mem q i (by omega))
    rcases implSteps_eq t (by omega) (rd q i) k (by omega) with ⟨m, e1, hF, hm, _⟩ | ⟨_, hno⟩
    · rw [impl_PlanArrivals.l0, if_pos (by omega), if_pos (by omega), if_pos (by omega), e1]
      simp only [Option.bind_some, within_eq, (inB_iff s 0 10000).2 (by omega), if_true]
      obtain ⟨k, rfl⟩ : ∃ m, k = m + 1 := ⟨k - 1, by omega⟩
      rw [impl_PlanArrivals.j1, decide_eq_false (show ¬ (m : Int) < 0 by omega)]
      simp only [Bool.false_eq_true, if_false]
      rw [wrap_id (x := s + m) (by omega) (by omega), aok (s + m) (-1) (by omega) (by omega)]
      simp only [Option.bind_some, if_true]
      rw [if_pos (by omega), wrap_cast i (by omega)]
      obtain ⟨y, e2, hl, hy⟩ := ih k (i + 1) (o ++ [⟨s + m, 2, -1⟩]) (by omega) (by omega) (by simp; omega)
      refine ⟨⟨s + m, 2, -1⟩ :: y, by rw [e2]; simp, by simp [hl], fun j hj => ?_⟩
      cases j with
      | zero => exact ⟨m, hF, hm, rfl⟩
      | succ j =>
        obtain ⟨m', g1, g2, g3⟩ := hy j (by omega)
        rw [show i + 1 + j = i + (j + 1) by omega] at g1
        exact ⟨m', g1, g2, by simpa using g3⟩
    · exact absurd ⟨hb, hp.1, hp.2⟩ hno
theorem First.le {t : List S115} {p p' : Int} {m m' : Nat} (h : First t p m) (h' : First t p' m') (hp : p ≤ p') : m ≤ m' := by
  rcases Nat.lt_or_ge m' m with c | c
  · have h1 := h.2 m' c
    have h2 := h'.1
    omega
  · exact c
/-- The plan, of which the first i have been seen. -/
def L (n : Nat) (e s : Nat → Int) (i : Nat) : List S76 := (List.range n).map (fun j => ⟨e j, 2, if j < i then s j else -1⟩)
theorem L_length (n : Nat) (e s : Nat → Int) (i : Nat) : (L n e s i).length = n := by simp [L]
theorem L_get (n : Nat) (e s : Nat → Int) (i j : Nat) (h : j < n) : (L n e s i).getD j z76 = ⟨e j, 2, if j < i then s j else -1⟩ := by
  rw [List.getD_eq_getElem?_getD, L, List.getElem?_map, List.getElem?_range h]; rfl
theorem ext_getD {x y : List S76} (hl : x.length = y.length) (h : ∀ j, j < x.length → x.getD j z76 = y.getD j z76) : x = y := by
  apply List.ext_getElem hl
  intro j h1 h2
  have := h j h1
  rwa [List.getD_eq_getElem?_getD, List.getD_eq_getElem?_getD, List.getElem?_eq_getElem h1, List.getElem?_eq_getElem h2] at this
theorem getD_set (x : List S76) (c j : Nat) (v : S76) (hj : j < x.length) : (x.set c v).getD j z76 = if c = j then v else x.getD j z76 := by
  rw [List.getD_eq_getElem?_getD, List.getD_eq_getElem?_getD, List.getElem?_set]
  split
  · subst_vars; rw [if_pos hj]; rfl
  · rfl
theorem L_set (n : Nat) (e s : Nat → Int) (i : Nat) (h : i < n) : (L n e s i).set i ⟨e i, 2, s i⟩ = L n e s (i + 1) := by
  apply ext_getD
  · simp [L]
  · intro j hj
    have hj' : j < n := by simpa [L] using hj
    rw [getD_set _ _ _ _ (by rw [L_length]; exact hj'), L_get n e s i j hj', L_get n e s (i + 1) j hj']
    by_cases c : i = j
    · subst c; rw [if_pos rfl, if_pos (by omega)]
    · rw [if_neg c]
      by_cases c2 : j < i
      · rw [if_pos c2, if_pos (by omega)]
      · rw [if_neg c2, if_neg (by omega)]
theorem law_j2 (p : List Int) (hp : p.length = 12) (hpr : ∀ y ∈ p, 0 ≤ y ∧ y < 10000) (n : Nat) (hn : n ≤ 4) (e s : Nat → Int) (he : ∀ j, j < n → 0 ≤ e j ∧ e j ≤ 800) (hs : ∀ j, j < n → 0 ≤ s j ∧ e j - 2 ≤ s j ∧ s j ≤ e j + 2) (k : Nat) (hk : 300 < k) : laws_FnArrivals.j2 k p (L n e s n) false = some true := by
  obtain ⟨k, rfl⟩ : ∃ m, k = m + 1 := ⟨k - 1, by omega⟩
  have hL := L_length n e s n
  rw [laws_FnArrivals.j2]
  simp only [Bool.false_eq_true, if_false]
  by_cases h0 : n = 0
  · rw [if_pos (by omega)]
  · rw [if_neg (by omega), if_pos (by omega)]
    have h8 := rd_range hp hpr 8 (by omega)
    have ht := tmod_range (a := rd p ((8 : Nat) : Int)) (b := ((L n e s n).length : Int)) h8.1 (by omega)
    have e8 : ((8 : Nat) : Int) = 8 := rfl
    rw [e8] at ht
    generalize Int.tmod (rd p 8) ((L n e s n).length : Int) = c' at ht ⊢
    obtain ⟨c, rfl⟩ : ∃ c : Nat, c' = (c : Int) := ⟨c'.toNat, by omega⟩
    rw [if_pos (by omega), if_pos (by omega)]
    simp only [Option.bind_some, Int.toNat_natCast]
    have er : rd_T76 (L n e s n) c = ⟨e c, 2, s c⟩ := by
      rw [show rd_T76 (L n e s n) c = (L n e s n).getD c z76 by simp [rd_T76], L_get n e s n c (by omega), if_pos (by omega)]
    have hec := he c (by omega)
    rw [er, wrap_id (x := e c + 3) (by omega) (by omega)]
    generalize hy : (L n e s n).set c ⟨e c, 2, e c + 3⟩ = y
    have hyl : y.length = n := by rw [← hy]; simp [hL]
    have hyc : y.getD c z76 = ⟨e c, 2, e c + 3⟩ := by rw [← hy, getD_set _ _ _ _ (by omega), if_pos rfl]
    have hyj : ∀ j, j < c → J y j = some 0 := by
      intro j hj
      unfold J
      rw [← hy, getD_set _ _ _ _ (by omega), if_neg (by omega), L_get n e s n j (by omega), if_pos (by omega)]
      have h1 := he j (by omega)
      have h2 := hs j (by omega)
      show impl_JudgeArrival.f (e j) 2 (s j) = some 0
      exact judge_ok _ _ (by omega) h2.1 h2.2.1 h2.2.2
    have hyJ : J y c = some 2 := by
      unfold J; rw [hyc]; show impl_JudgeArrival.f (e c) 2 (e c + 3) = some 2; exact judge_late _ _ (by omega) rfl
    have eyc : rd_T76 y c = ⟨e c, 2, e c + 3⟩ := by rw [← hyc]; simp [rd_T76]
    rw [firstAt y (by omega) c (by omega) 2 (by omega) hyj hyJ k (by omega)]
    simp only [Option.bind_some, if_true]
    rw [eyc, judge_late (e c) (e c + 3) (by omega) rfl]
    simp only [Option.bind_some, if_true]
    rw [timeAt y (by omega) c (by omega) 2 (by omega) hyj hyJ k (by omega) (by rw [hyc]; exact ⟨hec.1, by show e c ≤ 10000; omega⟩) (by rw [hyc]), hyc]
    simp only [Option.bind_some]
    rw [wrap_id (x := e c + 3) (by omega) (by omega)]
    simp
theorem law_l0 (p : List Int) (hp : p.length = 12) (hpr : ∀ y ∈ p, 0 ≤ y ∧ y < 10000) (n : Nat) (hn : n ≤ 4) (e s : Nat → Int) (he : ∀ j, j < n → 0 ≤ e j ∧ e j ≤ 800) (hm : ∀ j, j + 1 < n → e j ≤ e (j + 1)) (hs' : ∀ j, j < n → s j = mx 0 (e j + Int.tmod (rd p j) 5 - 2)) (d : Nat) :
    ∀ (k i : Nat), i + d = n → d + 310 < k → laws_FnArrivals.l0 k p (L n e s i) i = some true := by
  have hs : ∀ j, j < n → 0 ≤ s j ∧ e j - 2 ≤ s j ∧ s j ≤ e j + 2 := by
    intro j hj
    have h1 := rd_range hp hpr j (by omega)
    have h2 := tmod_range (a := rd p j) (b := 5) h1.1 (by omega)
    have h3 := he j hj
    rw [hs' j hj]
    generalize Int.tmod (rd p j) 5 = r at h2
    unfold mx; split <;> omega
  induction d with
  | zero =>
    intro k i hi hk
    obtain ⟨k, rfl⟩ : ∃ m, k = m + 1 := ⟨k - 1, by omega⟩
    obtain rfl : i = n := by omega
    have hL := L_length i e s i
    have hJ : ∀ j, j < (L i e s i).length → J (L i e s i) j = some 0 := by
      intro j hj
      rw [hL] at hj
      unfold J
      rw [L_get i e s i j hj, if_pos hj]
      have h1 := he j hj
      have h2 := hs j hj
      show impl_JudgeArrival.f (e j) 2 (s j) = some 0
      exact judge_ok _ _ (by omega) h2.1 h2.2.1 h2.2.2
    rw [laws_FnArrivals.l0, if_neg (by omega), firstN _ (by omega) hJ k (by omega)]
    simp only [Option.bind_some, if_true]
    rw [timeN _ (by omega) hJ k (by omega)]
    exact law_j2 p hp hpr i hn e s he hs k (by omega)
  | succ d ih =>
    intro k i hi hk
    obtain ⟨k, rfl⟩ : ∃ m, k = m + 1 := ⟨k - 1, by omega⟩
    have hL := L_length n e s i
    have hei := he i (by omega)
    have er : rd_T76 (L n e s i) i = ⟨e i, 2, -1⟩ := by
      rw [show rd_T76 (L n e s i) i = (L n e s i).getD i z76 by simp [rd_T76], L_get n e s i i (by omega), if_neg (by omega)]
    have h1 := rd_range hp hpr i (by omega)
    have h2 := tmod_range (a := rd p i) (b := 5) h1.1 (by omega)
    have hset := L_set n e s i (by omega)
    have hsi := hs' i (by omega)
    have hgo : laws_FnArrivals.l0 k p (L n e s (i + 1)) ((i + 1 : Nat) : Int) = some true := ih k (i + 1) (by omega) (by omega)
    rw [laws_FnArrivals.l0, if_pos (by omega), if_pos (by omega), er, aok (e i) (-1) (by omega) (by omega)]
    simp only [Option.bind_some, if_true, Int.toNat_natCast]
    generalize Int.tmod (rd p i) 5 = r at h2 hsi
    rw [wrap_id (x := e i + r) (by omega) (by omega), wrap_id (x := e i + r - 2) (by omega) (by omega), ← hsi, hset, wrap_cast i (by omega), hgo]
    by_cases h0 : i = 0
    · rw [if_neg (by omega), if_pos (by omega)]
    · obtain ⟨i, rfl⟩ : ∃ j, i = j + 1 := ⟨i - 1, by omega⟩
      have ei : wrap64 (((i + 1 : Nat) : Int) - 1) = (i : Int) := by rw [wrap_id (by omega) (by omega)]; omega
      have er2 : rd_T76 (L n e s (i + 1)) i = ⟨e i, 2, s i⟩ := by
        rw [show rd_T76 (L n e s (i + 1)) i = (L n e s (i + 1)).getD i z76 by simp [rd_T76], L_get n e s (i + 1) i (by omega), if_pos (by omega)]
      have := hm i (by omega)
      rw [if_pos (by omega), ei, if_pos (by omega), if_pos (by omega), er2, if_neg (show ¬ e (i + 1) < e i by omega), if_pos (by omega)]
theorem pure : laws_FnArrivals.Stm := by
  intro x _ _
  refine ⟨x.length + 3000, ?_⟩
  generalize hK : x.length + 3000 = K
  unfold laws_FnArrivals.f laws_big.f
  simp only [Option.bind_some]
  by_cases h : (x.length : Int) > 1048576
  · simp [h]
  · rw [if_neg (by simpa using h)]
    obtain ⟨t, q, v, e1, hb, hql, hqp, hqr, hv0, hv1⟩ := drawArr_some x (by omega) K (by omega)
    obtain ⟨p, e2, hp, hpr⟩ := places_some x (by omega) K (by omega) (by omega)
    have htl : t.length ≤ 6 := ((trackB_iff t).1 hb).2.2
    obtain ⟨y, e3, hyl, hy⟩ := plan_l0 t htl v ⟨hv0, hv1⟩ q hql hqr hb q.length K 0 [] (by omega) (by omega) rfl
    have e3' : impl_PlanArrivals.f K t q v 2 = some (y, true) := by
      rw [impl_PlanArrivals.f]; simpa using e3
    obtain ⟨e, he⟩ : ∃ e : Nat → Int, ∀ j, e j = (y.getD j z76).f0 := ⟨fun j => (y.getD j z76).f0, fun j => rfl⟩
    obtain ⟨s, hs⟩ : ∃ s : Nat → Int, ∀ j, s j = mx 0 (e j + Int.tmod (rd p j) 5 - 2) := ⟨_, fun j => rfl⟩
    have hyj : ∀ j, j < q.length → y.getD j z76 = ⟨e j, 2, -1⟩ ∧ 0 ≤ e j ∧ e j ≤ 800 := by
      intro j hj
      obtain ⟨m, _, g2, g3⟩ := hy j hj
      have : e j = v + m := by rw [he j, g3]
      rw [g3, this]
      exact ⟨rfl, by omega, by omega⟩
    have hmono : ∀ j, j + 1 < q.length → e j ≤ e (j + 1) := by
      intro j hj
      obtain ⟨m, g1, _, g3⟩ := hy j (by omega)
      obtain ⟨m', g1', _, g3'⟩ := hy (j + 1) hj
      have a1 : e j = v + m := by rw [he j, g3]
      have a2 : e (j + 1) = v + m' := by rw [he (j + 1), g3']
      have hle : rd q ((0 + j : Nat) : Int) ≤ rd q ((0 + (j + 1) : Nat) : Int) := by
        have hpw := (List.pairwise_iff_getElem.1 hqp) j (j + 1) (by omega) hj (by omega)
        rw [rd_nat, rd_nat, List.getD_eq_getElem?_getD, List.getD_eq_getElem?_getD, Nat.zero_add, Nat.zero_add, List.getElem?_eq_getElem (by omega), List.getElem?_eq_getElem hj]
        exact hpw
      have := First.le g1 g1' hle
      omega
    have hyL : y = L q.length e s 0 := by
      apply ext_getD
      · rw [L_length, hyl]
      · intro j hj
        rw [L_get _ e s 0 j (by omega), (hyj j (by omega)).1, if_neg (by omega)]
    obtain ⟨K, rfl⟩ : ∃ m, K = m + 1 := ⟨K - 1, by omega⟩
    have efin : laws_FnArrivals.j0 (K + 1) p y false = some true := by
      rw [laws_FnArrivals.j0]
      simp only [Bool.false_eq_true, if_false]
      have := law_l0 p hp hpr q.length hql e s (fun j hj => (hyj j hj).2) hmono (fun j hj => hs j) q.length K 0 (by omega) (by omega)
      rw [← hyL] at this
      exact this
    rw [e1, Option.bind_some, e2, Option.bind_some, e3', Option.bind_some]
    simp only [if_true]
    rw [if_pos (by omega)]
    by_cases hn : (y.length : Int) > 0
    · have h0 := hyj 0 (by omega)
      have hJ : J y 0 = some 3 := by
        unfold J; rw [h0.1]; show impl_JudgeArrival.f (e 0) 2 (-1) = some 3; exact judge_none _ (by omega)
      have f1 : impl_FirstJam.f (K + 1) y = some 0 := firstAt y (by omega) 0 (by omega) 3 (by omega) (fun j hj => by omega) hJ (K + 1) (by omega)
      have f2 := timeAt y (by omega) 0 (by omega) 3 (by omega) (fun j hj => by omega) hJ (K + 1) (by omega) (by rw [h0.1]; exact ⟨h0.2.1, by show e 0 ≤ 10000; omega⟩) (by rw [h0.1])
      have er : rd_T76 y 0 = y.getD 0 z76 := by simp [rd_T76]
      rw [if_pos hn, f1, Option.bind_some, if_pos rfl, f2, Option.bind_some, if_pos (by omega), er, h0.1, wrap_id (x := e 0 + 3) (by omega) (by omega)]
      have : (e 0 + 3 != e 0 + 3) = false := by simp
      rw [this]
      exact efin
    · rw [if_neg hn]
      exact efin
end Go.Proofs.Ytifaojbmdahoiaa.PureFnArrivals
