/- A sheet never goes back, and comes to every place on the path, whatever is drawn: no condition. -/
import Derived.Test.YtanllimeiofaaaaOpsFnTracks
import Derived.Test.YtanllimeiofaaaaPlain
namespace Go.Proofs.Ytanllimeiofaaaa.PureFnTracks
open Go.RowKit Go.Proofs.Ytanllimeiofaaaa.PFnTracks Go.Proofs.Ytanllimeiofaaaa.Opened Go.Proofs.Ytanllimeiofaaaa.Plain Go.Proofs.YtanllimeiofaaaaW.PrintWords Go.Proofs.YtanllimeiofaaaaW.PrintLast Go.Proofs.YtanllimeiofaaaaW.PrintMore
set_option linter.unusedVariables false
set_option linter.unusedSimpArgs false
theorem new_l0 (x : List Int) (hx : x.length ≤ 1048576) (d : Nat) : ∀ (k : Nat) (h : Int) (i : Nat), i + d = x.length → d < k → ∃ h', spec_l01New.l0 k x h i = some (x, 0, h') := by
  induction d with
  | zero =>
    intro k h i hi hk
    obtain ⟨k, rfl⟩ : ∃ m, k = m + 1 := ⟨k - 1, by omega⟩
    rw [spec_l01New.l0, if_neg (by omega)]
    exact ⟨_, rfl⟩
  | succ d ih =>
    intro k h i hi hk
    obtain ⟨k, rfl⟩ : ∃ m, k = m + 1 := ⟨k - 1, by omega⟩
    rw [spec_l01New.l0, if_pos (by omega)]
    by_cases h4 : (i : Int) < 4000
    · rw [if_pos h4, if_pos (by omega), wrap_cast i (by omega)]
      exact ih k _ (i + 1) (by omega) (by omega)
    · rw [if_neg h4]
      exact ⟨_, rfl⟩
theorem new_some (x : List Int) (hx : x.length ≤ 1048576) (k : Nat) (hk : x.length < k) : ∃ h, spec_l01New.f k x = some (x, 0, h) := new_l0 x hx x.length k _ 0 (by omega) hk
theorem byte_some (s : List Int) (hs : s.length ≤ 1048576) (i h : Int) (hi : 0 ≤ i) : ∃ v i' h', spec_l01Byte.f s i h = some (v, i', h') ∧ 0 ≤ v ∧ v ≤ 255 ∧ 0 ≤ i' := by
  unfold spec_l01Byte.f
  simp only [i64_and255]
  by_cases h1 : i < (s.length : Int)
  · rw [if_pos h1, if_pos hi]
    exact ⟨_, _, _, rfl, by omega, by omega, by rw [wrap_id (by omega) (by omega)]; omega⟩
  · rw [if_neg h1]
    exact ⟨_, _, _, rfl, by omega, by omega, hi⟩
theorem below_some (s : List Int) (hs : s.length ≤ 1048576) (i h n : Int) (hi : 0 ≤ i) (hn : 0 < n) : ∃ v i' h', spec_l01Below.f s i h n = some (v, i', h') ∧ 0 ≤ v ∧ v < n ∧ 0 ≤ i' := by
  unfold spec_l01Below.f
  rw [if_neg (by omega)]
  obtain ⟨v1, i1, h1, e1, a1, b1, c1⟩ := byte_some s hs i h hi
  by_cases h2 : n ≤ 256
  · rw [if_pos h2, e1]
    simp only [Option.bind_some]
    rw [if_neg (by omega)]
    have := tmod_range a1 hn
    exact ⟨_, _, _, rfl, this.1, this.2, c1⟩
  · rw [if_neg h2, e1]
    simp only [Option.bind_some]
    obtain ⟨v2, i2, h2, e2, a2, b2, c2⟩ := byte_some s hs i1 h1 c1
    rw [e2]
    simp only [Option.bind_some]
    obtain ⟨v3, i3, h3, e3, a3, b3, c3⟩ := byte_some s hs i2 h2 c2
    rw [e3]
    simp only [Option.bind_some]
    obtain ⟨v4, i4, h4, e4, a4, b4, c4⟩ := byte_some s hs i3 h3 c3
    rw [e4]
    simp only [Option.bind_some]
    rw [if_neg (by omega)]
    have w1 : wrap64 (v1 * 16777216) = v1 * 16777216 := wrap_id (by omega) (by omega)
    have w2 : wrap64 (v2 * 65536) = v2 * 65536 := wrap_id (by omega) (by omega)
    have w3 : wrap64 (v3 * 256) = v3 * 256 := wrap_id (by omega) (by omega)
    rw [w1, w2, w3, wrap_id (x := v1 * 16777216 + v2 * 65536) (by omega) (by omega), wrap_id (x := v1 * 16777216 + v2 * 65536 + v3 * 256) (by omega) (by omega), wrap_id (x := v1 * 16777216 + v2 * 65536 + v3 * 256 + v4) (by omega) (by omega)]
    have := tmod_range (a := v1 * 16777216 + v2 * 65536 + v3 * 256 + v4) (by omega) hn
    exact ⟨_, _, _, rfl, this.1, this.2, c4⟩
theorem places_l0 (s : List Int) (hs : s.length ≤ 1048576) (d : Nat) : ∀ (k : Nat) (r : List Int) (i : Nat) (c h : Int), i + d = 12 → d < k → 0 ≤ c → r.length = i → (∀ x ∈ r, 0 ≤ x ∧ x < 10000) →
    ∃ q, spec_DrawPlaces.l0 k r i s c h = some q ∧ q.length = 12 ∧ ∀ x ∈ q, 0 ≤ x ∧ x < 10000 := by
  induction d with
  | zero =>
    intro k r i c h hi hk hc hl hr
    obtain ⟨k, rfl⟩ : ∃ m, k = m + 1 := ⟨k - 1, by omega⟩
    rw [spec_DrawPlaces.l0, if_neg (by omega)]
    exact ⟨r, rfl, by omega, hr⟩
  | succ d ih =>
    intro k r i c h hi hk hc hl hr
    obtain ⟨k, rfl⟩ : ∃ m, k = m + 1 := ⟨k - 1, by omega⟩
    obtain ⟨v, c', h', e, a, b, hc'⟩ := below_some s hs c h 10000 hc (by omega)
    rw [spec_DrawPlaces.l0, if_pos (by omega), e]
    simp only [Option.bind_some]
    rw [if_pos (by omega), wrap_cast i (by omega)]
    refine ih k _ (i + 1) c' h' (by omega) (by omega) hc' (by simp; omega) ?_
    intro x hx
    rcases List.mem_append.1 hx with hx | hx
    · exact hr x hx
    · rw [List.mem_singleton.1 hx]; exact ⟨a, b⟩
theorem places_some (x : List Int) (hx : x.length ≤ 1048576) (k : Nat) (hk : x.length < k) (h12 : 12 < k) : ∃ q, spec_DrawPlaces.f k x = some q ∧ q.length = 12 ∧ ∀ y ∈ q, 0 ≤ y ∧ y < 10000 := by
  obtain ⟨h, e⟩ := new_some x hx k hk
  unfold spec_DrawPlaces.f
  rw [e]
  simp only [Option.bind_some]
  exact places_l0 x hx 12 k [] 0 0 h (by omega) h12 (by omega) rfl (by simp)
theorem rd_range {q : List Int} (hl : q.length = 12) (hq : ∀ y ∈ q, 0 ≤ y ∧ y < 10000) (i : Nat) (hi : i < 12) : 0 ≤ rd q (i : Int) ∧ rd q (i : Int) < 10000 := hq _ (rd_mem q i (by omega))
def inB (a b c : Int) : Bool := if a ≥ b then decide (a ≤ c) else false
theorem within_eq (a b c : Int) : impl_within.f a b c = some (inB a b c) := by unfold impl_within.f inB; split <;> rfl
theorem inB_iff (a b c : Int) : inB a b c = true ↔ b ≤ a ∧ a ≤ c := by unfold inB; split <;> simp <;> omega
def segB (x : S82) : Bool := inB x.f0 1 100 && inB x.f1 1 20
def trackB (t : List S82) : Bool := t.all segB && inB t.length 1 6
theorem implTrackOk_l0 (x : List S82) (hx : x.length ≤ 1048576) (d : Nat) : ∀ (k : Nat) (i : Nat), i + d = x.length → d < k → impl_TrackOk.l0 k x x.length i = some ((x.drop i).all segB) := by
  induction d with
  | zero =>
    intro k i hi hk
    obtain ⟨k, rfl⟩ : ∃ m, k = m + 1 := ⟨k - 1, by omega⟩
    rw [impl_TrackOk.l0, if_neg (by omega), List.drop_of_length_le (by omega)]; rfl
  | succ d ih =>
    intro k i hi hk
    obtain ⟨k, rfl⟩ : ∃ m, k = m + 1 := ⟨k - 1, by omega⟩
    have e : rd_T82 x i = x.getD i z82 := by simp [rd_T82]
    rw [impl_TrackOk.l0, if_pos (by omega), if_pos (by omega), if_pos (by omega), e, within_eq, within_eq, getD_drop x z82 i (by omega)]
    simp only [Option.bind_some, List.all_cons, segB]
    cases inB (x.getD i z82).f0 1 100 with
    | false => simp
    | true =>
      cases inB (x.getD i z82).f1 1 20 with
      | false => simp
      | true => simp only [if_true]; rw [wrap_cast i (by omega), ih k (i + 1) (by omega) (by omega)]; simp
theorem implTrackOk_eq (x : List S82) (hx : x.length ≤ 1048576) (k : Nat) (hk : x.length < k) : impl_TrackOk.f k x = some (trackB x) := by
  have h := implTrackOk_l0 x hx x.length k 0 (by omega) hk
  simp only [List.drop_zero, Int.ofNat_zero] at h
  rw [impl_TrackOk.f, within_eq]
  simp only [Option.bind_some, trackB]
  cases inB (x.length : Int) 1 6 with
  | false => simp
  | true => simp only [if_true]; first | (rw [h]; simp) | (simp at h ⊢; exact h)
def lenSum : List S82 → Int
  | [] => 0
  | s :: r => s.f0 + lenSum r
theorem segB_iff (x : S82) : segB x = true ↔ (1 ≤ x.f0 ∧ x.f0 ≤ 100) ∧ (1 ≤ x.f1 ∧ x.f1 ≤ 20) := by simp [segB, inB_iff]
theorem lenSum_range (t : List S82) (h : t.all segB = true) : (t.length : Int) ≤ lenSum t ∧ lenSum t ≤ 100 * t.length := by
  induction t with
  | nil => simp [lenSum]
  | cons s r ih =>
    simp only [List.all_cons, Bool.and_eq_true, segB_iff] at h
    have := ih h.2
    simp only [lenSum, List.length_cons]
    omega
theorem all_drop {t : List S82} (h : t.all segB = true) (i : Nat) : (t.drop i).all segB = true := by
  rw [List.all_eq_true] at h ⊢
  exact fun x hx => h x (List.mem_of_mem_drop hx)
theorem trackB_iff (t : List S82) : trackB t = true ↔ t.all segB = true ∧ 1 ≤ t.length ∧ t.length ≤ 6 := by
  simp only [trackB, Bool.and_eq_true, inB_iff]
  exact ⟨fun h => ⟨h.1, by omega, by omega⟩, fun h => ⟨h.1, by omega, by omega⟩⟩
def trackLen (t : List S82) : Int := if trackB t = true then lenSum t else 0
theorem trackLen_range (t : List S82) : 0 ≤ trackLen t ∧ trackLen t ≤ 600 := by
  unfold trackLen
  split
  · rename_i h
    rw [trackB_iff] at h
    have := lenSum_range t h.1
    omega
  · omega
theorem implLen_l0 (x : List S82) (hb : trackB x = true) (d : Nat) : ∀ (k : Nat) (i : Nat) (a : Int), i + d = x.length → d < k → 0 ≤ a → a ≤ 100 * i → impl_TrackLength.l0 k a x x.length i = some (a + lenSum (x.drop i)) := by
  have hx := (trackB_iff x).1 hb
  induction d with
  | zero =>
    intro k i a hi hk h0 h1
    obtain ⟨k, rfl⟩ : ∃ m, k = m + 1 := ⟨k - 1, by omega⟩
    rw [impl_TrackLength.l0, if_neg (by omega), List.drop_of_length_le (by omega)]; simp [lenSum]
  | succ d ih =>
    intro k i a hi hk h0 h1
    obtain ⟨k, rfl⟩ : ∃ m, k = m + 1 := ⟨k - 1, by omega⟩
    have e : rd_T82 x i = x.getD i z82 := by simp [rd_T82]
    have hs := List.all_eq_true.1 hx.1 _ (getD_mem x z82 i (by omega))
    rw [segB_iff] at hs
    rw [impl_TrackLength.l0, if_pos (by omega), if_pos (by omega), if_pos (by omega), e, wrap_id (by omega) (by omega), wrap_cast i (by omega), ih k (i + 1) _ (by omega) (by omega) (by omega) (by omega), getD_drop x z82 i (by omega)]
    simp only [lenSum]
    congr 1; omega
theorem implLen_eq (x : List S82) (hx : x.length ≤ 1048576) (k : Nat) (hk : x.length + 16 < k) : impl_TrackLength.f k x = some (trackLen x) := by
  unfold impl_TrackLength.f trackLen
  rw [implTrackOk_eq x hx k (by omega)]
  simp only [Option.bind_some]
  cases hb : trackB x with
  | true =>
    have h := (trackB_iff x).1 hb
    have := implLen_l0 x hb x.length k 0 0 (by omega) (by omega) (by omega) (by omega)
    simpa using this
  | false => simp
/-- Where a sheet at place a is one step later: b: where the first of these segments begins, n: the path's length. -/
def stepIn (n a : Int) : Int → List S82 → Int
  | _, [] => a
  | b, s :: r => if a < b + s.f0 then mn n (a + s.f1) else stepIn n a (b + s.f0) r
def stepF (t : List S82) (a : Int) : Int := if trackB t && inB a 0 (trackLen t) then stepIn (trackLen t) a 0 t else -1
theorem mn_comm (a b : Int) : mn a b = mn b a := by unfold mn; split <;> split <;> omega
theorem implStep_l0 (x : List S82) (hb : trackB x = true) (a : Int) (ha : 0 ≤ a ∧ a ≤ 600) (n : Int) (d : Nat) : ∀ (k : Nat) (i : Nat) (b : Int), i + d = x.length → d < k → 0 ≤ b → b ≤ 100 * i → impl_StepSheet.l0 k a n b x x.length i = some (stepIn n a b (x.drop i)) := by
  have hx := (trackB_iff x).1 hb
  induction d with
  | zero =>
    intro k i b hi hk h0 h1
    obtain ⟨k, rfl⟩ : ∃ m, k = m + 1 := ⟨k - 1, by omega⟩
    rw [impl_StepSheet.l0, if_neg (by omega), List.drop_of_length_le (by omega)]; rfl
  | succ d ih =>
    intro k i b hi hk h0 h1
    obtain ⟨k, rfl⟩ : ∃ m, k = m + 1 := ⟨k - 1, by omega⟩
    have e : rd_T82 x i = x.getD i z82 := by simp [rd_T82]
    have hs := List.all_eq_true.1 hx.1 _ (getD_mem x z82 i (by omega))
    rw [segB_iff] at hs
    rw [impl_StepSheet.l0, if_pos (by omega), if_pos (by omega), if_pos (by omega), e, wrap_id (x := b + (x.getD i z82).f0) (by omega) (by omega), wrap_id (x := a + (x.getD i z82).f1) (by omega) (by omega), wrap_cast i (by omega), getD_drop x z82 i (by omega), mn_comm]
    simp only [stepIn]
    by_cases hlt : a < b + (x.getD i z82).f0
    · rw [if_pos hlt, if_pos hlt]
    · rw [if_neg hlt, if_neg hlt]
      exact ih k (i + 1) _ (by omega) (by omega) (by omega) (by omega)
theorem implStep_eq (x : List S82) (hx : x.length ≤ 1048576) (a : Int) (k : Nat) (hk : x.length + 17 < k) : impl_StepSheet.f k x a = some (stepF x a) := by
  obtain ⟨k, rfl⟩ : ∃ m, k = m + 1 := ⟨k - 1, by omega⟩
  unfold impl_StepSheet.f stepF
  rw [implLen_eq x hx _ (by omega), implTrackOk_eq x hx _ (by omega)]
  simp only [Option.bind_some, impl_StepSheet.j0, within_eq]
  cases hb : trackB x with
  | false => simp
  | true =>
    cases ha : inB a 0 (trackLen x) with
    | false => simp
    | true =>
      rw [inB_iff] at ha
      have h := (trackB_iff x).1 hb
      have hr := trackLen_range x
      have := implStep_l0 x hb a (by omega) (trackLen x) x.length k 0 0 (by omega) (by omega) (by omega) (by omega)
      simpa using this
def iterS (t : List S82) : Nat → Int → Int
  | 0, a => a
  | n + 1, a => iterS t n (stepF t a)
theorem iterS_succ (t : List S82) (n : Nat) : ∀ a, iterS t (n + 1) a = stepF t (iterS t n a) := by
  induction n with
  | zero => intro a; rfl
  | succ n ih => intro a; exact ih (stepF t a)
def placeF (t : List S82) (s : Int) : Int := if trackB t && inB s 0 1000 then iterS t s.toNat 0 else -1
/-- One step on: further, and not beyond the end. -/
theorem stepIn_range (n a : Int) : ∀ (r : List S82) (b : Int), r.all segB = true → b ≤ a → a ≤ n → n = b + lenSum r → a ≤ stepIn n a b r ∧ stepIn n a b r ≤ n ∧ (a < n → a < stepIn n a b r)
  | [], b, _, h0, h1, h2 => by simp only [lenSum] at h2; simp only [stepIn]; omega
  | s :: r, b, hs, h0, h1, h2 => by
    simp only [List.all_cons, Bool.and_eq_true, segB_iff] at hs
    simp only [lenSum] at h2
    simp only [stepIn]
    by_cases h : a < b + s.f0
    · rw [if_pos h]
      have hl := lenSum_range r hs.2
      unfold mn
      split <;> omega
    · rw [if_neg h]
      exact stepIn_range n a r (b + s.f0) hs.2 (by omega) h1 (by omega)
theorem stepF_range (t : List S82) (hb : trackB t = true) (a : Int) (h0 : 0 ≤ a) (h1 : a ≤ trackLen t) : a ≤ stepF t a ∧ stepF t a ≤ trackLen t ∧ (a < trackLen t → a < stepF t a) := by
  have e : trackLen t = lenSum t := by simp [trackLen, hb]
  have ha : inB a 0 (trackLen t) = true := (inB_iff _ _ _).2 ⟨h0, h1⟩
  unfold stepF
  rw [hb, ha]
  simp only [Bool.and_self, if_true]
  exact stepIn_range (trackLen t) a t 0 ((trackB_iff t).1 hb).1 h0 h1 (by omega)
theorem iterS_range (t : List S82) (hb : trackB t = true) (n : Nat) : 0 ≤ iterS t n 0 ∧ iterS t n 0 ≤ trackLen t := by
  induction n with
  | zero => exact ⟨by simp [iterS], (trackLen_range t).1⟩
  | succ n ih =>
    rw [iterS_succ]
    have := stepF_range t hb _ ih.1 ih.2
    omega
theorem implPlace_l0 (x : List S82) (hx : x.length ≤ 1048576) (d : Nat) : ∀ (k : Nat) (a : Int), d ≤ 1000 → d + x.length + 18 < k → impl_PlaceAfter.l0 k x d a = some (iterS x d a) := by
  induction d with
  | zero =>
    intro k a hi hk
    obtain ⟨k, rfl⟩ : ∃ m, k = m + 1 := ⟨k - 1, by omega⟩
    rw [impl_PlaceAfter.l0, if_neg (by omega)]; rfl
  | succ d ih =>
    intro k a hi hk
    obtain ⟨k, rfl⟩ : ∃ m, k = m + 1 := ⟨k - 1, by omega⟩
    rw [impl_PlaceAfter.l0, if_pos (by omega), implStep_eq x hx a k (by omega)]
    simp only [Option.bind_some]
    rw [wrap_id (by omega) (by omega), show ((d + 1 : Nat) : Int) - 1 = (d : Int) by omega]
    exact ih k _ (by omega) (by omega)
theorem implPlace_eq (x : List S82) (hx : x.length ≤ 1048576) (s : Int) (k : Nat) (hk : x.length + 1020 < k) : impl_PlaceAfter.f k x s = some (placeF x s) := by
  obtain ⟨k, rfl⟩ : ∃ m, k = m + 1 := ⟨k - 1, by omega⟩
  unfold impl_PlaceAfter.f placeF
  rw [implTrackOk_eq x hx _ (by omega)]
  simp only [Option.bind_some, impl_PlaceAfter.j0, within_eq]
  cases hb : trackB x with
  | false => simp
  | true =>
    cases ha : inB s 0 1000 with
    | false => simp
    | true =>
      rw [inB_iff] at ha
      have := implPlace_l0 x hx s.toNat k 0 (by omega) (by omega)
      rw [Int.toNat_of_nonneg ha.1] at this
      simpa using this
/-- m: the first number of steps behind which place p is reached. -/
def First (t : List S82) (p : Int) (m : Nat) : Prop := p ≤ iterS t m 0 ∧ ∀ j, j < m → iterS t j 0 < p
theorem First.one {t : List S82} {p : Int} {m m' : Nat} (h : First t p m) (h' : First t p m') : m = m' := by
  rcases Nat.lt_trichotomy m m' with c | c | c
  · have := h'.2 m c; have := h.1; omega
  · exact c
  · have := h.2 m' c; have := h'.1; omega
theorem implSteps_l0 (x : List S82) (hx : x.length ≤ 1048576) (hb : trackB x = true) (p : Int) (hp : p ≤ trackLen x) (d : Nat) : ∀ (k : Nat) (n : Nat), (p - iterS x n 0).toNat ≤ d → n + d ≤ 700 → d + x.length + 18 < k → (∀ j, j < n → iterS x j 0 < p) →
    ∃ m, impl_StepsTo.l0 k x p n (iterS x n 0) = some ((m : Nat) : Int) ∧ First x p m ∧ m ≤ 700 := by
  induction d with
  | zero =>
    intro k n hi hn hk hj
    obtain ⟨k, rfl⟩ : ∃ m, k = m + 1 := ⟨k - 1, by omega⟩
    rw [impl_StepsTo.l0, if_neg (by omega)]
    exact ⟨n, rfl, ⟨by omega, hj⟩, by omega⟩
  | succ d ih =>
    intro k n hi hn hk hj
    obtain ⟨k, rfl⟩ : ∃ m, k = m + 1 := ⟨k - 1, by omega⟩
    rw [impl_StepsTo.l0]
    by_cases h : iterS x n 0 < p
    · have r := iterS_range x hb n
      have r2 := stepF_range x hb _ r.1 r.2
      rw [if_pos h, implStep_eq x hx _ k (by omega)]
      simp only [Option.bind_some]
      rw [wrap_cast n (by omega), ← iterS_succ]
      refine ih k (n + 1) (by rw [iterS_succ]; omega) (by omega) (by omega) (fun j hj' => ?_)
      rcases Nat.lt_succ_iff_lt_or_eq.1 hj' with c | rfl
      · exact hj j c
      · exact h
    · rw [if_neg h]
      exact ⟨n, rfl, ⟨by omega, hj⟩, by omega⟩
theorem implSteps_eq (x : List S82) (hx : x.length ≤ 1048576) (p : Int) (k : Nat) (hk : x.length + 720 < k) :
    (∃ m : Nat, impl_StepsTo.f k x p = some (m : Int) ∧ First x p m ∧ m ≤ 700 ∧ trackB x = true ∧ 0 ≤ p ∧ p ≤ trackLen x) ∨ (impl_StepsTo.f k x p = some (-1) ∧ ¬ (trackB x = true ∧ 0 ≤ p ∧ p ≤ trackLen x)) := by
  obtain ⟨k, rfl⟩ : ∃ m, k = m + 1 := ⟨k - 1, by omega⟩
  unfold impl_StepsTo.f
  rw [implTrackOk_eq x hx _ (by omega), implLen_eq x hx _ (by omega)]
  simp only [Option.bind_some, impl_StepsTo.j0, within_eq]
  cases hb : trackB x with
  | false => right; simp
  | true =>
    cases ha : inB p 0 (trackLen x) with
    | false => right; rw [← Bool.not_eq_true, inB_iff] at ha; simp; omega
    | true =>
      left
      rw [inB_iff] at ha
      have := trackLen_range x
      obtain ⟨m, e, hm, hm'⟩ := implSteps_l0 x hx hb p ha.2 600 k 0 (by simp [iterS]; omega) (by omega) (by omega) (fun j hj => by omega)
      exact ⟨m, by simpa [iterS] using e, hm, hm', rfl, ha.1, ha.2⟩
theorem track_l0 (s : List Int) (hs : s.length ≤ 1048576) (n : Nat) (hn : n ≤ 4) (d : Nat) : ∀ (k : Nat) (t : List S82) (i : Nat) (c h : Int), i + d = n → d < k → 0 ≤ c → t.length = i → t.all segB = true →
    ∃ t' c' h', spec_l31Track.l0 k t n i s c h = some (t', c', h') ∧ t'.length = n ∧ t'.all segB = true ∧ 0 ≤ c' := by
  induction d with
  | zero =>
    intro k t i c h hi hk hc hl ht
    obtain ⟨k, rfl⟩ : ∃ m, k = m + 1 := ⟨k - 1, by omega⟩
    rw [spec_l31Track.l0, if_neg (by omega)]
    exact ⟨t, c, h, rfl, by omega, ht, hc⟩
  | succ d ih =>
    intro k t i c h hi hk hc hl ht
    obtain ⟨k, rfl⟩ : ∃ m, k = m + 1 := ⟨k - 1, by omega⟩
    obtain ⟨v, c1, h1, e1, a1, b1, hc1⟩ := below_some s hs c h 30 hc (by omega)
    obtain ⟨v2, c2, h2, e2, a2, b2, hc2⟩ := below_some s hs c1 h1 8 hc1 (by omega)
    rw [spec_l31Track.l0, if_pos (by omega), e1]
    simp only [Option.bind_some]
    rw [e2]
    simp only [Option.bind_some]
    rw [if_pos (by omega), wrap_cast i (by omega)]
    refine ih k _ (i + 1) c2 h2 (by omega) (by omega) hc2 (by simp; omega) ?_
    rw [List.all_append, ht]
    simp only [List.all_cons, List.all_nil, Bool.and_true, Bool.true_and, segB_iff]
    rw [wrap_id (by omega) (by omega), wrap_id (by omega) (by omega)]
    omega
theorem drawTrack_some (x : List Int) (hx : x.length ≤ 1048576) (k : Nat) (hk : x.length + 5 < k) : ∃ t, spec_DrawTrack.f k x = some t ∧ trackB t = true := by
  obtain ⟨h, e⟩ := new_some x hx k (by omega)
  obtain ⟨v, c1, h1, e1, a1, b1, hc1⟩ := below_some x hx 0 h 4 (by omega) (by omega)
  obtain ⟨t, c2, h2, e2, hl, ht, _⟩ := track_l0 x hx (v + 1).toNat (by omega) (v + 1).toNat k [] 0 c1 h1 (by omega) (by omega) hc1 rfl rfl
  refine ⟨t, ?_, (trackB_iff t).2 ⟨ht, by omega, by omega⟩⟩
  unfold spec_DrawTrack.f spec_l31Track.f
  rw [e]
  simp only [Option.bind_some]
  rw [e1]
  simp only [Option.bind_some]
  rw [wrap_id (by omega) (by omega), show (1 + v : Int) = (((v + 1).toNat : Nat) : Int) by omega]
  have e2' : spec_l31Track.l0 k [] (((v + 1).toNat : Nat) : Int) 0 x c1 h1 = some (t, c2, h2) := e2
  rw [e2']
  simp only [Option.bind_some]
theorem stepF_end (t : List S82) (hb : trackB t = true) : stepF t (trackLen t) = trackLen t := by
  have := stepF_range t hb (trackLen t) (trackLen_range t).1 (Int.le_refl _)
  omega
theorem iterS_le (t : List S82) (hb : trackB t = true) (n m : Nat) : iterS t n 0 ≤ iterS t (n + m) 0 := by
  induction m with
  | zero => simp
  | succ m ih =>
    rw [← Nat.add_assoc, iterS_succ]
    have r := iterS_range t hb (n + m)
    have := stepF_range t hb _ r.1 r.2
    omega
theorem iterS_lt (t : List S82) (hb : trackB t = true) (n m : Nat) (h : iterS t n 0 < trackLen t) (hm : 0 < m) : iterS t n 0 < iterS t (n + m) 0 := by
  have h1 := iterS_le t hb (n + 1) (m - 1)
  rw [show n + 1 + (m - 1) = n + m by omega, iterS_succ] at h1
  have r := iterS_range t hb n
  have := stepF_range t hb _ r.1 r.2
  omega
theorem placeF_eq (t : List S82) (hb : trackB t = true) (s : Int) (h0 : 0 ≤ s) (h1 : s ≤ 1000) : placeF t s = iterS t s.toNat 0 := by
  have : inB s 0 1000 = true := (inB_iff _ _ _).2 ⟨h0, h1⟩
  simp [placeF, hb, this]
theorem pure : laws_FnTracks.Stm := by
  intro x _ _
  refine ⟨x.length + 1100, ?_⟩
  unfold laws_FnTracks.f laws_big.f
  simp only [Option.bind_some]
  by_cases h : (x.length : Int) > 1048576
  · simp [h]
  · rw [if_neg (by simpa using h)]
    obtain ⟨t, et, hb⟩ := drawTrack_some x (by omega) (x.length + 1100) (by omega)
    obtain ⟨q, e, hl, hq⟩ := places_some x (by omega) (x.length + 1100) (by omega) (by omega)
    have hx := ((trackB_iff t).1 hb)
    have hls := lenSum_range t hx.1
    have hle : trackLen t = lenSum t := by simp [trackLen, hb]
    rw [et]
    simp only [Option.bind_some]
    rw [e]
    simp only [Option.bind_some]
    rw [implLen_eq t (by omega) _ (by omega)]
    simp only [Option.bind_some]
    have hr := trackLen_range t
    rw [if_neg (by omega), if_pos (by omega), wrap_id (x := trackLen t + 1) (by omega) (by omega), if_neg (by omega)]
    have r0 := rd_range hl hq 0 (by omega)
    have r1 := rd_range hl hq 1 (by omega)
    simp only [Int.ofNat_zero, Int.ofNat_one] at r0 r1
    have t0 := tmod_range (a := rd q 0) (b := trackLen t + 1) r0.1 (by omega)
    have t1 := tmod_range (a := rd q 1) (b := 60) r1.1 (by omega)
    generalize Int.tmod (rd q 0) (trackLen t + 1) = p at *
    generalize Int.tmod (rd q 1) 60 = s at *
    rcases implSteps_eq t (by omega) p (x.length + 1100) (by omega) with ⟨m, em, hf, hm, _⟩ | ⟨_, c⟩
    · rw [em]
      simp only [Option.bind_some]
      rw [if_pos (by omega), implTrackOk_eq t (by omega) _ (by omega), hb]
      simp only [Option.bind_some, if_true]
      rw [if_pos (by omega)]
      have P : ∀ s, impl_PlaceAfter.f (x.length + 1100) t s = some (placeF t s) := fun s => implPlace_eq t (by omega) s _ (by omega)
      have S : ∀ a, impl_StepSheet.f (x.length + 1100) t a = some (stepF t a) := fun a => implStep_eq t (by omega) a _ (by omega)
      simp only [P, S, Option.bind_some]
      have pm := placeF_eq t hb m (by omega) (by omega)
      rw [Int.toNat_natCast] at pm
      have p1 := placeF_eq t hb s (by omega) (by omega)
      have p2 := placeF_eq t hb (s + 1) (by omega) (by omega)
      rw [show (s + 1).toNat = s.toNat + 1 by omega, iterS_succ] at p2
      have sr := stepF_range t hb p (by omega) (by omega)
      have hfin : ((p == trackLen t) == (stepF t p == p)) = true := by
        by_cases c : p = trackLen t
        · have e1 : (p == trackLen t) = true := by simp [c]
          have e2 : (stepF t p == p) = true := by simp; omega
          rw [e1, e2]; rfl
        · have e1 : (p == trackLen t) = false := by simp [c]
          have e2 : (stepF t p == p) = false := by simp; omega
          rw [e1, e2]; rfl
      have g1 : placeF t m ≥ p := by rw [pm]; exact hf.1
      have g2 : placeF t (wrap64 (s + 1)) = stepF t (placeF t s) := by rw [wrap_id (x := s + 1) (by omega) (by omega), p2, p1]
      have g3 : stepF t p ≥ p := sr.1
      rw [if_pos g1]
      by_cases c : (m : Int) = 0
      · rw [if_pos c, if_pos g2, if_pos g3, if_pos sr.2.1, hfin]
      · have g5 : placeF t (wrap64 ((m : Int) - 1)) < p := by
          rw [wrap_id (by omega) (by omega), placeF_eq t hb _ (by omega) (by omega)]
          exact hf.2 _ (by omega)
        rw [if_neg c, if_pos g5, if_pos g2, if_pos g3, if_pos sr.2.1, hfin]
    · exact absurd ⟨hb, t0.1, by omega⟩ c
end Go.Proofs.Ytanllimeiofaaaa.PureFnTracks
