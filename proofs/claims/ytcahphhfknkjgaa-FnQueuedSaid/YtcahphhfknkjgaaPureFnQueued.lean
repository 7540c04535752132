/- A job that is added can be cancelled again, and a held one is printed only after it is released, whatever is drawn: no condition. -/
import Derived.Test.YtcahphhfknkjgaaOpsFnQueued
import Derived.Test.YtcahphhfknkjgaaPlain
namespace Go.Proofs.Ytcahphhfknkjgaa.PureFnQueued
open Go.RowKit Go.Proofs.Ytcahphhfknkjgaa.PFnQueued Go.Proofs.Ytcahphhfknkjgaa.Opened Go.Proofs.Ytcahphhfknkjgaa.Plain Go.Proofs.YtcahphhfknkjgaaW.PrintWords Go.Proofs.YtcahphhfknkjgaaW.PrintLast Go.Proofs.YtcahphhfknkjgaaW.PrintMore
set_option linter.unusedVariables false
set_option linter.unusedSimpArgs false
theorem new_l0 (x : List Int) (hx : x.length ≤ 1048576) (d : Nat) : ∀ (k : Nat) (h : Int) (i : Nat), i + d = x.length → d < k → ∃ h', spec_l01New.l0 k x h i = some (x, 0, h') := by
  induction d with
  | zero =>
    intro k h i hi hk
    obtain ⟨k, rfl⟩ : ∃ m, k = m + 1 := ⟨k - 1, by omega⟩
    rw [spec_l01New.l0, if_neg (by omega)]
    exact ⟨_, rfl⟩
  | succ d ih =>
    intro k h i hi hk
    obtain ⟨k, rfl⟩ : ∃ m, k = m + 1 := ⟨k - 1, by omega⟩
    rw [spec_l01New.l0, if_pos (by omega)]
    by_cases h4 : (i : Int) < 4000
    · rw [if_pos h4, if_pos (by omega), wrap_cast i (by omega)]
      exact ih k _ (i + 1) (by omega) (by omega)
    · rw [if_neg h4]
      exact ⟨_, rfl⟩
theorem new_some (x : List Int) (hx : x.length ≤ 1048576) (k : Nat) (hk : x.length < k) : ∃ h, spec_l01New.f k x = some (x, 0, h) := new_l0 x hx x.length k _ 0 (by omega) hk
theorem byte_some (s : List Int) (hs : s.length ≤ 1048576) (i h : Int) (hi : 0 ≤ i) : ∃ v i' h', spec_l01Byte.f s i h = some (v, i', h') ∧ 0 ≤ v ∧ v ≤ 255 ∧ 0 ≤ i' := by
  unfold spec_l01Byte.f
  simp only [i64_and255]
  by_cases h1 : i < (s.length : Int)
  · rw [if_pos h1, if_pos hi]
    exact ⟨_, _, _, rfl, by omega, by omega, by rw [wrap_id (by omega) (by omega)]; omega⟩
  · rw [if_neg h1]
    exact ⟨_, _, _, rfl, by omega, by omega, hi⟩
theorem below_some (s : List Int) (hs : s.length ≤ 1048576) (i h n : Int) (hi : 0 ≤ i) (hn : 0 < n) : ∃ v i' h', spec_l01Below.f s i h n = some (v, i', h') ∧ 0 ≤ v ∧ v < n ∧ 0 ≤ i' := by
  unfold spec_l01Below.f
  rw [if_neg (by omega)]
  obtain ⟨v1, i1, h1, e1, a1, b1, c1⟩ := byte_some s hs i h hi
  by_cases h2 : n ≤ 256
  · rw [if_pos h2, e1]
    simp only [Option.bind_some]
    rw [if_neg (by omega)]
    have := tmod_range a1 hn
    exact ⟨_, _, _, rfl, this.1, this.2, c1⟩
  · rw [if_neg h2, e1]
    simp only [Option.bind_some]
    obtain ⟨v2, i2, h2, e2, a2, b2, c2⟩ := byte_some s hs i1 h1 c1
    rw [e2]
    simp only [Option.bind_some]
    obtain ⟨v3, i3, h3, e3, a3, b3, c3⟩ := byte_some s hs i2 h2 c2
    rw [e3]
    simp only [Option.bind_some]
    obtain ⟨v4, i4, h4, e4, a4, b4, c4⟩ := byte_some s hs i3 h3 c3
    rw [e4]
    simp only [Option.bind_some]
    rw [if_neg (by omega)]
    have w1 : wrap64 (v1 * 16777216) = v1 * 16777216 := wrap_id (by omega) (by omega)
    have w2 : wrap64 (v2 * 65536) = v2 * 65536 := wrap_id (by omega) (by omega)
    have w3 : wrap64 (v3 * 256) = v3 * 256 := wrap_id (by omega) (by omega)
    rw [w1, w2, w3, wrap_id (x := v1 * 16777216 + v2 * 65536) (by omega) (by omega), wrap_id (x := v1 * 16777216 + v2 * 65536 + v3 * 256) (by omega) (by omega), wrap_id (x := v1 * 16777216 + v2 * 65536 + v3 * 256 + v4) (by omega) (by omega)]
    have := tmod_range (a := v1 * 16777216 + v2 * 65536 + v3 * 256 + v4) (by omega) hn
    exact ⟨_, _, _, rfl, this.1, this.2, c4⟩
theorem pickInt_some (s : List Int) (hs : s.length ≤ 1048576) (i h : Int) (l : List Int) (hi : 0 ≤ i) (hl : 0 < l.length) : ∃ v i' h', spec_l01PickInt.f s i h l = some (v, i', h') ∧ v ∈ l ∧ 0 ≤ i' := by
  obtain ⟨v, i', h', e, a, b, c⟩ := below_some s hs i h (l.length : Int) hi (by omega)
  refine ⟨rd l v, i', h', ?_, ?_, c⟩
  · unfold spec_l01PickInt.f
    rw [e]
    simp only [Option.bind_some]
    rw [if_pos a, if_pos b]
  · have := rd_mem l v.toNat (by omega)
    rwa [show ((v.toNat : Nat) : Int) = v by omega] at this
theorem once_some (s : List Int) (hs : s.length ≤ 1048576) (i h n : Int) (hi : 0 ≤ i) (hn : 0 < n) : ∃ v i' h', spec_l01Once.f s i h n = some (v, i', h') ∧ 0 ≤ i' := by
  obtain ⟨v, i', h', e, a, b, c⟩ := below_some s hs i h n hi hn
  refine ⟨v == 0, i', h', ?_, c⟩
  unfold spec_l01Once.f
  rw [e]; rfl
theorem has_l0 (q : List Int) (v : Int) (hx : q.length ≤ 1048576) (d : Nat) : ∀ (k : Nat) (i : Nat), i + d = q.length → d < k → laws_has.l0 k q v i = some ((q.drop i).any (fun w => decide (w = v))) := by
  induction d with
  | zero =>
    intro k i hi hk
    obtain ⟨k, rfl⟩ : ∃ m, k = m + 1 := ⟨k - 1, by omega⟩
    rw [laws_has.l0, if_neg (by omega), List.drop_of_length_le (by omega)]; rfl
  | succ d ih =>
    intro k i hi hk
    obtain ⟨k, rfl⟩ : ∃ m, k = m + 1 := ⟨k - 1, by omega⟩
    rw [laws_has.l0, if_pos (by omega), if_pos (by omega), drop_rd q i (by omega), List.any_cons]
    by_cases h : rd q i = v
    · rw [if_pos h, decide_eq_true h, Bool.true_or]
    · rw [if_neg h, wrap_cast i (by omega), ih k (i + 1) (by omega) (by omega), decide_eq_false h, Bool.false_or]
def inL (q : List Int) (v : Int) : Bool := q.any (fun w => decide (w = v))
theorem inL_iff (q : List Int) (v : Int) : inL q v = true ↔ v ∈ q := by
  simp [inL, List.any_eq_true]
theorem has_eq (q : List Int) (v : Int) (hx : q.length ≤ 1048576) (k : Nat) (hk : q.length < k) : laws_has.f k q v = some (inL q v) := has_l0 q v hx q.length k 0 (by omega) hk
def inB (a b c : Int) : Bool := if a ≥ b then decide (a ≤ c) else false
theorem in_eq (a b c : Int) : spec_l01In.f a b c = some (inB a b c) := by unfold spec_l01In.f inB; split <;> rfl
theorem within_eq (a b c : Int) : impl_within.f a b c = some (inB a b c) := in_eq a b c
theorem inB_iff (a b c : Int) : inB a b c = true ↔ b ≤ a ∧ a ≤ c := by unfold inB; split <;> simp <;> omega
def okB (a b c e : Int) : Bool := inB a 1 9999 && (inB b 1 64 && (inB c 1 20 && inB e 0 9))
theorem ok_eq (a b c : Int) (d : Bool) (e : Int) (f : Bool) : spec_JobOk.f a b c d e f = some (okB a b c e) := by
  unfold spec_JobOk.f okB
  simp only [in_eq, Option.bind_some]
  cases inB a 1 9999 <;> cases inB b 1 64 <;> cases inB c 1 20 <;> cases inB e 0 9 <;> rfl
theorem iok_eq (a b c : Int) (d : Bool) (e : Int) (f : Bool) : impl_JobOk.f a b c d e f = some (okB a b c e) := ok_eq a b c d e f
theorem okB_iff (a b c e : Int) : okB a b c e = true ↔ (1 ≤ a ∧ a ≤ 9999) ∧ (1 ≤ b ∧ b ≤ 64) ∧ (1 ≤ c ∧ c ≤ 20) ∧ (0 ≤ e ∧ e ≤ 9) := by
  simp [okB, inB_iff]
def okJ (j : S34) : Prop := okB j.f0 j.f1 j.f2 j.f4 = true
def jobsP (x : List S34) : Prop := x.length ≤ 12 ∧ ∀ p, p < x.length → okJ (x.getD p z34) ∧ ∀ q, q < p → (x.getD q z34).f0 ≠ (x.getD p z34).f0
def jobsB (x : List S34) : Bool := decide (x.length ≤ 12) && (List.range x.length).all (fun p => okB (x.getD p z34).f0 (x.getD p z34).f1 (x.getD p z34).f2 (x.getD p z34).f4 && (List.range p).all (fun q => decide ((x.getD q z34).f0 ≠ (x.getD p z34).f0)))
theorem jobsB_iff (x : List S34) : jobsB x = true ↔ jobsP x := by
  unfold jobsB jobsP okJ
  simp only [Bool.and_eq_true, decide_eq_true_eq, List.all_eq_true, List.mem_range]
theorem specJobs_l0 (x : List S34) (hx : x.length ≤ 2097152) (d : Nat) : ∀ (k : Nat) (i : Nat), i + d = x.length → d * (x.length + 2) + x.length + 2 < k → ∃ r, spec_JobsOk.l0 k x i = some r ∧ (r = true ↔ x.length ≤ 12 ∧ ∀ p, i ≤ p → p < x.length → okJ (x.getD p z34) ∧ ∀ q, q < p → (x.getD q z34).f0 ≠ (x.getD p z34).f0) := by
  induction d with
  | zero =>
    intro k i hi hk
    obtain ⟨k, rfl⟩ : ∃ m, k = m + 1 := ⟨k - 1, by omega⟩
    rw [spec_JobsOk.l0, if_neg (by omega)]
    refine ⟨_, rfl, ⟨fun h => ⟨?_, fun p h1 h2 => by omega⟩, fun h => decide_eq_true (by omega)⟩⟩
    have := of_decide_eq_true h
    omega
  | succ d ih =>
    intro k i hi hk
    rw [Nat.succ_mul] at hk
    generalize d * (x.length + 2) = D at ih hk
    obtain ⟨k, rfl⟩ : ∃ m, k = m + 1 := ⟨k - 1, by omega⟩
    have e : rd_T34 x i = x.getD i z34 := by simp [rd_T34]
    have inner : ∀ (w k' j : Nat), j + w = i → w + (D + x.length + 2) + 1 < k' → ∃ r, spec_JobsOk.l1 k' x i j = some r ∧ (r = true ↔ x.length ≤ 12 ∧ (∀ q, j ≤ q → q < i → (x.getD q z34).f0 ≠ (x.getD i z34).f0) ∧ ∀ p, i + 1 ≤ p → p < x.length → okJ (x.getD p z34) ∧ ∀ q, q < p → (x.getD q z34).f0 ≠ (x.getD p z34).f0) := by
      intro w
      induction w with
      | zero =>
        intro k' j hj hk2
        obtain ⟨k', rfl⟩ : ∃ m, k' = m + 1 := ⟨k' - 1, by omega⟩
        rw [spec_JobsOk.l1, if_neg (by omega), wrap_cast i (by omega)]
        obtain ⟨r, e1, e2⟩ := ih k' (i + 1) (by omega) (by omega)
        refine ⟨r, e1, e2.trans ⟨fun h => ⟨h.1, fun q h1 h2 => by omega, h.2⟩, fun h => ⟨h.1, h.2.2⟩⟩⟩
      | succ w ihw =>
        intro k' j hj hk2
        obtain ⟨k', rfl⟩ : ∃ m, k' = m + 1 := ⟨k' - 1, by omega⟩
        have ej : rd_T34 x j = x.getD j z34 := by simp [rd_T34]
        rw [spec_JobsOk.l1, if_pos (by omega), if_pos (by omega), if_pos (by omega), if_pos (by omega), if_pos (by omega), e, ej]
        by_cases h : (x.getD j z34).f0 = (x.getD i z34).f0
        · rw [if_pos h]; exact ⟨false, rfl, ⟨fun h => (by cases h), fun hh => absurd h (hh.2.1 j (Nat.le_refl _) (by omega))⟩⟩
        · rw [if_neg h, wrap_cast j (by omega)]
          obtain ⟨r, e1, e2⟩ := ihw k' (j + 1) (by omega) (by omega)
          refine ⟨r, e1, e2.trans ⟨fun hr => ⟨hr.1, fun q h1 h2 => ?_, hr.2.2⟩, fun hr => ⟨hr.1, fun q h1 h2 => hr.2.1 q (by omega) h2, hr.2.2⟩⟩⟩
          by_cases hq : q = j
          · rw [hq]; exact h
          · exact hr.2.1 q (by omega) h2
    rw [spec_JobsOk.l0, if_pos (by omega), if_pos (by omega), e]
    simp only [ok_eq, Option.bind_some]
    by_cases h : okB (x.getD i z34).f0 (x.getD i z34).f1 (x.getD i z34).f2 (x.getD i z34).f4 = true
    · rw [if_pos h]
      obtain ⟨r, e1, e2⟩ := inner i k 0 (by omega) (by omega)
      refine ⟨r, e1, e2.trans ⟨fun hr => ⟨hr.1, fun p h1 h2 => ?_⟩, fun hr => ⟨hr.1, fun q _ h2 => (hr.2 i (Nat.le_refl _) (by omega)).2 q h2, fun p h1 h2 => hr.2 p (by omega) h2⟩⟩⟩
      by_cases hp : p = i
      · rw [hp]; exact ⟨h, fun q hq => hr.2.1 q (by omega) hq⟩
      · exact hr.2.2 p (by omega) h2
    · rw [if_neg h]; exact ⟨false, rfl, ⟨fun h => (by cases h), fun hh => absurd (hh.2 i (Nat.le_refl _) (by omega)).1 h⟩⟩
theorem specJobs_eq (x : List S34) (hx : x.length ≤ 2097152) (k : Nat) (hk : x.length * (x.length + 2) + x.length + 2 < k) : spec_JobsOk.f k x = some (jobsB x) := by
  obtain ⟨r, e1, e2⟩ := specJobs_l0 x hx x.length k 0 (by omega) hk
  have : r = jobsB x := by
    rw [Bool.eq_iff_iff, e2, jobsB_iff]
    exact ⟨fun h => ⟨h.1, fun p h2 => h.2 p (Nat.zero_le _) h2⟩, fun h => ⟨h.1, fun p _ h2 => h.2 p h2⟩⟩
  rw [← this]
  exact e1
theorem jobAtL_cases (id : Int) (x : List S34) : ∀ (i : Nat), (∃ p, p < x.length ∧ jobAtL id x i = ((i + p : Nat) : Int) ∧ (x.getD p z34).f0 = id ∧ ∀ q, q < p → (x.getD q z34).f0 ≠ id) ∨ (jobAtL id x i = -1 ∧ ∀ q, q < x.length → (x.getD q z34).f0 ≠ id) := by
  induction x with
  | nil => intro i; exact .inr ⟨rfl, fun q hq => by simp at hq⟩
  | cons y r ih =>
    intro i
    rw [jobAtL]
    by_cases h : y.f0 = id
    · rw [if_pos h]
      exact .inl ⟨0, by simp, by simp, by simpa using h, fun q hq => absurd hq (Nat.not_lt_zero _)⟩
    · rw [if_neg h]
      have e : ((i : Int) + 1) = ((i + 1 : Nat) : Int) := by omega
      rw [e]
      rcases ih (i + 1) with ⟨p, h1, h2, h3, h4⟩ | ⟨h1, h2⟩
      · refine .inl ⟨p + 1, by simp; omega, by rw [h2]; congr 1; omega, by simpa using h3, fun q hq => ?_⟩
        cases q with
        | zero => simpa using h
        | succ q => simpa using h4 q (by omega)
      · refine .inr ⟨h1, fun q hq => ?_⟩
        cases q with
        | zero => simpa using h
        | succ q => simpa using h2 q (by simpa using hq)
theorem jobAt_is (id : Int) (x : List S34) (p : Nat) (hp : p < x.length) : jobAtL id x 0 = (p : Int) ↔ (x.getD p z34).f0 = id ∧ ∀ q, q < p → (x.getD q z34).f0 ≠ id := by
  rcases jobAtL_cases id x 0 with ⟨p', h1, h2, h3, h4⟩ | ⟨h1, h2⟩
  · rw [show jobAtL id x 0 = _ from h2]
    constructor
    · intro h
      have : p' = p := by omega
      subst this
      exact ⟨h3, h4⟩
    · intro ⟨h5, h6⟩
      have a : ¬ p < p' := fun h => h4 p h h5
      have b : ¬ p' < p := fun h => h6 p' h h3
      omega
  · rw [show jobAtL id x 0 = _ from h1]
    constructor
    · intro h; omega
    · intro ⟨h5, _⟩; exact absurd h5 (h2 p hp)
theorem implJobs_l0 (x : List S34) (hx : x.length ≤ 12) (d : Nat) : ∀ (k : Nat) (i : Nat), i + d = x.length → d < k → ∃ r, impl_JobsOk.l0 k x x (x.length : Int) i = some r ∧ (r = true ↔ ∀ p, i ≤ p → p < x.length → okJ (x.getD p z34) ∧ ∀ q, q < p → (x.getD q z34).f0 ≠ (x.getD p z34).f0) := by
  induction d with
  | zero =>
    intro k i hi hk
    obtain ⟨k, rfl⟩ : ∃ m, k = m + 1 := ⟨k - 1, by omega⟩
    rw [impl_JobsOk.l0, if_neg (by omega)]
    exact ⟨true, rfl, ⟨fun _ p h1 h2 => by omega, fun _ => rfl⟩⟩
  | succ d ih =>
    intro k i hi hk
    obtain ⟨k, rfl⟩ : ∃ m, k = m + 1 := ⟨k - 1, by omega⟩
    have e : rd_T34 x i = x.getD i z34 := by simp [rd_T34]
    rw [impl_JobsOk.l0, if_pos (by omega), if_pos (by omega), if_pos (by omega), e]
    simp only [iok_eq, Option.bind_some, impl_jobAt.f]
    have ha := jobAt_is (x.getD i z34).f0 x i (by omega)
    by_cases h : okB (x.getD i z34).f0 (x.getD i z34).f1 (x.getD i z34).f2 (x.getD i z34).f4 = true
    · rw [if_pos h]
      by_cases h2 : jobAtL (x.getD i z34).f0 x 0 = (i : Int)
      · rw [if_pos h2, wrap_cast i (by omega)]
        obtain ⟨r, e1, e2⟩ := ih k (i + 1) (by omega) (by omega)
        have h3 := (ha.1 h2).2
        refine ⟨r, e1, e2.trans ⟨fun hr p h1 h4 => ?_, fun hr p h1 h4 => hr p (by omega) h4⟩⟩
        by_cases hp : p = i
        · rw [hp]; exact ⟨h, h3⟩
        · exact hr p (by omega) h4
      · rw [if_neg h2]
        exact ⟨false, rfl, ⟨fun h => (by cases h), fun hh => absurd (ha.2 ⟨rfl, (hh i (Nat.le_refl _) (by omega)).2⟩) h2⟩⟩
    · rw [if_neg h]; exact ⟨false, rfl, ⟨fun h => (by cases h), fun hh => absurd (hh i (Nat.le_refl _) (by omega)).1 h⟩⟩
theorem implJobs_eq (x : List S34) (k : Nat) (hk : x.length < k) : impl_JobsOk.f k x = some (jobsB x) := by
  rw [impl_JobsOk.f]
  by_cases h : x.length ≤ 12
  · rw [if_neg (by omega)]
    obtain ⟨r, e1, e2⟩ := implJobs_l0 x h x.length k 0 (by omega) hk
    have : r = jobsB x := by
      rw [Bool.eq_iff_iff, e2, jobsB_iff]
      exact ⟨fun hh => ⟨h, fun p h2 => hh p (Nat.zero_le _) h2⟩, fun hh p _ h2 => hh.2 p h2⟩
    rw [← this]
    exact e1
  · rw [if_pos (by omega)]
    have : jobsB x = false := by
      rw [← Bool.not_eq_true, jobsB_iff]
      exact fun hh => h hh.1
    rw [this]
def goodJ (x : List S34) : Prop := (∀ j ∈ x, okJ j) ∧ (x.map S34.f0).Nodup ∧ x.length ≤ 12
theorem good_iff (x : List S34) : jobsB x = true ↔ goodJ x := by
  rw [jobsB_iff]
  have gd : ∀ p (hp : p < x.length), x.getD p z34 = x[p] := fun p hp => by rw [List.getD_eq_getElem?_getD, List.getElem?_eq_getElem hp]; rfl
  constructor
  · intro ⟨h1, h2⟩
    refine ⟨fun j hj => ?_, ?_, h1⟩
    · obtain ⟨p, hp, rfl⟩ := List.getElem_of_mem hj
      have := (h2 p hp).1
      rwa [gd p hp] at this
    · rw [List.nodup_iff_pairwise_ne, List.pairwise_map, List.pairwise_iff_getElem]
      intro p q hp hq hpq
      have := (h2 q hq).2 p hpq
      rwa [gd p hp, gd q hq] at this
  · intro ⟨h1, h2, h3⟩
    rw [List.nodup_iff_pairwise_ne, List.pairwise_map, List.pairwise_iff_getElem] at h2
    refine ⟨h3, fun p hp => ⟨?_, fun q hq => ?_⟩⟩
    · rw [gd p hp]; exact h1 _ (List.getElem_mem hp)
    · rw [gd p hp, gd q (by omega)]; exact h2 q p (by omega) hp hq
theorem goodJ_sub {x y : List S34} (h : goodJ x) (hs : List.Sublist y x) : goodJ y :=
  ⟨fun j hj => h.1 j (hs.subset hj), h.2.1.sublist (hs.map _), Nat.le_trans hs.length_le h.2.2⟩
theorem copy_eq (x : List S34) (hx : x.length ≤ 2097152) : spec_l29Copy.f x = some x := by
  unfold spec_l29Copy.f
  simp only [Option.bind_some, List.nil_append, List.length_nil]
  rw [if_pos (by omega)]
theorem clone_eq (x : List S34) (hx : x.length ≤ 2097152) : impl_Job_44.f x = some x := by
  unfold impl_Job_44.f
  simp only [Option.bind_some, List.nil_append, List.length_nil]
  rw [if_pos (by omega)]
def addF (x : List S34) (j : S34) : List S34 × Bool := if jobsB x = true then (if jobsB (x ++ [j]) = true then (x ++ [j], true) else (x, false)) else (x, false)
theorem addF_len (x : List S34) (j : S34) (hx : x.length ≤ 1048576) : (addF x j).1.length ≤ 1048576 := by
  unfold addF
  split
  · split
    · rename_i h2
      have := ((jobsB_iff _).1 h2).1
      simp only at *
      omega
    · exact hx
  · exact hx
theorem sq1 (n : Nat) : (n + 1) * (n + 1 + 2) = n * (n + 2) + 2 * n + 3 := by
  simp only [Nat.add_mul, Nat.mul_add]; omega
theorem implAdd_eq (x : List S34) (hx : x.length ≤ 1048576) (j : S34) (k : Nat) (hk : x.length + 1 < k) : impl_AddJob.f k x j.f0 j.f1 j.f2 j.f3 j.f4 j.f5 = some (addF x j) := by
  have hl : (x ++ [j]).length = x.length + 1 := by simp
  unfold impl_AddJob.f addF
  rw [clone_eq x (by omega)]
  simp only [Option.bind_some, List.length_singleton]
  rw [if_pos (by omega), implJobs_eq x k (by omega)]
  simp only [Option.bind_some]
  rw [implJobs_eq (x ++ [j]) k (by omega)]
  simp only [Option.bind_some]
  split
  · split <;> rfl
  · rfl
def findF (x : List S34) (id : Int) : Int := if jobsB x = true then jobAtL id x 0 else -1
theorem jobAtL_range (id : Int) (x : List S34) : jobAtL id x 0 < x.length ∧ -1 ≤ jobAtL id x 0 := by
  rcases jobAtL_cases id x 0 with ⟨p, h1, h2, _⟩ | ⟨h1, _⟩
  · rw [show jobAtL id x 0 = _ from h2]; omega
  · rw [show jobAtL id x 0 = _ from h1]; omega
def relE (a : S34) : S34 := ⟨a.f0, a.f1, a.f2, a.f3, a.f4, false⟩
def relF (x : List S34) (id : Int) : List S34 × Bool := if findF x id < 0 then (x, false) else if (rd_T34 x (findF x id)).f5 = true then (x.set (findF x id).toNat (relE (rd_T34 x (findF x id))), true) else (x, false)
theorem relF_len (x : List S34) (id : Int) : (relF x id).1.length = x.length := by
  unfold relF
  split
  · rfl
  · split <;> simp
theorem findF_range (x : List S34) (id : Int) : findF x id < x.length := by
  have := jobAtL_range id x
  unfold findF
  split <;> omega
theorem implRel_eq (x : List S34) (hx : x.length ≤ 1048576) (id : Int) (k : Nat) (hk : x.length < k) : impl_ReleaseJob.f k x id = some (relF x id) := by
  have hr := jobAtL_range id x
  unfold impl_ReleaseJob.f relF relE findF
  rw [clone_eq x (by omega), implJobs_eq x k hk]
  simp only [Option.bind_some, impl_jobAt.f]
  by_cases j : jobsB x = true
  · simp only [if_pos j]
    by_cases c : jobAtL id x 0 < 0
    · simp only [if_pos c]
    · simp only [if_neg c, if_pos (show 0 ≤ jobAtL id x 0 by omega), if_pos hr.1]
      split <;> rfl
  · simp only [if_neg j, if_pos (show (-1 : Int) < 0 by omega)]
def canF (x : List S34) (id : Int) : List S34 × Bool := if findF x id < 0 then (x, false) else (x.eraseIdx (findF x id).toNat, true)
theorem canF_len (x : List S34) (id : Int) : (canF x id).1.length ≤ x.length := by
  unfold canF
  split
  · exact Nat.le_refl _
  · exact List.length_eraseIdx_le _ _
theorem implCan_eq (x : List S34) (hx : x.length ≤ 1048576) (id : Int) (k : Nat) (hk : x.length < k) : impl_CancelJob.f k x id = some (canF x id) := by
  have hr := jobAtL_range id x
  unfold impl_CancelJob.f canF findF
  rw [clone_eq x (by omega), implJobs_eq x k hk]
  simp only [Option.bind_some, impl_jobAt.f]
  by_cases j : jobsB x = true
  · simp only [if_pos j]
    by_cases c : jobAtL id x 0 < 0
    · simp only [if_pos c]
    · simp only [if_neg c]
      unfold impl_Job_46.f
      rw [if_pos (by omega), if_pos (by omega), if_pos rfl]
      rfl
  · simp only [if_neg j, if_pos (show (-1 : Int) < 0 by omega)]
theorem jobsOk_some (x : List S34) (hx : x.length ≤ 20) (k : Nat) (hk : 600 ≤ k) : ∃ r, spec_JobsOk.f k x = some r ∧ (r = true → goodJ x) := by
  have hq : x.length * (x.length + 2) ≤ 20 * 22 := Nat.mul_le_mul hx (by omega)
  exact ⟨jobsB x, specJobs_eq x (by omega) k (by omega), fun h => (good_iff x).1 h⟩
theorem addJob_some (x : List S34) (hx : x.length ≤ 12) (hg : goodJ x) (j : S34) (k : Nat) (hk : 600 ≤ k) : ∃ y b, spec_AddJob.f k x j.f0 j.f1 j.f2 j.f3 j.f4 j.f5 = some (y, b) ∧ goodJ y ∧ (y = x ∨ y = x ++ [j]) := by
  have ec : spec_l29Copy.f x = some x := by
    unfold spec_l29Copy.f
    simp only [Option.bind_some, List.nil_append, List.length_nil]
    rw [if_pos (by omega)]
  obtain ⟨r, e1, g1⟩ := jobsOk_some x (by omega) k hk
  obtain ⟨r2, e2, g2⟩ := jobsOk_some (x ++ [j]) (by simp; omega) k hk
  unfold spec_AddJob.f
  rw [ec]
  simp only [Option.bind_some]
  rw [if_pos (by simp; omega), e1]
  simp only [Option.bind_some]
  cases r with
  | false => exact ⟨x, false, by simp, hg, .inl rfl⟩
  | true =>
    rw [if_pos rfl, e2]
    simp only [Option.bind_some]
    cases r2 with
    | false => exact ⟨x, false, by simp, hg, .inl rfl⟩
    | true => exact ⟨x ++ [j], true, by simp, g2 rfl, .inr rfl⟩
theorem drawJob_some (s : List Int) (hs : s.length ≤ 1048576) (i h : Int) (hi : 0 ≤ i) : ∃ (j : S34) (i' h' : Int), spec_l28Job.f s i h = some (j.f0, j.f1, j.f2, j.f3, j.f4, j.f5, i', h') ∧ 0 ≤ i' ∧ j.f0 ≤ 20 := by
  obtain ⟨v1, i1, h1, e1, v10, v11, c1⟩ := below_some s hs i h 20 hi (by omega)
  obtain ⟨v2, i2, h2, e2, _, _, c2⟩ := below_some s hs i1 h1 10 c1 (by omega)
  obtain ⟨v3, i3, h3, e3, _, c3⟩ := pickInt_some s hs i2 h2 [1, 2, 3, 64, wrap64 (1 + v2)] c2 (by simp)
  obtain ⟨v4, i4, h4, e4, _, c4⟩ := pickInt_some s hs i3 h3 [1, 1, 2, 20] c3 (by simp)
  obtain ⟨v5, i5, h5, e5, c5⟩ := once_some s hs i4 h4 2 c4 (by omega)
  obtain ⟨v6, i6, h6, e6, _, _, c6⟩ := below_some s hs i5 h5 10 c5 (by omega)
  obtain ⟨v7, i7, h7, e7, c7⟩ := once_some s hs i6 h6 4 c6 (by omega)
  refine ⟨⟨wrap64 (1 + v1), v3, v4, v5, v6, v7⟩, i7, h7, ?_, c7, by show wrap64 (1 + v1) ≤ 20; rw [wrap_id (by omega) (by omega)]; omega⟩
  unfold spec_l28Job.f
  rw [e1]
  simp only [Option.bind_some]
  rw [e2]
  simp only [Option.bind_some]
  rw [e3]
  simp only [Option.bind_some]
  rw [e4]
  simp only [Option.bind_some]
  rw [e5]
  simp only [Option.bind_some]
  rw [e6]
  simp only [Option.bind_some]
  rw [e7]
  rfl
def drawnJ (x : List S34) (i : Nat) : Prop := goodJ x ∧ x.length ≤ i ∧ ∀ j ∈ x, j.f0 ≤ 20
theorem jobs_l0 (s : List Int) (hs : s.length ≤ 1048576) (n : Nat) (hn : n ≤ 8) (d : Nat) : ∀ (k : Nat) (x : List S34) (i : Nat) (c h : Int), i + d = n → d + 600 < k → 0 ≤ c → drawnJ x i → ∃ x' c' h', spec_l29Jobs.l0 k x n i s c h = some (x', c', h') ∧ drawnJ x' n ∧ 0 ≤ c' := by
  induction d with
  | zero =>
    intro k x i c h hi hk hc hg
    obtain ⟨k, rfl⟩ : ∃ m, k = m + 1 := ⟨k - 1, by omega⟩
    rw [spec_l29Jobs.l0, if_neg (by omega)]
    exact ⟨x, c, h, rfl, by rw [show n = i by omega]; exact hg, hc⟩
  | succ d ih =>
    intro k x i c h hi hk hc hg
    obtain ⟨k, rfl⟩ : ∃ m, k = m + 1 := ⟨k - 1, by omega⟩
    obtain ⟨j, c1, h1, e1, hc1, hj⟩ := drawJob_some s hs c h hc
    obtain ⟨y, b, e2, hy, hm⟩ := addJob_some x hg.1.2.2 hg.1 j k (by omega)
    rw [spec_l29Jobs.l0, if_pos (by omega), e1]
    simp only [Option.bind_some]
    rw [e2]
    simp only [Option.bind_some]
    rw [wrap_cast i (by omega)]
    refine ih k y (i + 1) c1 h1 (by omega) (by omega) hc1 ⟨hy, ?_, ?_⟩
    · rcases hm with rfl | rfl
      · have := hg.2.1; omega
      · have := hg.2.1; simp; omega
    · intro z hz
      rcases hm with rfl | rfl
      · exact hg.2.2 z hz
      · rcases List.mem_append.1 hz with hz | hz
        · exact hg.2.2 z hz
        · rw [List.mem_singleton.1 hz]; exact hj
theorem drawJobs_some (x : List Int) (hx : x.length ≤ 1048576) (k : Nat) (hk : x.length + 610 < k) : ∃ y, spec_DrawJobs.f k x = some y ∧ goodJ y ∧ y.length ≤ 7 ∧ ∀ j ∈ y, j.f0 ≤ 20 := by
  obtain ⟨h, e⟩ := new_some x hx k (by omega)
  obtain ⟨v, c1, h1, e1, a1, b1, hc1⟩ := below_some x hx 0 h 8 (by omega) (by omega)
  have g0 : drawnJ ([] : List S34) 0 := ⟨⟨by simp, by simp, by simp⟩, by simp, by simp⟩
  obtain ⟨y, c2, h2, e2, hy, _⟩ := jobs_l0 x hx v.toNat (by omega) v.toNat k [] 0 c1 h1 (by omega) (by omega) hc1 g0
  refine ⟨y, ?_, hy.1, by have := hy.2.1; omega, hy.2.2⟩
  unfold spec_DrawJobs.f spec_l29Jobs.f
  rw [e]
  simp only [Option.bind_some]
  rw [e1]
  simp only [Option.bind_some]
  rw [show ((v.toNat : Nat) : Int) = v by omega] at e2
  have e2' : spec_l29Jobs.l0 k [] v 0 x c1 h1 = some (y, c2, h2) := e2
  rw [e2']
  rfl
def better (x : List S34) (i : Nat) (b : Int) : Int := if (x.getD i z34).f5 = true then b else if b < 0 then i else if (x.getD i z34).f4 > (x.getD b.toNat z34).f4 then i else b
def nextL (x : List S34) : Nat → Nat → Int → Int
  | 0, _, b => b
  | d + 1, i, b => nextL x d (i + 1) (better x i b)
def nextF (x : List S34) : Int := if jobsB x = true then nextL x x.length 0 (-1) else -1
theorem better_range (x : List S34) (i : Nat) (b : Int) (hi : i < x.length) (hb : b < x.length) (h1 : -1 ≤ b) : better x i b < x.length ∧ -1 ≤ better x i b := by
  unfold better
  split
  · exact ⟨hb, h1⟩
  · split
    · omega
    · split <;> omega
theorem nextL_range (x : List S34) (d : Nat) : ∀ (i : Nat) (b : Int), i + d = x.length → b < x.length → -1 ≤ b → nextL x d i b < x.length ∧ -1 ≤ nextL x d i b := by
  induction d with
  | zero => intro i b _ h1 h2; exact ⟨h1, h2⟩
  | succ d ih =>
    intro i b hi h1 h2
    obtain ⟨h3, h4⟩ := better_range x i b (by omega) h1 h2
    exact ih (i + 1) _ (by omega) h3 h4
theorem nextF_range (x : List S34) : nextF x < x.length ∧ -1 ≤ nextF x := by
  unfold nextF
  split
  · exact nextL_range x x.length 0 (-1) (by omega) (by omega) (by omega)
  · omega
theorem implNext_l0 (x : List S34) (hx : x.length ≤ 1048576) (d : Nat) : ∀ (k : Nat) (i : Nat) (b : Int), i + d = x.length → d < k → b < x.length → -1 ≤ b → impl_NextJob.l0 k x b x (x.length : Int) i = some (nextL x d i b) := by
  induction d with
  | zero =>
    intro k i b hi hk h1 h2
    obtain ⟨k, rfl⟩ : ∃ m, k = m + 1 := ⟨k - 1, by omega⟩
    rw [impl_NextJob.l0, if_neg (by omega)]
    rfl
  | succ d ih =>
    intro k i b hi hk h1 h2
    obtain ⟨k, rfl⟩ : ∃ m, k = m + 1 := ⟨k - 1, by omega⟩
    have e : rd_T34 x i = x.getD i z34 := by simp [rd_T34]
    have eb : rd_T34 x b = x.getD b.toNat z34 := by simp [rd_T34]
    rw [impl_NextJob.l0, if_pos (by omega), if_pos (by omega), if_pos (by omega), e, eb, wrap_cast i (by omega), nextL]
    unfold better
    by_cases c1 : (x.getD i z34).f5 = true
    · rw [if_pos c1, if_pos c1]; exact ih k (i + 1) b (by omega) (by omega) h1 h2
    · rw [if_neg c1, if_neg c1]
      by_cases c2 : b < 0
      · rw [if_pos c2, if_pos c2]; exact ih k (i + 1) i (by omega) (by omega) (by omega) (by omega)
      · rw [if_neg c2, if_neg c2, if_pos (by omega), if_pos (by omega)]
        by_cases c3 : (x.getD i z34).f4 > (x.getD b.toNat z34).f4
        · rw [if_pos c3, if_pos c3]; exact ih k (i + 1) i (by omega) (by omega) (by omega) (by omega)
        · rw [if_neg c3, if_neg c3]; exact ih k (i + 1) b (by omega) (by omega) h1 h2
theorem implNext_eq (x : List S34) (hx : x.length ≤ 1048576) (k : Nat) (hk : x.length < k) : impl_NextJob.f k x = some (nextF x) := by
  rw [impl_NextJob.f, implJobs_eq x k hk]
  simp only [Option.bind_some]
  unfold nextF
  by_cases h : jobsB x = true
  · rw [if_pos h, if_pos h]; exact implNext_l0 x hx x.length k 0 (-1) (by omega) hk (by omega) (by omega)
  · rw [if_neg h, if_neg h]
def takeF (x : List S34) : List S34 × S34 × Bool := if nextF x < 0 then (x, ⟨0, 0, 0, false, 0, false⟩, false) else (x.eraseIdx (nextF x).toNat, rd_T34 x (nextF x), true)
theorem takeF_len (x : List S34) : (takeF x).1.length ≤ x.length := by
  unfold takeF
  split
  · exact Nat.le_refl _
  · exact List.length_eraseIdx_le _ _
theorem takeF_less (x : List S34) (h : (takeF x).2.2 = true) : (takeF x).1.length + 1 = x.length := by
  have hr := nextF_range x
  unfold takeF at h ⊢
  by_cases c : nextF x < 0
  · rw [if_pos c] at h; cases h
  · rw [if_neg c]
    simp only
    rw [List.length_eraseIdx_of_lt (by omega)]
    omega
theorem implTake_eq (x : List S34) (hx : x.length ≤ 1048576) (k : Nat) (hk : x.length < k) : impl_TakeJob.f k x = some ((takeF x).1, (takeF x).2.1.f0, (takeF x).2.1.f1, (takeF x).2.1.f2, (takeF x).2.1.f3, (takeF x).2.1.f4, (takeF x).2.1.f5, (takeF x).2.2) := by
  have hr := nextF_range x
  unfold impl_TakeJob.f takeF
  rw [implNext_eq x hx k hk, clone_eq x (by omega)]
  simp only [Option.bind_some]
  by_cases c : nextF x < 0
  · simp only [if_pos c]
  · simp only [if_neg c]
    unfold impl_Job_46.f
    rw [if_pos (by omega), if_pos (by omega), if_pos rfl]
    simp only [Option.bind_some]
    rw [if_pos (by omega), if_pos (by omega)]
def orderL : Nat → List S34 → List Int
  | 0, _ => []
  | n + 1, x => if (takeF x).2.2 = true then (takeF x).2.1.f0 :: orderL n (takeF x).1 else []
def orderF (x : List S34) : List Int := orderL (x.length + 1) x
theorem orderL_len (n : Nat) : ∀ (x : List S34), (orderL n x).length ≤ x.length := by
  induction n with
  | zero => intro x; exact Nat.zero_le _
  | succ n ih =>
    intro x
    rw [orderL]
    by_cases c : (takeF x).2.2 = true
    · rw [if_pos c]
      have h1 := takeF_less x c
      have h2 := ih (takeF x).1
      simp only [List.length_cons]
      omega
    · rw [if_neg c]; exact Nat.zero_le _
theorem orderF_len (x : List S34) : (orderF x).length ≤ x.length := orderL_len _ x
theorem implOrder_l0 (n : Nat) : ∀ (x : List S34) (k : Nat) (o : List Int), x.length < n → x.length ≤ 1048576 → o.length + x.length ≤ 1048576 → n + x.length < k → impl_PrintOrder.l0 k x o = some (o ++ orderL n x) := by
  induction n with
  | zero => intro x k o h; exact absurd h (Nat.not_lt_zero _)
  | succ n ih =>
    intro x k o hn hx ho hk
    obtain ⟨k, rfl⟩ : ∃ m, k = m + 1 := ⟨k - 1, by omega⟩
    rw [impl_PrintOrder.l0, implTake_eq x hx k (by omega), orderL]
    simp only [Option.bind_some]
    by_cases c : (takeF x).2.2 = true
    · have h1 := takeF_less x c
      rw [if_pos c, if_pos c, if_pos (by omega), ih _ k _ (by omega) (by omega) (by simp; omega) (by omega)]
      simp
    · rw [if_neg c, if_neg c]; simp
theorem implOrder_eq (x : List S34) (hx : x.length ≤ 1048576) (k : Nat) (hk : 2 * x.length + 1 < k) : impl_PrintOrder.f k x = some (orderF x) := by
  rw [impl_PrintOrder.f, implOrder_l0 (x.length + 1) x k [] (by omega) hx (by simpa using hx) (by omega)]
  rfl
/-- What stands behind i places: the best so far is the first of the highest priority among the jobs that are not held. -/
def bestI (x : List S34) (i : Nat) (b : Int) : Prop := (b = -1 ∧ ∀ q, q < i → (x.getD q z34).f5 = true) ∨ ∃ p : Nat, b = p ∧ p < i ∧ (x.getD p z34).f5 = false ∧ ∀ q, q < i → (x.getD q z34).f5 = false → (x.getD q z34).f4 ≤ (x.getD p z34).f4 ∧ (q < p → (x.getD q z34).f4 < (x.getD p z34).f4)
theorem better_best (x : List S34) (i : Nat) (b : Int) (h : bestI x i b) : bestI x (i + 1) (better x i b) := by
  unfold better
  by_cases c1 : (x.getD i z34).f5 = true
  · rw [if_pos c1]
    rcases h with ⟨h1, h2⟩ | ⟨p, h1, h2, h3, h4⟩
    · refine .inl ⟨h1, fun q hq => ?_⟩
      by_cases e : q = i
      · rw [e]; exact c1
      · exact h2 q (by omega)
    · refine .inr ⟨p, h1, by omega, h3, fun q hq hf => ?_⟩
      by_cases e : q = i
      · rw [e, c1] at hf; cases hf
      · exact h4 q (by omega) hf
  · have c1' : (x.getD i z34).f5 = false := by simpa using c1
    rw [if_neg c1]
    rcases h with ⟨h1, h2⟩ | ⟨p, h1, h2, h3, h4⟩
    · rw [if_pos (by omega)]
      refine .inr ⟨i, rfl, by omega, c1', fun q hq hf => ?_⟩
      by_cases e : q = i
      · rw [e]; exact ⟨Int.le_refl _, fun h => absurd h (Nat.lt_irrefl _)⟩
      · rw [h2 q (by omega)] at hf; cases hf
    · rw [if_neg (by omega), show b.toNat = p by omega]
      by_cases c2 : (x.getD i z34).f4 > (x.getD p z34).f4
      · rw [if_pos c2]
        refine .inr ⟨i, rfl, by omega, c1', fun q hq hf => ?_⟩
        by_cases e : q = i
        · rw [e]; exact ⟨Int.le_refl _, fun h => absurd h (Nat.lt_irrefl _)⟩
        · have := (h4 q (by omega) hf).1
          exact ⟨by omega, fun _ => by omega⟩
      · rw [if_neg c2]
        refine .inr ⟨p, h1, by omega, h3, fun q hq hf => ?_⟩
        by_cases e : q = i
        · rw [e]; exact ⟨by omega, fun h => by omega⟩
        · exact h4 q (by omega) hf
theorem nextL_best (x : List S34) (d : Nat) : ∀ (i : Nat) (b : Int), bestI x i b → bestI x (i + d) (nextL x d i b) := by
  induction d with
  | zero => intro i b h; exact h
  | succ d ih =>
    intro i b h
    rw [nextL, show i + (d + 1) = (i + 1) + d by omega]
    exact ih (i + 1) _ (better_best x i b h)
theorem nextF_best (x : List S34) (hg : goodJ x) : bestI x x.length (nextF x) := by
  have := nextL_best x x.length 0 (-1) (.inl ⟨rfl, fun q hq => absurd hq (Nat.not_lt_zero _)⟩)
  unfold nextF
  rw [if_pos ((good_iff x).2 hg)]
  simpa using this
theorem getD_eq (x : List S34) (p : Nat) (hp : p < x.length) : x.getD p z34 = x[p] := by rw [List.getD_eq_getElem?_getD, List.getElem?_eq_getElem hp]; rfl
theorem order_held (n : Nat) : ∀ (x : List S34), ∀ v ∈ orderL n x, ∃ y ∈ x, y.f0 = v ∧ y.f5 = false := by
  induction n with
  | zero => intro x v hv; simp [orderL] at hv
  | succ n ih =>
    intro x v hv
    rw [orderL] at hv
    by_cases c : (takeF x).2.2 = true
    · rw [if_pos c] at hv
      have hr := nextF_range x
      have hn : ¬ nextF x < 0 := by
        intro h; unfold takeF at c; rw [if_pos h] at c; cases c
      have hj : jobsB x = true := by
        rcases Bool.eq_false_or_eq_true (jobsB x) with h | h
        · exact h
        · exfalso; apply hn; unfold nextF; rw [h]; simp
      have hb := nextF_best x ((good_iff x).1 hj)
      have e : takeF x = (x.eraseIdx (nextF x).toNat, rd_T34 x (nextF x), true) := by unfold takeF; rw [if_neg hn]
      rw [e] at hv
      rcases List.mem_cons.1 hv with rfl | hv
      · rcases hb with ⟨h1, _⟩ | ⟨p, h1, h2, h3, _⟩
        · omega
        · refine ⟨x.getD p z34, getD_mem x z34 p h2, ?_, h3⟩
          rw [h1]; simp [rd_T34]
      · obtain ⟨y, hy, h1, h2⟩ := ih _ v hv
        exact ⟨y, (List.eraseIdx_sublist x _).subset hy, h1, h2⟩
    · rw [if_neg c] at hv; simp at hv
theorem order_all (n : Nat) : ∀ (x : List S34), x.length < n → goodJ x → ∀ y ∈ x, y.f5 = false → y.f0 ∈ orderL n x := by
  induction n with
  | zero => intro x h; exact absurd h (Nat.not_lt_zero _)
  | succ n ih =>
    intro x hn hg y hy hf
    rw [orderL]
    have hb := nextF_best x hg
    obtain ⟨q, hq, rfl⟩ := List.getElem_of_mem hy
    rcases hb with ⟨h1, h2⟩ | ⟨p, h1, h2, h3, h4⟩
    · have := h2 q hq
      rw [getD_eq x q hq, hf] at this
      cases this
    · have e : takeF x = (x.eraseIdx p, x.getD p z34, true) := by
        unfold takeF
        rw [if_neg (by omega), h1]
        simp [rd_T34]
      rw [e]
      simp only [if_true]
      have hs : List.Sublist (x.eraseIdx p) x := List.eraseIdx_sublist x p
      have hl : (x.eraseIdx p).length + 1 = x.length := by rw [List.length_eraseIdx_of_lt h2]; omega
      by_cases c : q = p
      · subst c
        rw [getD_eq x q hq]
        exact List.mem_cons_self ..
      · refine List.mem_cons_of_mem _ (ih _ (by omega) (goodJ_sub hg hs) _ ?_ hf)
        rw [List.eraseIdx_eq_take_drop_succ, List.mem_append]
        by_cases c2 : q < p
        · exact .inl (List.mem_iff_getElem?.2 ⟨q, by rw [List.getElem?_take, if_pos c2, List.getElem?_eq_getElem hq]⟩)
        · exact .inr (List.mem_iff_getElem?.2 ⟨q - (p + 1), by rw [List.getElem?_drop, show p + 1 + (q - (p + 1)) = q by omega, List.getElem?_eq_getElem hq]⟩)
theorem queue_l0 (x r : List S34) (hx : x.length ≤ 12) (hr : r.length ≤ 13) (j : S34) (h0 : 0 ≤ nextF r) (h1 : rd_T34 r (nextF r) = j) (h9 : j.f4 = 9) (d : Nat) : ∀ (k i : Nat), i + d = x.length → d + 30 < k → laws_FnQueued.l0 k x x r i j.f0 j.f1 j.f2 j.f3 j.f4 j.f5 = some true := by
  induction d with
  | zero =>
    intro k i hi hk
    obtain ⟨k, rfl⟩ : ∃ m, k = m + 1 := ⟨k - 1, by omega⟩
    have := nextF_range r
    rw [laws_FnQueued.l0, if_neg (by omega), implNext_eq r (by omega) k (by omega)]
    simp only [Option.bind_some]
    rw [if_pos (by omega), if_pos (by omega), if_pos (by omega), h1]
    simp [h9]
  | succ d ih =>
    intro k i hi hk
    obtain ⟨k, rfl⟩ : ∃ m, k = m + 1 := ⟨k - 1, by omega⟩
    rw [laws_FnQueued.l0, if_pos (by omega), if_pos (by omega), if_pos (by omega), wrap_cast i (by omega)]
    have := ih k (i + 1) (by omega) (by omega)
    simpa using this
theorem pure : laws_FnQueued.Stm := by
  intro x _ _
  refine ⟨x.length + 1100, ?_⟩
  unfold laws_FnQueued.f laws_big.f
  simp only [Option.bind_some]
  by_cases h : (x.length : Int) > 1048576
  · simp [h]
  · rw [if_neg (by simpa using h)]
    obtain ⟨l, e, hg, hl, hid⟩ := drawJobs_some x (by omega) (x.length + 1100) (by omega)
    obtain ⟨K, hK⟩ : ∃ K, K = x.length + 1099 := ⟨_, rfl⟩
    rw [show x.length + 1100 = K + 1 by omega] at e ⊢
    obtain ⟨jh, ejh⟩ : ∃ jh : S34, jh = ⟨500, 1, 1, false, 9, true⟩ := ⟨_, rfl⟩
    obtain ⟨jf, ejf⟩ : ∃ jf : S34, jf = ⟨500, 1, 1, false, 9, false⟩ := ⟨_, rfl⟩
    have good : ∀ j : S34, okJ j → j.f0 = 500 → goodJ (l ++ [j]) := by
      intro j hj h5
      refine ⟨fun y hy => ?_, ?_, by simp; omega⟩
      · rcases List.mem_append.1 hy with hy | hy
        · exact hg.1 y hy
        · rw [List.mem_singleton.1 hy]; exact hj
      · rw [List.map_append, List.nodup_append]
        refine ⟨hg.2.1, by simp, ?_⟩
        intro a ha b hb
        simp only [List.map_cons, List.map_nil, List.mem_singleton] at hb
        obtain ⟨y, hy, rfl⟩ := List.mem_map.1 ha
        have := hid y hy
        omega
    have gh := good jh (by rw [ejh]; unfold okJ; decide) (by rw [ejh])
    have gf := good jf (by rw [ejf]; unfold okJ; decide) (by rw [ejf])
    have at_ : ∀ j : S34, (l ++ [j]).getD l.length z34 = j := by intro j; simp
    have len : ∀ j : S34, (l ++ [j]).length = l.length + 1 := by intro j; simp
    have find : ∀ j : S34, j.f0 = 500 → goodJ (l ++ [j]) → findF (l ++ [j]) 500 = (l.length : Int) := by
      intro j h5 hgj
      unfold findF
      rw [if_pos ((good_iff _).2 hgj), jobAt_is 500 (l ++ [j]) l.length (by rw [len]; omega)]
      refine ⟨by rw [at_]; exact h5, fun q hq => ?_⟩
      have : (l ++ [j]).getD q z34 = l.getD q z34 := by
        rw [List.getD_eq_getElem?_getD, List.getElem?_append_left hq, ← List.getD_eq_getElem?_getD]
      rw [this]
      have := hid _ (getD_mem l z34 q hq)
      omega
    have fh := find jh (by rw [ejh]) gh
    have ff := find jf (by rw [ejf]) gf
    have rdl : ∀ j : S34, rd_T34 (l ++ [j]) (l.length : Int) = j := by intro j; simp [rd_T34]
    have a1 : addF l jh = (l ++ [jh], true) := by
      unfold addF
      rw [if_pos ((good_iff l).2 hg), if_pos ((good_iff _).2 gh)]
    have c1 : canF (l ++ [jh]) 500 = (l, true) := by
      unfold canF
      rw [fh, if_neg (by omega), Int.toNat_natCast, List.eraseIdx_append_of_length_le (Nat.le_refl _)]
      simp
    have r1 : relF (l ++ [jh]) 500 = (l ++ [jf], true) := by
      unfold relF
      rw [fh, if_neg (by omega), rdl, if_pos (by rw [ejh]), Int.toNat_natCast, List.set_append_right _ _ (Nat.le_refl _)]
      simp [relE, ejh, ejf]
    have r2 : relF (l ++ [jf]) 500 = (l ++ [jf], false) := by
      unfold relF
      rw [ff, if_neg (by omega), rdl, if_neg (by rw [ejf]; simp)]
    have hb := nextF_best (l ++ [jf]) gf
    have hn : ∃ p : Nat, nextF (l ++ [jf]) = p ∧ p < (l ++ [jf]).length ∧ ((l ++ [jf]).getD p z34).f4 = 9 := by
      rcases hb with ⟨_, h2⟩ | ⟨p, h1, h2, _, h4⟩
      · have := h2 l.length (by rw [len]; omega)
        rw [at_] at this
        rw [ejf] at this; cases this
      · have h5 := (h4 l.length (by rw [len]; omega) (by rw [at_]; rw [ejf])).1
        rw [at_] at h5
        have h9 : jf.f4 = 9 := by rw [ejf]
        have h6 := gf.1 _ (getD_mem (l ++ [jf]) z34 p h2)
        unfold okJ at h6
        rw [okB_iff] at h6
        exact ⟨p, h1, h2, by omega⟩
    obtain ⟨p, p1, p2, p3⟩ := hn
    have t1 : takeF (l ++ [jf]) = ((l ++ [jf]).eraseIdx p, (l ++ [jf]).getD p z34, true) := by
      unfold takeF
      rw [if_neg (by omega), p1]
      simp [rd_T34]
    have tl : ((l ++ [jf]).eraseIdx p).length = l.length := by rw [List.length_eraseIdx_of_lt p2, len]; omega
    have oh : inL (orderF (l ++ [jh])) 500 = false := by
      unfold inL
      rw [List.any_eq_false]
      intro v hv hv5
      obtain ⟨y, hy, h1, h2⟩ := order_held _ _ v hv
      have hv5' : v = 500 := by simpa using hv5
      rcases List.mem_append.1 hy with hy | hy
      · have := hid y hy; omega
      · rw [List.mem_singleton.1 hy, ejh] at h2; cases h2
    have of_ : inL (orderF (l ++ [jf])) 500 = true := by
      unfold inL
      rw [List.any_eq_true]
      exact ⟨500, by have := order_all ((l ++ [jf]).length + 1) (l ++ [jf]) (by omega) gf jf (by simp) (by rw [ejf]); rw [ejf] at this; rw [ejf]; exact this, by simp⟩
    have lh := orderF_len (l ++ [jh])
    have lf := orderF_len (l ++ [jf])
    have h1 := len jh
    have h2 := len jf
    rw [e]
    simp only [Option.bind_some]
    have A := implAdd_eq l (by omega) jh (K + 1) (by omega)
    rw [a1, ejh] at A
    rw [A]
    rw [← ejh]
    simp only [Option.bind_some]
    rw [implCan_eq (l ++ [jh]) (by omega) 500 (K + 1) (by omega), c1, implRel_eq (l ++ [jh]) (by omega) 500 (K + 1) (by omega), r1]
    simp only [Option.bind_some]
    rw [implRel_eq (l ++ [jf]) (by omega) 500 (K + 1) (by omega), r2, implTake_eq (l ++ [jf]) (by omega) (K + 1) (by omega), t1]
    simp only [Option.bind_some, if_true, Bool.false_eq_true, if_false]
    rw [implOrder_eq (l ++ [jh]) (by omega) (K + 1) (by omega), implOrder_eq (l ++ [jf]) (by omega) (K + 1) (by omega)]
    simp only [Option.bind_some]
    rw [has_eq _ 500 (by omega) (K + 1) (by omega), oh]
    simp only [Option.bind_some, Bool.false_eq_true, if_false]
    rw [has_eq _ 500 (by omega) (K + 1) (by omega), of_]
    simp only [Option.bind_some, if_true, tl, bne_self_eq_false]
    rw [laws_FnQueued.j0]
    simp only [Bool.false_eq_true, if_false]
    exact queue_l0 l (l ++ [jf]) (by omega) (by omega) ((l ++ [jf]).getD p z34) (by omega) (by rw [p1]; simp [rd_T34]) p3 l.length K 0 (by omega) (by omega)
end Go.Proofs.Ytcahphhfknkjgaa.PureFnQueued
