/- Jobs are taken by priority, and those of equal priority in their order, whatever is drawn: no condition. -/
import Derived.Test.YtcahphhfknkjgaaOpsFnSpools
import Derived.Test.YtcahphhfknkjgaaPlain
namespace Go.Proofs.Ytcahphhfknkjgaa.PureFnSpools
open Go.RowKit Go.Proofs.Ytcahphhfknkjgaa.PFnSpools Go.Proofs.Ytcahphhfknkjgaa.Opened Go.Proofs.Ytcahphhfknkjgaa.Plain Go.Proofs.YtcahphhfknkjgaaW.PrintWords Go.Proofs.YtcahphhfknkjgaaW.PrintLast Go.Proofs.YtcahphhfknkjgaaW.PrintMore
set_option linter.unusedVariables false
set_option linter.unusedSimpArgs false
theorem new_l0 (x : List Int) (hx : x.length ≤ 1048576) (d : Nat) : ∀ (k : Nat) (h : Int) (i : Nat), i + d = x.length → d < k → ∃ h', spec_l01New.l0 k x h i = some (x, 0, h') := by
  induction d with
  | zero =>
    intro k h i hi hk
    obtain ⟨k, rfl⟩ : ∃ m, k = m + 1 := ⟨k - 1, by omega⟩
    rw [spec_l01New.l0, if_neg (by omega)]
    exact ⟨_, rfl⟩
  | succ d ih =>
    intro k h i hi hk
    obtain ⟨k, rfl⟩ : ∃ m, k = m + 1 := ⟨k - 1, by omega⟩
    rw [spec_l01New.l0, if_pos (by omega)]
    by_cases h4 : (i : Int) < 4000
    · rw [if_pos h4, if_pos (by omega), wrap_cast i (by omega)]
      exact ih k _ (i + 1) (by omega) (by omega)
    · rw [if_neg h4]
      exact ⟨_, rfl⟩
theorem new_some (x : List Int) (hx : x.length ≤ 1048576) (k : Nat) (hk : x.length < k) : ∃ h, spec_l01New.f k x = some (x, 0, h) := new_l0 x hx x.length k _ 0 (by omega) hk
theorem byte_some (s : List Int) (hs : s.length ≤ 1048576) (i h : Int) (hi : 0 ≤ i) : ∃ v i' h', spec_l01Byte.f s i h = some (v, i', h') ∧ 0 ≤ v ∧ v ≤ 255 ∧ 0 ≤ i' := by
  unfold spec_l01Byte.f
  simp only [i64_and255]
  by_cases h1 : i < (s.length : Int)
  · rw [if_pos h1, if_pos hi]
    exact ⟨_, _, _, rfl, by omega, by omega, by rw [wrap_id (by omega) (by omega)]; omega⟩
  · rw [if_neg h1]
    exact ⟨_, _, _, rfl, by omega, by omega, hi⟩
theorem below_some (s : List Int) (hs : s.length ≤ 1048576) (i h n : Int) (hi : 0 ≤ i) (hn : 0 < n) : ∃ v i' h', spec_l01Below.f s i h n = some (v, i', h') ∧ 0 ≤ v ∧ v < n ∧ 0 ≤ i' := by
  unfold spec_l01Below.f
  rw [if_neg (by omega)]
  obtain ⟨v1, i1, h1, e1, a1, b1, c1⟩ := byte_some s hs i h hi
  by_cases h2 : n ≤ 256
  · rw [if_pos h2, e1]
    simp only [Option.bind_some]
    rw [if_neg (by omega)]
    have := tmod_range a1 hn
    exact ⟨_, _, _, rfl, this.1, this.2, c1⟩
  · rw [if_neg h2, e1]
    simp only [Option.bind_some]
    obtain ⟨v2, i2, h2, e2, a2, b2, c2⟩ := byte_some s hs i1 h1 c1
    rw [e2]
    simp only [Option.bind_some]
    obtain ⟨v3, i3, h3, e3, a3, b3, c3⟩ := byte_some s hs i2 h2 c2
    rw [e3]
    simp only [Option.bind_some]
    obtain ⟨v4, i4, h4, e4, a4, b4, c4⟩ := byte_some s hs i3 h3 c3
    rw [e4]
    simp only [Option.bind_some]
    rw [if_neg (by omega)]
    have w1 : wrap64 (v1 * 16777216) = v1 * 16777216 := wrap_id (by omega) (by omega)
    have w2 : wrap64 (v2 * 65536) = v2 * 65536 := wrap_id (by omega) (by omega)
    have w3 : wrap64 (v3 * 256) = v3 * 256 := wrap_id (by omega) (by omega)
    rw [w1, w2, w3, wrap_id (x := v1 * 16777216 + v2 * 65536) (by omega) (by omega), wrap_id (x := v1 * 16777216 + v2 * 65536 + v3 * 256) (by omega) (by omega), wrap_id (x := v1 * 16777216 + v2 * 65536 + v3 * 256 + v4) (by omega) (by omega)]
    have := tmod_range (a := v1 * 16777216 + v2 * 65536 + v3 * 256 + v4) (by omega) hn
    exact ⟨_, _, _, rfl, this.1, this.2, c4⟩
theorem pickInt_some (s : List Int) (hs : s.length ≤ 1048576) (i h : Int) (l : List Int) (hi : 0 ≤ i) (hl : 0 < l.length) : ∃ v i' h', spec_l01PickInt.f s i h l = some (v, i', h') ∧ v ∈ l ∧ 0 ≤ i' := by
  obtain ⟨v, i', h', e, a, b, c⟩ := below_some s hs i h (l.length : Int) hi (by omega)
  refine ⟨rd l v, i', h', ?_, ?_, c⟩
  · unfold spec_l01PickInt.f
    rw [e]
    simp only [Option.bind_some]
    rw [if_pos a, if_pos b]
  · have := rd_mem l v.toNat (by omega)
    rwa [show ((v.toNat : Nat) : Int) = v by omega] at this
theorem once_some (s : List Int) (hs : s.length ≤ 1048576) (i h n : Int) (hi : 0 ≤ i) (hn : 0 < n) : ∃ v i' h', spec_l01Once.f s i h n = some (v, i', h') ∧ 0 ≤ i' := by
  obtain ⟨v, i', h', e, a, b, c⟩ := below_some s hs i h n hi hn
  refine ⟨v == 0, i', h', ?_, c⟩
  unfold spec_l01Once.f
  rw [e]; rfl
def inB (a b c : Int) : Bool := if a ≥ b then decide (a ≤ c) else false
theorem in_eq (a b c : Int) : spec_l01In.f a b c = some (inB a b c) := by unfold spec_l01In.f inB; split <;> rfl
theorem within_eq (a b c : Int) : impl_within.f a b c = some (inB a b c) := in_eq a b c
theorem inB_iff (a b c : Int) : inB a b c = true ↔ b ≤ a ∧ a ≤ c := by unfold inB; split <;> simp <;> omega
def okB (a b c e : Int) : Bool := inB a 1 9999 && (inB b 1 64 && (inB c 1 20 && inB e 0 9))
theorem ok_eq (a b c : Int) (d : Bool) (e : Int) (f : Bool) : spec_JobOk.f a b c d e f = some (okB a b c e) := by
  unfold spec_JobOk.f okB
  simp only [in_eq, Option.bind_some]
  cases inB a 1 9999 <;> cases inB b 1 64 <;> cases inB c 1 20 <;> cases inB e 0 9 <;> rfl
theorem iok_eq (a b c : Int) (d : Bool) (e : Int) (f : Bool) : impl_JobOk.f a b c d e f = some (okB a b c e) := ok_eq a b c d e f
theorem okB_iff (a b c e : Int) : okB a b c e = true ↔ (1 ≤ a ∧ a ≤ 9999) ∧ (1 ≤ b ∧ b ≤ 64) ∧ (1 ≤ c ∧ c ≤ 20) ∧ (0 ≤ e ∧ e ≤ 9) := by
  simp [okB, inB_iff]
def okJ (j : S34) : Prop := okB j.f0 j.f1 j.f2 j.f4 = true
def jobsP (x : List S34) : Prop := x.length ≤ 12 ∧ ∀ p, p < x.length → okJ (x.getD p z34) ∧ ∀ q, q < p → (x.getD q z34).f0 ≠ (x.getD p z34).f0
def jobsB (x : List S34) : Bool := decide (x.length ≤ 12) && (List.range x.length).all (fun p => okB (x.getD p z34).f0 (x.getD p z34).f1 (x.getD p z34).f2 (x.getD p z34).f4 && (List.range p).all (fun q => decide ((x.getD q z34).f0 ≠ (x.getD p z34).f0)))
theorem jobsB_iff (x : List S34) : jobsB x = true ↔ jobsP x := by
  unfold jobsB jobsP okJ
  simp only [Bool.and_eq_true, decide_eq_true_eq, List.all_eq_true, List.mem_range]
theorem specJobs_l0 (x : List S34) (hx : x.length ≤ 2097152) (d : Nat) : ∀ (k : Nat) (i : Nat), i + d = x.length → d * (x.length + 2) + x.length + 2 < k → ∃ r, spec_JobsOk.l0 k x i = some r ∧ (r = true ↔ x.length ≤ 12 ∧ ∀ p, i ≤ p → p < x.length → okJ (x.getD p z34) ∧ ∀ q, q < p → (x.getD q z34).f0 ≠ (x.getD p z34).f0) := by
  induction d with
  | zero =>
    intro k i hi hk
    obtain ⟨k, rfl⟩ : ∃ m, k = m + 1 := ⟨k - 1, by omega⟩
    rw [spec_JobsOk.l0, if_neg (by omega)]
    refine ⟨_, rfl, ⟨fun h => ⟨?_, fun p h1 h2 => by omega⟩, fun h => decide_eq_true (by omega)⟩⟩
    have := of_decide_eq_true h
    omega
  | succ d ih =>
    intro k i hi hk
    rw [Nat.succ_mul] at hk
    generalize d * (x.length + 2) = D at ih hk
    obtain ⟨k, rfl⟩ : ∃ m, k = m + 1 := ⟨k - 1, by omega⟩
    have e : rd_T34 x i = x.getD i z34 := by simp [rd_T34]
    have inner : ∀ (w k' j : Nat), j + w = i → w + (D + x.length + 2) + 1 < k' → ∃ r, spec_JobsOk.l1 k' x i j = some r ∧ (r = true ↔ x.length ≤ 12 ∧ (∀ q, j ≤ q → q < i → (x.getD q z34).f0 ≠ (x.getD i z34).f0) ∧ ∀ p, i + 1 ≤ p → p < x.length → okJ (x.getD p z34) ∧ ∀ q, q < p → (x.getD q z34).f0 ≠ (x.getD p z34).f0) := by
      intro w
      induction w with
      | zero =>
        intro k' j hj hk2
        obtain ⟨k', rfl⟩ : ∃ m, k' = m + 1 := ⟨k' - 1, by omega⟩
        rw [spec_JobsOk.l1, if_neg (by omega), wrap_cast i (by omega)]
        obtain ⟨r, e1, e2⟩ := ih k' (i + 1) (by omega) (by omega)
        refine ⟨r, e1, e2.trans ⟨fun h => ⟨h.1, fun q h1 h2 => by omega, h.2⟩, fun h => ⟨h.1, h.2.2⟩⟩⟩
      | succ w ihw =>
        intro k' j hj hk2
        obtain ⟨k', rfl⟩ : ∃ m, k' = m + 1 := ⟨k' - 1, by omega⟩
        have ej : rd_T34 x j = x.getD j z34 := by simp [rd_T34]
        rw [spec_JobsOk.l1, if_pos (by omega), if_pos (by omega), if_pos (by omega), if_pos (by omega), if_pos (by omega), e, ej]
        by_cases h : (x.getD j z34).f0 = (x.getD i z34).f0
        · rw [if_pos h]; exact ⟨false, rfl, ⟨fun h => (by cases h), fun hh => absurd h (hh.2.1 j (Nat.le_refl _) (by omega))⟩⟩
        · rw [if_neg h, wrap_cast j (by omega)]
          obtain ⟨r, e1, e2⟩ := ihw k' (j + 1) (by omega) (by omega)
          refine ⟨r, e1, e2.trans ⟨fun hr => ⟨hr.1, fun q h1 h2 => ?_, hr.2.2⟩, fun hr => ⟨hr.1, fun q h1 h2 => hr.2.1 q (by omega) h2, hr.2.2⟩⟩⟩
          by_cases hq : q = j
          · rw [hq]; exact h
          · exact hr.2.1 q (by omega) h2
    rw [spec_JobsOk.l0, if_pos (by omega), if_pos (by omega), e]
    simp only [ok_eq, Option.bind_some]
    by_cases h : okB (x.getD i z34).f0 (x.getD i z34).f1 (x.getD i z34).f2 (x.getD i z34).f4 = true
    · rw [if_pos h]
      obtain ⟨r, e1, e2⟩ := inner i k 0 (by omega) (by omega)
      refine ⟨r, e1, e2.trans ⟨fun hr => ⟨hr.1, fun p h1 h2 => ?_⟩, fun hr => ⟨hr.1, fun q _ h2 => (hr.2 i (Nat.le_refl _) (by omega)).2 q h2, fun p h1 h2 => hr.2 p (by omega) h2⟩⟩⟩
      by_cases hp : p = i
      · rw [hp]; exact ⟨h, fun q hq => hr.2.1 q (by omega) hq⟩
      · exact hr.2.2 p (by omega) h2
    · rw [if_neg h]; exact ⟨false, rfl, ⟨fun h => (by cases h), fun hh => absurd (hh.2 i (Nat.le_refl _) (by omega)).1 h⟩⟩
theorem specJobs_eq (x : List S34) (hx : x.length ≤ 2097152) (k : Nat) (hk : x.length * (x.length + 2) + x.length + 2 < k) : spec_JobsOk.f k x = some (jobsB x) := by
  obtain ⟨r, e1, e2⟩ := specJobs_l0 x hx x.length k 0 (by omega) hk
  have : r = jobsB x := by
    rw [Bool.eq_iff_iff, e2, jobsB_iff]
    exact ⟨fun h => ⟨h.1, fun p h2 => h.2 p (Nat.zero_le _) h2⟩, fun h => ⟨h.1, fun p _ h2 => h.2 p h2⟩⟩
  rw [← this]
  exact e1
theorem jobAtL_cases (id : Int) (x : List S34) : ∀ (i : Nat), (∃ p, p < x.length ∧ jobAtL id x i = ((i + p : Nat) : Int) ∧ (x.getD p z34).f0 = id ∧ ∀ q, q < p → (x.getD q z34).f0 ≠ id) ∨ (jobAtL id x i = -1 ∧ ∀ q, q < x.length → (x.getD q z34).f0 ≠ id) := by
  induction x with
  | nil => intro i; exact .inr ⟨rfl, fun q hq => by simp at hq⟩
  | cons y r ih =>
    intro i
    rw [jobAtL]
    by_cases h : y.f0 = id
    · rw [if_pos h]
      exact .inl ⟨0, by simp, by simp, by simpa using h, fun q hq => absurd hq (Nat.not_lt_zero _)⟩
    · rw [if_neg h]
      have e : ((i : Int) + 1) = ((i + 1 : Nat) : Int) := by omega
      rw [e]
      rcases ih (i + 1) with ⟨p, h1, h2, h3, h4⟩ | ⟨h1, h2⟩
      · refine .inl ⟨p + 1, by simp; omega, by rw [h2]; congr 1; omega, by simpa using h3, fun q hq => ?_⟩
        cases q with
        | zero => simpa using h
        | succ q => simpa using h4 q (by omega)
      · refine .inr ⟨h1, fun q hq => ?_⟩
        cases q with
        | zero => simpa using h
        | succ q => simpa using h2 q (by simpa using hq)
theorem jobAt_is (id : Int) (x : List S34) (p : Nat) (hp : p < x.length) : jobAtL id x 0 = (p : Int) ↔ (x.getD p z34).f0 = id ∧ ∀ q, q < p → (x.getD q z34).f0 ≠ id := by
  rcases jobAtL_cases id x 0 with ⟨p', h1, h2, h3, h4⟩ | ⟨h1, h2⟩
  · rw [show jobAtL id x 0 = _ from h2]
    constructor
    · intro h
      have : p' = p := by omega
      subst this
      exact ⟨h3, h4⟩
    · intro ⟨h5, h6⟩
      have a : ¬ p < p' := fun h => h4 p h h5
      have b : ¬ p' < p := fun h => h6 p' h h3
      omega
  · rw [show jobAtL id x 0 = _ from h1]
    constructor
    · intro h; omega
    · intro ⟨h5, _⟩; exact absurd h5 (h2 p hp)
theorem implJobs_l0 (x : List S34) (hx : x.length ≤ 12) (d : Nat) : ∀ (k : Nat) (i : Nat), i + d = x.length → d < k → ∃ r, impl_JobsOk.l0 k x x (x.length : Int) i = some r ∧ (r = true ↔ ∀ p, i ≤ p → p < x.length → okJ (x.getD p z34) ∧ ∀ q, q < p → (x.getD q z34).f0 ≠ (x.getD p z34).f0) := by
  induction d with
  | zero =>
    intro k i hi hk
    obtain ⟨k, rfl⟩ : ∃ m, k = m + 1 := ⟨k - 1, by omega⟩
    rw [impl_JobsOk.l0, if_neg (by omega)]
    exact ⟨true, rfl, ⟨fun _ p h1 h2 => by omega, fun _ => rfl⟩⟩
  | succ d ih =>
    intro k i hi hk
    obtain ⟨k, rfl⟩ : ∃ m, k = m + 1 := ⟨k - 1, by omega⟩
    have e : rd_T34 x i = x.getD i z34 := by simp [rd_T34]
    rw [impl_JobsOk.l0, if_pos (by omega), if_pos (by omega), if_pos (by omega), e]
    simp only [iok_eq, Option.bind_some, impl_jobAt.f]
    have ha := jobAt_is (x.getD i z34).f0 x i (by omega)
    by_cases h : okB (x.getD i z34).f0 (x.getD i z34).f1 (x.getD i z34).f2 (x.getD i z34).f4 = true
    · rw [if_pos h]
      by_cases h2 : jobAtL (x.getD i z34).f0 x 0 = (i : Int)
      · rw [if_pos h2, wrap_cast i (by omega)]
        obtain ⟨r, e1, e2⟩ := ih k (i + 1) (by omega) (by omega)
        have h3 := (ha.1 h2).2
        refine ⟨r, e1, e2.trans ⟨fun hr p h1 h4 => ?_, fun hr p h1 h4 => hr p (by omega) h4⟩⟩
        by_cases hp : p = i
        · rw [hp]; exact ⟨h, h3⟩
        · exact hr p (by omega) h4
      · rw [if_neg h2]
        exact ⟨false, rfl, ⟨fun h => (by cases h), fun hh => absurd (ha.2 ⟨rfl, (hh i (Nat.le_refl _) (by omega)).2⟩) h2⟩⟩
    · rw [if_neg h]; exact ⟨false, rfl, ⟨fun h => (by cases h), fun hh => absurd (hh i (Nat.le_refl _) (by omega)).1 h⟩⟩
theorem implJobs_eq (x : List S34) (k : Nat) (hk : x.length < k) : impl_JobsOk.f k x = some (jobsB x) := by
  rw [impl_JobsOk.f]
  by_cases h : x.length ≤ 12
  · rw [if_neg (by omega)]
    obtain ⟨r, e1, e2⟩ := implJobs_l0 x h x.length k 0 (by omega) hk
    have : r = jobsB x := by
      rw [Bool.eq_iff_iff, e2, jobsB_iff]
      exact ⟨fun hh => ⟨h, fun p h2 => hh p (Nat.zero_le _) h2⟩, fun hh p _ h2 => hh.2 p h2⟩
    rw [← this]
    exact e1
  · rw [if_pos (by omega)]
    have : jobsB x = false := by
      rw [← Bool.not_eq_true, jobsB_iff]
      exact fun hh => h hh.1
    rw [this]
def goodJ (x : List S34) : Prop := (∀ j ∈ x, okJ j) ∧ (x.map S34.f0).Nodup ∧ x.length ≤ 12
theorem good_iff (x : List S34) : jobsB x = true ↔ goodJ x := by
  rw [jobsB_iff]
  have gd : ∀ p (hp : p < x.length), x.getD p z34 = x[p] := fun p hp => by rw [List.getD_eq_getElem?_getD, List.getElem?_eq_getElem hp]; rfl
  constructor
  · intro ⟨h1, h2⟩
    refine ⟨fun j hj => ?_, ?_, h1⟩
    · obtain ⟨p, hp, rfl⟩ := List.getElem_of_mem hj
      have := (h2 p hp).1
      rwa [gd p hp] at this
    · rw [List.nodup_iff_pairwise_ne, List.pairwise_map, List.pairwise_iff_getElem]
      intro p q hp hq hpq
      have := (h2 q hq).2 p hpq
      rwa [gd p hp, gd q hq] at this
  · intro ⟨h1, h2, h3⟩
    rw [List.nodup_iff_pairwise_ne, List.pairwise_map, List.pairwise_iff_getElem] at h2
    refine ⟨h3, fun p hp => ⟨?_, fun q hq => ?_⟩⟩
    · rw [gd p hp]; exact h1 _ (List.getElem_mem hp)
    · rw [gd p hp, gd q (by omega)]; exact h2 q p (by omega) hp hq
theorem goodJ_sub {x y : List S34} (h : goodJ x) (hs : List.Sublist y x) : goodJ y :=
  ⟨fun j hj => h.1 j (hs.subset hj), h.2.1.sublist (hs.map _), Nat.le_trans hs.length_le h.2.2⟩
theorem copy_eq (x : List S34) (hx : x.length ≤ 2097152) : spec_l29Copy.f x = some x := by
  unfold spec_l29Copy.f
  simp only [Option.bind_some, List.nil_append, List.length_nil]
  rw [if_pos (by omega)]
theorem clone_eq (x : List S34) (hx : x.length ≤ 2097152) : impl_Job_44.f x = some x := by
  unfold impl_Job_44.f
  simp only [Option.bind_some, List.nil_append, List.length_nil]
  rw [if_pos (by omega)]
theorem jobsOk_some (x : List S34) (hx : x.length ≤ 20) (k : Nat) (hk : 600 ≤ k) : ∃ r, spec_JobsOk.f k x = some r ∧ (r = true → goodJ x) := by
  have hq : x.length * (x.length + 2) ≤ 20 * 22 := Nat.mul_le_mul hx (by omega)
  exact ⟨jobsB x, specJobs_eq x (by omega) k (by omega), fun h => (good_iff x).1 h⟩
theorem addJob_some (x : List S34) (hx : x.length ≤ 12) (hg : goodJ x) (j : S34) (k : Nat) (hk : 600 ≤ k) : ∃ y b, spec_AddJob.f k x j.f0 j.f1 j.f2 j.f3 j.f4 j.f5 = some (y, b) ∧ goodJ y := by
  have ec : spec_l29Copy.f x = some x := by
    unfold spec_l29Copy.f
    simp only [Option.bind_some, List.nil_append, List.length_nil]
    rw [if_pos (by omega)]
  obtain ⟨r, e1, g1⟩ := jobsOk_some x (by omega) k hk
  obtain ⟨r2, e2, g2⟩ := jobsOk_some (x ++ [j]) (by simp; omega) k hk
  unfold spec_AddJob.f
  rw [ec]
  simp only [Option.bind_some]
  rw [if_pos (by simp; omega), e1]
  simp only [Option.bind_some]
  cases r with
  | false => exact ⟨x, false, by simp, hg⟩
  | true =>
    rw [if_pos rfl, e2]
    simp only [Option.bind_some]
    cases r2 with
    | false => exact ⟨x, false, by simp, hg⟩
    | true => exact ⟨x ++ [j], true, by simp, g2 rfl⟩
theorem drawJob_some (s : List Int) (hs : s.length ≤ 1048576) (i h : Int) (hi : 0 ≤ i) : ∃ (j : S34) (i' h' : Int), spec_l28Job.f s i h = some (j.f0, j.f1, j.f2, j.f3, j.f4, j.f5, i', h') ∧ 0 ≤ i' := by
  obtain ⟨v1, i1, h1, e1, _, _, c1⟩ := below_some s hs i h 20 hi (by omega)
  obtain ⟨v2, i2, h2, e2, _, _, c2⟩ := below_some s hs i1 h1 10 c1 (by omega)
  obtain ⟨v3, i3, h3, e3, _, c3⟩ := pickInt_some s hs i2 h2 [1, 2, 3, 64, wrap64 (1 + v2)] c2 (by simp)
  obtain ⟨v4, i4, h4, e4, _, c4⟩ := pickInt_some s hs i3 h3 [1, 1, 2, 20] c3 (by simp)
  obtain ⟨v5, i5, h5, e5, c5⟩ := once_some s hs i4 h4 2 c4 (by omega)
  obtain ⟨v6, i6, h6, e6, _, _, c6⟩ := below_some s hs i5 h5 10 c5 (by omega)
  obtain ⟨v7, i7, h7, e7, c7⟩ := once_some s hs i6 h6 4 c6 (by omega)
  refine ⟨⟨wrap64 (1 + v1), v3, v4, v5, v6, v7⟩, i7, h7, ?_, c7⟩
  unfold spec_l28Job.f
  rw [e1]
  simp only [Option.bind_some]
  rw [e2]
  simp only [Option.bind_some]
  rw [e3]
  simp only [Option.bind_some]
  rw [e4]
  simp only [Option.bind_some]
  rw [e5]
  simp only [Option.bind_some]
  rw [e6]
  simp only [Option.bind_some]
  rw [e7]
  rfl
theorem jobs_l0 (s : List Int) (hs : s.length ≤ 1048576) (n : Nat) (hn : n ≤ 8) (d : Nat) : ∀ (k : Nat) (x : List S34) (i : Nat) (c h : Int), i + d = n → d + 600 < k → 0 ≤ c → goodJ x → ∃ x' c' h', spec_l29Jobs.l0 k x n i s c h = some (x', c', h') ∧ goodJ x' ∧ 0 ≤ c' := by
  induction d with
  | zero =>
    intro k x i c h hi hk hc hg
    obtain ⟨k, rfl⟩ : ∃ m, k = m + 1 := ⟨k - 1, by omega⟩
    rw [spec_l29Jobs.l0, if_neg (by omega)]
    exact ⟨x, c, h, rfl, hg, hc⟩
  | succ d ih =>
    intro k x i c h hi hk hc hg
    obtain ⟨k, rfl⟩ : ∃ m, k = m + 1 := ⟨k - 1, by omega⟩
    obtain ⟨j, c1, h1, e1, hc1⟩ := drawJob_some s hs c h hc
    obtain ⟨y, b, e2, hy⟩ := addJob_some x hg.2.2 hg j k (by omega)
    rw [spec_l29Jobs.l0, if_pos (by omega), e1]
    simp only [Option.bind_some]
    rw [e2]
    simp only [Option.bind_some]
    rw [wrap_cast i (by omega)]
    exact ih k y (i + 1) c1 h1 (by omega) (by omega) hc1 hy
theorem drawJobs_some (x : List Int) (hx : x.length ≤ 1048576) (k : Nat) (hk : x.length + 610 < k) : ∃ y, spec_DrawJobs.f k x = some y ∧ goodJ y := by
  obtain ⟨h, e⟩ := new_some x hx k (by omega)
  obtain ⟨v, c1, h1, e1, a1, b1, hc1⟩ := below_some x hx 0 h 8 (by omega) (by omega)
  have g0 : goodJ ([] : List S34) := ⟨by simp, by simp, by simp⟩
  obtain ⟨y, c2, h2, e2, hy, _⟩ := jobs_l0 x hx v.toNat (by omega) v.toNat k [] 0 c1 h1 (by omega) (by omega) hc1 g0
  refine ⟨y, ?_, hy⟩
  unfold spec_DrawJobs.f spec_l29Jobs.f
  rw [e]
  simp only [Option.bind_some]
  rw [e1]
  simp only [Option.bind_some]
  rw [show ((v.toNat : Nat) : Int) = v by omega] at e2
  have e2' : spec_l29Jobs.l0 k [] v 0 x c1 h1 = some (y, c2, h2) := e2
  rw [e2']
  rfl
def better (x : List S34) (i : Nat) (b : Int) : Int := if (x.getD i z34).f5 = true then b else if b < 0 then i else if (x.getD i z34).f4 > (x.getD b.toNat z34).f4 then i else b
def nextL (x : List S34) : Nat → Nat → Int → Int
  | 0, _, b => b
  | d + 1, i, b => nextL x d (i + 1) (better x i b)
def nextF (x : List S34) : Int := if jobsB x = true then nextL x x.length 0 (-1) else -1
theorem better_range (x : List S34) (i : Nat) (b : Int) (hi : i < x.length) (hb : b < x.length) (h1 : -1 ≤ b) : better x i b < x.length ∧ -1 ≤ better x i b := by
  unfold better
  split
  · exact ⟨hb, h1⟩
  · split
    · omega
    · split <;> omega
theorem nextL_range (x : List S34) (d : Nat) : ∀ (i : Nat) (b : Int), i + d = x.length → b < x.length → -1 ≤ b → nextL x d i b < x.length ∧ -1 ≤ nextL x d i b := by
  induction d with
  | zero => intro i b _ h1 h2; exact ⟨h1, h2⟩
  | succ d ih =>
    intro i b hi h1 h2
    obtain ⟨h3, h4⟩ := better_range x i b (by omega) h1 h2
    exact ih (i + 1) _ (by omega) h3 h4
theorem nextF_range (x : List S34) : nextF x < x.length ∧ -1 ≤ nextF x := by
  unfold nextF
  split
  · exact nextL_range x x.length 0 (-1) (by omega) (by omega) (by omega)
  · omega
theorem implNext_l0 (x : List S34) (hx : x.length ≤ 1048576) (d : Nat) : ∀ (k : Nat) (i : Nat) (b : Int), i + d = x.length → d < k → b < x.length → -1 ≤ b → impl_NextJob.l0 k x b x (x.length : Int) i = some (nextL x d i b) := by
  induction d with
  | zero =>
    intro k i b hi hk h1 h2
    obtain ⟨k, rfl⟩ : ∃ m, k = m + 1 := ⟨k - 1, by omega⟩
    rw [impl_NextJob.l0, if_neg (by omega)]
    rfl
  | succ d ih =>
    intro k i b hi hk h1 h2
    obtain ⟨k, rfl⟩ : ∃ m, k = m + 1 := ⟨k - 1, by omega⟩
    have e : rd_T34 x i = x.getD i z34 := by simp [rd_T34]
    have eb : rd_T34 x b = x.getD b.toNat z34 := by simp [rd_T34]
    rw [impl_NextJob.l0, if_pos (by omega), if_pos (by omega), if_pos (by omega), e, eb, wrap_cast i (by omega), nextL]
    unfold better
    by_cases c1 : (x.getD i z34).f5 = true
    · rw [if_pos c1, if_pos c1]; exact ih k (i + 1) b (by omega) (by omega) h1 h2
    · rw [if_neg c1, if_neg c1]
      by_cases c2 : b < 0
      · rw [if_pos c2, if_pos c2]; exact ih k (i + 1) i (by omega) (by omega) (by omega) (by omega)
      · rw [if_neg c2, if_neg c2, if_pos (by omega), if_pos (by omega)]
        by_cases c3 : (x.getD i z34).f4 > (x.getD b.toNat z34).f4
        · rw [if_pos c3, if_pos c3]; exact ih k (i + 1) i (by omega) (by omega) (by omega) (by omega)
        · rw [if_neg c3, if_neg c3]; exact ih k (i + 1) b (by omega) (by omega) h1 h2
theorem implNext_eq (x : List S34) (hx : x.length ≤ 1048576) (k : Nat) (hk : x.length < k) : impl_NextJob.f k x = some (nextF x) := by
  rw [impl_NextJob.f, implJobs_eq x k hk]
  simp only [Option.bind_some]
  unfold nextF
  by_cases h : jobsB x = true
  · rw [if_pos h, if_pos h]; exact implNext_l0 x hx x.length k 0 (-1) (by omega) hk (by omega) (by omega)
  · rw [if_neg h, if_neg h]
def takeF (x : List S34) : List S34 × S34 × Bool := if nextF x < 0 then (x, ⟨0, 0, 0, false, 0, false⟩, false) else (x.eraseIdx (nextF x).toNat, rd_T34 x (nextF x), true)
theorem takeF_len (x : List S34) : (takeF x).1.length ≤ x.length := by
  unfold takeF
  split
  · exact Nat.le_refl _
  · exact List.length_eraseIdx_le _ _
theorem takeF_less (x : List S34) (h : (takeF x).2.2 = true) : (takeF x).1.length + 1 = x.length := by
  have hr := nextF_range x
  unfold takeF at h ⊢
  by_cases c : nextF x < 0
  · rw [if_pos c] at h; cases h
  · rw [if_neg c]
    simp only
    rw [List.length_eraseIdx_of_lt (by omega)]
    omega
theorem implTake_eq (x : List S34) (hx : x.length ≤ 1048576) (k : Nat) (hk : x.length < k) : impl_TakeJob.f k x = some ((takeF x).1, (takeF x).2.1.f0, (takeF x).2.1.f1, (takeF x).2.1.f2, (takeF x).2.1.f3, (takeF x).2.1.f4, (takeF x).2.1.f5, (takeF x).2.2) := by
  have hr := nextF_range x
  unfold impl_TakeJob.f takeF
  rw [implNext_eq x hx k hk, clone_eq x (by omega)]
  simp only [Option.bind_some]
  by_cases c : nextF x < 0
  · simp only [if_pos c]
  · simp only [if_neg c]
    unfold impl_Job_46.f
    rw [if_pos (by omega), if_pos (by omega), if_pos rfl]
    simp only [Option.bind_some]
    rw [if_pos (by omega), if_pos (by omega)]
def orderL : Nat → List S34 → List Int
  | 0, _ => []
  | n + 1, x => if (takeF x).2.2 = true then (takeF x).2.1.f0 :: orderL n (takeF x).1 else []
def orderF (x : List S34) : List Int := orderL (x.length + 1) x
theorem orderL_len (n : Nat) : ∀ (x : List S34), (orderL n x).length ≤ x.length := by
  induction n with
  | zero => intro x; exact Nat.zero_le _
  | succ n ih =>
    intro x
    rw [orderL]
    by_cases c : (takeF x).2.2 = true
    · rw [if_pos c]
      have h1 := takeF_less x c
      have h2 := ih (takeF x).1
      simp only [List.length_cons]
      omega
    · rw [if_neg c]; exact Nat.zero_le _
theorem orderF_len (x : List S34) : (orderF x).length ≤ x.length := orderL_len _ x
theorem implOrder_l0 (n : Nat) : ∀ (x : List S34) (k : Nat) (o : List Int), x.length < n → x.length ≤ 1048576 → o.length + x.length ≤ 1048576 → n + x.length < k → impl_PrintOrder.l0 k x o = some (o ++ orderL n x) := by
  induction n with
  | zero => intro x k o h; exact absurd h (Nat.not_lt_zero _)
  | succ n ih =>
    intro x k o hn hx ho hk
    obtain ⟨k, rfl⟩ : ∃ m, k = m + 1 := ⟨k - 1, by omega⟩
    rw [impl_PrintOrder.l0, implTake_eq x hx k (by omega), orderL]
    simp only [Option.bind_some]
    by_cases c : (takeF x).2.2 = true
    · have h1 := takeF_less x c
      rw [if_pos c, if_pos c, if_pos (by omega), ih _ k _ (by omega) (by omega) (by simp; omega) (by omega)]
      simp
    · rw [if_neg c, if_neg c]; simp
theorem implOrder_eq (x : List S34) (hx : x.length ≤ 1048576) (k : Nat) (hk : 2 * x.length + 1 < k) : impl_PrintOrder.f k x = some (orderF x) := by
  rw [impl_PrintOrder.f, implOrder_l0 (x.length + 1) x k [] (by omega) hx (by simpa using hx) (by omega)]
  rfl
/-- What stands behind i places: the best so far is the first of the highest priority among the jobs that are not held. -/
def bestI (x : List S34) (i : Nat) (b : Int) : Prop := (b = -1 ∧ ∀ q, q < i → (x.getD q z34).f5 = true) ∨ ∃ p : Nat, b = p ∧ p < i ∧ (x.getD p z34).f5 = false ∧ ∀ q, q < i → (x.getD q z34).f5 = false → (x.getD q z34).f4 ≤ (x.getD p z34).f4 ∧ (q < p → (x.getD q z34).f4 < (x.getD p z34).f4)
theorem better_best (x : List S34) (i : Nat) (b : Int) (h : bestI x i b) : bestI x (i + 1) (better x i b) := by
  unfold better
  by_cases c1 : (x.getD i z34).f5 = true
  · rw [if_pos c1]
    rcases h with ⟨h1, h2⟩ | ⟨p, h1, h2, h3, h4⟩
    · refine .inl ⟨h1, fun q hq => ?_⟩
      by_cases e : q = i
      · rw [e]; exact c1
      · exact h2 q (by omega)
    · refine .inr ⟨p, h1, by omega, h3, fun q hq hf => ?_⟩
      by_cases e : q = i
      · rw [e, c1] at hf; cases hf
      · exact h4 q (by omega) hf
  · have c1' : (x.getD i z34).f5 = false := by simpa using c1
    rw [if_neg c1]
    rcases h with ⟨h1, h2⟩ | ⟨p, h1, h2, h3, h4⟩
    · rw [if_pos (by omega)]
      refine .inr ⟨i, rfl, by omega, c1', fun q hq hf => ?_⟩
      by_cases e : q = i
      · rw [e]; exact ⟨Int.le_refl _, fun h => absurd h (Nat.lt_irrefl _)⟩
      · rw [h2 q (by omega)] at hf; cases hf
    · rw [if_neg (by omega), show b.toNat = p by omega]
      by_cases c2 : (x.getD i z34).f4 > (x.getD p z34).f4
      · rw [if_pos c2]
        refine .inr ⟨i, rfl, by omega, c1', fun q hq hf => ?_⟩
        by_cases e : q = i
        · rw [e]; exact ⟨Int.le_refl _, fun h => absurd h (Nat.lt_irrefl _)⟩
        · have := (h4 q (by omega) hf).1
          exact ⟨by omega, fun _ => by omega⟩
      · rw [if_neg c2]
        refine .inr ⟨p, h1, by omega, h3, fun q hq hf => ?_⟩
        by_cases e : q = i
        · rw [e]; exact ⟨by omega, fun h => by omega⟩
        · exact h4 q (by omega) hf
theorem nextL_best (x : List S34) (d : Nat) : ∀ (i : Nat) (b : Int), bestI x i b → bestI x (i + d) (nextL x d i b) := by
  induction d with
  | zero => intro i b h; exact h
  | succ d ih =>
    intro i b h
    rw [nextL, show i + (d + 1) = (i + 1) + d by omega]
    exact ih (i + 1) _ (better_best x i b h)
theorem nextF_best (x : List S34) (hg : goodJ x) : bestI x x.length (nextF x) := by
  have := nextL_best x x.length 0 (-1) (.inl ⟨rfl, fun q hq => absurd hq (Nat.not_lt_zero _)⟩)
  unfold nextF
  rw [if_pos ((good_iff x).2 hg)]
  simpa using this
/-- In which order jobs are printed: by priority, and those of one priority by their places. -/
def ahead (pos : S34 → Nat) (a b : S34) : Prop := a.f4 > b.f4 ∨ (a.f4 = b.f4 ∧ pos a < pos b)
def freeN (x : List S34) : Nat := (x.filter (fun j => !j.f5)).length
theorem freeN_zero (x : List S34) (h : ∀ q, q < x.length → (x.getD q z34).f5 = true) : freeN x = 0 := by
  unfold freeN
  rw [List.length_eq_zero_iff, List.filter_eq_nil_iff]
  intro a ha
  obtain ⟨q, hq, rfl⟩ := List.getElem_of_mem ha
  have := h q hq
  rw [List.getD_eq_getElem?_getD, List.getElem?_eq_getElem hq] at this
  simpa using this
theorem freeN_erase (x : List S34) (p : Nat) (hp : p < x.length) (h : (x.getD p z34).f5 = false) : freeN x = freeN (x.eraseIdx p) + 1 := by
  have e : x = x.take p ++ x.getD p z34 :: x.drop (p + 1) := by
    rw [← getD_drop x z34 p hp, List.take_append_drop]
  rw [List.eraseIdx_eq_take_drop_succ]
  unfold freeN
  conv => lhs; rw [e]
  generalize x.getD p z34 = y at h
  simp [List.filter_append, List.filter_cons, h]
  omega
theorem orderL_is (pos : S34 → Nat) (n : Nat) : ∀ (x : List S34), x.length < n → goodJ x → x.Pairwise (fun a b => pos a < pos b) → ∃ ys : List S34, orderL n x = ys.map S34.f0 ∧ (∀ y ∈ ys, y ∈ x ∧ y.f5 = false) ∧ ys.Pairwise (ahead pos) ∧ ys.length = freeN x := by
  induction n with
  | zero => intro x h; exact absurd h (Nat.not_lt_zero _)
  | succ n ih =>
    intro x hn hg hp
    rw [orderL]
    have hb := nextF_best x hg
    have gd : ∀ p (hp : p < x.length), x.getD p z34 = x[p] := fun p hp => by rw [List.getD_eq_getElem?_getD, List.getElem?_eq_getElem hp]; rfl
    rcases hb with ⟨h1, h2⟩ | ⟨p, h1, h2, h3, h4⟩
    · have e : (takeF x).2.2 = false := by unfold takeF; rw [if_pos (by omega)]
      rw [if_neg (by simp [e])]
      exact ⟨[], rfl, by simp, List.Pairwise.nil, (freeN_zero x h2).symm⟩
    · have e : takeF x = (x.eraseIdx p, x.getD p z34, true) := by
        unfold takeF
        rw [if_neg (by omega), h1]
        simp [rd_T34]
      rw [e]
      simp only [if_true]
      have hs : List.Sublist (x.eraseIdx p) x := List.eraseIdx_sublist x p
      have hl : (x.eraseIdx p).length + 1 = x.length := by rw [List.length_eraseIdx_of_lt h2]; omega
      obtain ⟨ys, e1, e2, e3, e4⟩ := ih (x.eraseIdx p) (by omega) (goodJ_sub hg hs) (hp.sublist hs)
      refine ⟨x.getD p z34 :: ys, by rw [e1]; rfl, ?_, ?_, ?_⟩
      · intro y hy
        rcases List.mem_cons.1 hy with rfl | hy
        · exact ⟨getD_mem x z34 p h2, h3⟩
        · exact ⟨hs.subset (e2 y hy).1, (e2 y hy).2⟩
      · refine List.Pairwise.cons (fun y hy => ?_) e3
        obtain ⟨hy1, hy2⟩ := e2 y hy
        rw [List.eraseIdx_eq_take_drop_succ] at hy1
        have hpw := List.pairwise_iff_getElem.1 hp
        rcases List.mem_append.1 hy1 with hy1 | hy1
        · obtain ⟨q, hq, rfl⟩ := List.getElem_of_mem hy1
          rw [List.length_take] at hq
          rw [List.getElem_take] at hy2 ⊢
          have := (h4 q (by omega) (by rw [gd q (by omega)]; exact hy2)).2 (by omega)
          rw [gd q (by omega)] at this
          exact .inl this
        · obtain ⟨q, hq, rfl⟩ := List.getElem_of_mem hy1
          rw [List.length_drop] at hq
          rw [List.getElem_drop] at hy2 ⊢
          have h5 := (h4 (p + 1 + q) (by omega) (by rw [gd _ (by omega)]; exact hy2)).1
          have h6 := hpw p (p + 1 + q) h2 (by omega) (by omega)
          rw [gd _ (by omega)] at h5
          rw [← gd p h2] at h6
          by_cases c : (x.getD p z34).f4 = (x[p + 1 + q]'(by omega)).f4
          · exact .inr ⟨c, h6⟩
          · exact .inl (by omega)
      · rw [List.length_cons, e4, freeN_erase x p h2 h3]
/-- A job's place in the list. -/
def posn (l : List S34) (y : S34) : Nat := (jobAtL y.f0 l 0).toNat
theorem posn_at (l : List S34) (hg : goodJ l) (q : Nat) (hq : q < l.length) : posn l (l.getD q z34) = q := by
  have hj := ((jobsB_iff l).1 ((good_iff l).2 hg)).2
  have := (jobAt_is (l.getD q z34).f0 l q hq).2 ⟨rfl, (hj q hq).2⟩
  unfold posn
  rw [this]; rfl
theorem posn_mem (l : List S34) (hg : goodJ l) (y : S34) (hy : y ∈ l) : posn l y < l.length ∧ l.getD (posn l y) z34 = y ∧ ∀ q, q < l.length → (l.getD q z34).f0 = y.f0 → q = posn l y := by
  obtain ⟨q, hq, rfl⟩ := List.getElem_of_mem hy
  have gd : l.getD q z34 = l[q] := by rw [List.getD_eq_getElem?_getD, List.getElem?_eq_getElem hq]; rfl
  rw [← gd, posn_at l hg q hq]
  refine ⟨hq, rfl, fun q' hq' e => ?_⟩
  have hj := ((jobsB_iff l).1 ((good_iff l).2 hg)).2
  have a : ¬ q' < q := fun h => (hj q hq).2 q' h e
  have b : ¬ q < q' := fun h => (hj q' hq').2 q h e.symm
  omega
theorem posn_pairwise (l : List S34) (hg : goodJ l) : l.Pairwise (fun a b => posn l a < posn l b) := by
  rw [List.pairwise_iff_getElem]
  intro i j hi hj hij
  have gi : l.getD i z34 = l[i] := by rw [List.getD_eq_getElem?_getD, List.getElem?_eq_getElem hi]; rfl
  have gj : l.getD j z34 = l[j] := by rw [List.getD_eq_getElem?_getD, List.getElem?_eq_getElem hj]; rfl
  rw [← gi, ← gj, posn_at l hg i hi, posn_at l hg j hj]
  exact hij
theorem orderF_is (l : List S34) (hg : goodJ l) : ∃ ys : List S34, orderF l = ys.map S34.f0 ∧ (∀ y ∈ ys, y ∈ l ∧ y.f5 = false) ∧ ys.Pairwise (ahead (posn l)) ∧ ys.length = freeN l := orderL_is (posn l) (l.length + 1) l (by omega) hg (posn_pairwise l hg)
theorem spool_l0 (l : List S34) (o : List Int) (hl : l.length ≤ 12) (B : Nat) (T : ∀ k, B ≤ k → laws_FnSpools.l1 k l o (freeN l) (-1) 0 = some true) (d : Nat) : ∀ (k i : Nat), i + d = l.length → d + B + 1 ≤ k → laws_FnSpools.l0 k l o (freeN (l.take i)) i = some true := by
  induction d with
  | zero =>
    intro k i hi hk
    obtain ⟨k, rfl⟩ : ∃ m, k = m + 1 := ⟨k - 1, by omega⟩
    rw [laws_FnSpools.l0, if_neg (by omega), List.take_of_length_le (by omega)]
    exact T k (by omega)
  | succ d ih =>
    intro k i hi hk
    obtain ⟨k, rfl⟩ : ∃ m, k = m + 1 := ⟨k - 1, by omega⟩
    have e : rd_T34 l i = l.getD i z34 := by simp [rd_T34]
    have ht : l.take (i + 1) = l.take i ++ [l.getD i z34] := by
      rw [List.take_add_one, List.getD_eq_getElem?_getD, List.getElem?_eq_getElem (by omega)]; rfl
    have hb : freeN (l.take i) ≤ 12 := by
      unfold freeN
      have := List.length_filter_le (fun j : S34 => !j.f5) (l.take i)
      rw [List.length_take] at this
      omega
    rw [laws_FnSpools.l0, if_pos (by omega), if_pos (by omega), e, wrap_cast i (by omega)]
    have hn := ih k (i + 1) (by omega) (by omega)
    rw [ht] at hn
    have hf : freeN (l.take i ++ [l.getD i z34]) = freeN (l.take i) + (if (l.getD i z34).f5 = true then 0 else 1) := by
      unfold freeN
      generalize l.getD i z34 = y
      cases h : y.f5 <;> simp [List.filter_cons, h]
    rw [hf] at hn
    cases h : (l.getD i z34).f5 with
    | true =>
      rw [h] at hn
      simp only [laws_btoi.f, Bool.not_true, Bool.false_eq_true, if_false, Option.bind_some, if_true, Nat.add_zero] at hn ⊢
      rw [wrap_id (by omega) (by omega), Int.add_zero]
      exact hn
    | false =>
      rw [h] at hn
      simp only [laws_btoi.f, Bool.not_false, if_true, Option.bind_some, Bool.false_eq_true, if_false] at hn ⊢
      rw [wrap_cast _ (by omega)]
      exact hn
theorem spool_l2 (l : List S34) (o : List Int) (n a : Int) (kk : Nat) (hl : l.length ≤ 12) (hkk : kk < o.length) (ho : o.length ≤ 12) (p : Nat) (hp : p < l.length) (h1 : (l.getD p z34).f0 = rd o kk) (h2 : ∀ q, q < l.length → (l.getD q z34).f0 = rd o kk → q = p) (B : Nat) (R : Option Bool) (T : ∀ k, B ≤ k → laws_FnSpools.l2 (k + 1) l o n a kk p l.length = R) (d : Nat) : ∀ (k i : Nat), i + d = l.length → d + B + 1 ≤ k → laws_FnSpools.l2 k l o n a kk (if p < i then (p : Int) else -1) i = R := by
  induction d with
  | zero =>
    intro k i hi hk
    obtain ⟨k, rfl⟩ : ∃ m, k = m + 1 := ⟨k - 1, by omega⟩
    have := T k (by omega)
    rw [if_pos (by omega), show i = l.length by omega]
    exact this
  | succ d ih =>
    intro k i hi hk
    obtain ⟨k, rfl⟩ : ∃ m, k = m + 1 := ⟨k - 1, by omega⟩
    have e : rd_T34 l i = l.getD i z34 := by simp [rd_T34]
    have hn := ih k (i + 1) (by omega) (by omega)
    rw [laws_FnSpools.l2, if_pos (by omega), if_pos (by omega), if_pos (by omega), if_pos (by omega), e, wrap_cast i (by omega)]
    by_cases c : (l.getD i z34).f0 = rd o kk
    · have := h2 i (by omega) c
      rw [if_pos c]
      rw [if_pos (by omega)] at hn
      rw [this] at hn ⊢
      exact hn
    · rw [if_neg c]
      have : i ≠ p := fun e' => c (by rw [e']; exact h1)
      by_cases c2 : p < i
      · rw [if_pos c2]
        rw [if_pos (by omega)] at hn
        exact hn
      · rw [if_neg c2]
        rw [if_neg (by omega)] at hn
        exact hn
theorem spool_l1 (l : List S34) (hg : goodJ l) (ys : List S34) (hy : ∀ y ∈ ys, y ∈ l ∧ y.f5 = false) (hN : ys.length = freeN l) (r : List S34) : ∀ (k : Nat) (done : List S34) (a : Int), ys = done ++ r → r.Pairwise (ahead (posn l)) → (a = -1 ∨ ∃ p : Nat, a = p ∧ p < l.length ∧ ∀ y ∈ r, (l.getD p z34).f4 > y.f4 ∨ ((l.getD p z34).f4 = y.f4 ∧ p < posn l y)) → r.length * (l.length + 4) + l.length + 4 ≤ k → laws_FnSpools.l1 k l (ys.map S34.f0) (freeN l) a done.length = some true := by
  have hl12 := hg.2.2
  have hys : ys.length ≤ 12 := by
    rw [hN]
    unfold freeN
    exact Nat.le_trans (List.length_filter_le _ _) hl12
  induction r with
  | nil =>
    intro k done a e _ _ hk
    obtain ⟨k, rfl⟩ : ∃ m, k = m + 1 := ⟨k - 1, by omega⟩
    rw [List.append_nil] at e
    rw [laws_FnSpools.l1, if_neg (by rw [List.length_map, e]; omega), implJobs_eq l k (by omega), (good_iff l).2 hg]
    simp [hN]
  | cons y r ih =>
    intro k done a e hp ha hk
    rw [List.length_cons, Nat.succ_mul] at hk
    generalize hD : r.length * (l.length + 4) = D at hk
    obtain ⟨k, rfl⟩ : ∃ m, k = m + 1 := ⟨k - 1, by omega⟩
    have hkk : done.length < ys.length := by rw [e]; simp
    have hym : y ∈ ys := by rw [e]; simp
    have hr : rd (ys.map S34.f0) done.length = y.f0 := by rw [rd_nat, e]; simp
    obtain ⟨p1, p2, p3⟩ := posn_mem l hg y (hy y hym).1
    obtain ⟨hp1, hp2⟩ := List.pairwise_cons.1 hp
    have hnext : ∀ k', D + l.length + 4 ≤ k' → laws_FnSpools.l1 k' l (ys.map S34.f0) (freeN l) (posn l y) (done ++ [y]).length = some true := fun k' hk' =>
      ih k' (done ++ [y]) _ (by rw [e]; simp) hp2 (.inr ⟨_, rfl, p1, fun z hz => by rw [p2]; exact hp1 z hz⟩) (by rw [hD]; exact hk')
    rw [laws_FnSpools.l1, if_pos (by rw [List.length_map]; omega)]
    have := spool_l2 l (ys.map S34.f0) (freeN l) a done.length hl12 (by simpa using hkk) (by simpa using hys) (posn l y) p1 (by rw [p2, hr]) (fun q hq hq' => p3 q hq (by rw [hq', hr])) (D + l.length + 4) (some true) (fun k' hk' => by
      have eb : rd_T34 l (posn l y) = y := by simp only [rd_T34, Int.toNat_natCast]; exact p2
      have hn := hnext k' hk'
      rw [List.length_append, List.length_singleton] at hn
      rw [laws_FnSpools.l2, if_neg (by omega), if_neg (by omega), if_pos (by omega), if_pos (by omega), eb, (hy y hym).2, wrap_cast done.length (by omega)]
      simp only [Bool.false_eq_true, if_false]
      rcases ha with ha | ⟨p, ha, hpl, hpr⟩
      · rw [if_neg (by omega)]; exact hn
      · have ea : rd_T34 l a = l.getD p z34 := by rw [ha]; simp [rd_T34]
        rw [if_pos (by omega), if_pos (by omega), if_pos (by omega), ea]
        rcases hpr y (List.mem_cons_self ..) with c | ⟨c1, c2⟩
        · rw [if_neg (by omega), if_neg (by omega)]; exact hn
        · rw [if_neg (by omega), if_pos c1, if_neg (by omega)]; exact hn) l.length k 0 (by omega) (by omega)
    simpa using this
theorem pure : laws_FnSpools.Stm := by
  intro x _ _
  refine ⟨x.length + 1100, ?_⟩
  unfold laws_FnSpools.f laws_big.f
  simp only [Option.bind_some]
  by_cases h : (x.length : Int) > 1048576
  · simp [h]
  · rw [if_neg (by simpa using h)]
    obtain ⟨l, e, hg⟩ := drawJobs_some x (by omega) (x.length + 1100) (by omega)
    have hl := hg.2.2
    obtain ⟨ys, e1, e2, e3, e4⟩ := orderF_is l hg
    rw [e]
    simp only [Option.bind_some]
    rw [implOrder_eq l (by omega) _ (by omega)]
    simp only [Option.bind_some]
    rw [e1]
    have hys : ys.length ≤ 12 := by
      rw [e4]
      unfold freeN
      exact Nat.le_trans (List.length_filter_le _ _) hl
    have hq : ys.length * (l.length + 4) ≤ 12 * 16 := Nat.mul_le_mul hys (by omega)
    have := spool_l0 l (ys.map S34.f0) hl 300 (fun k hk => by
      have := spool_l1 l hg ys e2 e4 ys k [] (-1) rfl e3 (.inl rfl) (by omega)
      simpa using this) l.length (x.length + 1100) 0 (by omega) (by omega)
    simpa [freeN] using this
end Go.Proofs.Ytcahphhfknkjgaa.PureFnSpools
