/- The program's PrintOrder answers as the reference's, holds its own answer apart and leaves the jobs as they were: no condition. -/
import Derived.Test.YtcahphhfknkjgaaOpsFnExactPrintOrder
import Derived.Test.YtcahphhfknkjgaaPlain
namespace Go.Proofs.Ytcahphhfknkjgaa.PureFnExactPrintOrder
open Go.RowKit Go.Proofs.Ytcahphhfknkjgaa.PFnExactPrintOrder Go.Proofs.Ytcahphhfknkjgaa.Opened Go.Proofs.Ytcahphhfknkjgaa.Plain Go.Proofs.YtcahphhfknkjgaaW.PrintWords Go.Proofs.YtcahphhfknkjgaaW.PrintLast Go.Proofs.YtcahphhfknkjgaaW.PrintMore
set_option linter.unusedVariables false
set_option linter.unusedSimpArgs false
def toJob (x : S31) : S34 := ⟨x.f0, x.f1, x.f2, x.f3, x.f4, x.f5⟩
theorem toJobS_l0 (x : List S31) (hx : x.length ≤ 1048576) (d : Nat) : ∀ (k : Nat) (y : List S34) (i : Nat), i + d = x.length → y.length = x.length → d < k → y.take i = (x.take i).map toJob → laws_toJobS.l0 k x y i = some (x.map toJob) := by
  induction d with
  | zero =>
    intro k y i hi hl hk h
    obtain ⟨k, rfl⟩ : ∃ m, k = m + 1 := ⟨k - 1, by omega⟩
    rw [laws_toJobS.l0, if_neg (by omega), take_all_map (by omega) hl h]
  | succ d ih =>
    intro k y i hi hl hk h
    obtain ⟨k, rfl⟩ : ∃ m, k = m + 1 := ⟨k - 1, by omega⟩
    rw [laws_toJobS.l0, if_pos (by omega), if_pos (by omega)]
    simp only [laws_toJob.f, Option.bind_some]
    rw [if_pos (by omega), wrap_cast i (by omega), Int.toNat_natCast]
    refine ih k _ (i + 1) (by omega) (by simpa using hl) (by omega) (take_set_map toJob x y z31 _ i (by omega) hl h ?_)
    simp [toJob, rd_T31]
theorem toJobS_eq (x : List S31) (hx : x.length ≤ 1048576) (k : Nat) (hk : x.length < k) : laws_toJobS.f k x = some (x.map toJob) := by
  rw [laws_toJobS.f, if_pos (by omega), if_pos (by omega)]
  exact toJobS_l0 x hx x.length k _ 0 (by omega) (by simp) hk (by simp)
theorem eqJob_eq (x : S34) : laws_eqJob.f x.f0 x.f1 x.f2 x.f3 x.f4 x.f5 x.f0 x.f1 x.f2 x.f3 x.f4 x.f5 = some true := by simp [laws_eqJob.f]
theorem eqJobS_l0 (x : List S34) (hx : x.length ≤ 1048576) (d : Nat) : ∀ (k : Nat) (i : Nat), i + d = x.length → d < k → laws_eqJobS.l0 k x x i = some true := by
  induction d with
  | zero =>
    intro k i hi hk
    obtain ⟨k, rfl⟩ : ∃ m, k = m + 1 := ⟨k - 1, by omega⟩
    rw [laws_eqJobS.l0, if_neg (by omega)]
  | succ d ih =>
    intro k i hi hk
    obtain ⟨k, rfl⟩ : ∃ m, k = m + 1 := ⟨k - 1, by omega⟩
    rw [laws_eqJobS.l0, if_pos (by omega), if_pos (by omega), if_pos (by omega), eqJob_eq]
    simp only [Option.bind_some, if_true]
    rw [wrap_cast i (by omega)]
    exact ih k (i + 1) (by omega) (by omega)
theorem eqJobS_eq (x : List S34) (hx : x.length ≤ 1048576) (k : Nat) (hk : x.length < k) : laws_eqJobS.f k x x = some true := by
  rw [laws_eqJobS.f, if_pos rfl]
  exact eqJobS_l0 x hx x.length k 0 (by omega) hk
theorem szJobS_eq (x : List S31) (hx : x.length ≤ maxLen) : laws_szJobS.f x 1048576 = some (if x.length ≤ 1048576 then 1048576 - (x.length : Int) else -1) := by
  unfold maxLen at hx
  have e : wrap64 (1048576 - (x.length : Int)) = 1048576 - (x.length : Int) := wrap_id (by omega) (by omega)
  rw [laws_szJobS.f, e]
  by_cases h : x.length ≤ 1048576
  · rw [if_neg (by omega), if_pos h]
  · rw [if_pos (by omega), if_neg h]
def inB (a b c : Int) : Bool := if a ≥ b then decide (a ≤ c) else false
theorem in_eq (a b c : Int) : spec_l01In.f a b c = some (inB a b c) := by unfold spec_l01In.f inB; split <;> rfl
theorem within_eq (a b c : Int) : impl_within.f a b c = some (inB a b c) := in_eq a b c
theorem inB_iff (a b c : Int) : inB a b c = true ↔ b ≤ a ∧ a ≤ c := by unfold inB; split <;> simp <;> omega
def okB (a b c e : Int) : Bool := inB a 1 9999 && (inB b 1 64 && (inB c 1 20 && inB e 0 9))
theorem ok_eq (a b c : Int) (d : Bool) (e : Int) (f : Bool) : spec_JobOk.f a b c d e f = some (okB a b c e) := by
  unfold spec_JobOk.f okB
  simp only [in_eq, Option.bind_some]
  cases inB a 1 9999 <;> cases inB b 1 64 <;> cases inB c 1 20 <;> cases inB e 0 9 <;> rfl
theorem iok_eq (a b c : Int) (d : Bool) (e : Int) (f : Bool) : impl_JobOk.f a b c d e f = some (okB a b c e) := ok_eq a b c d e f
theorem okB_iff (a b c e : Int) : okB a b c e = true ↔ (1 ≤ a ∧ a ≤ 9999) ∧ (1 ≤ b ∧ b ≤ 64) ∧ (1 ≤ c ∧ c ≤ 20) ∧ (0 ≤ e ∧ e ≤ 9) := by
  simp [okB, inB_iff]
def okJ (j : S34) : Prop := okB j.f0 j.f1 j.f2 j.f4 = true
def jobsP (x : List S34) : Prop := x.length ≤ 12 ∧ ∀ p, p < x.length → okJ (x.getD p z34) ∧ ∀ q, q < p → (x.getD q z34).f0 ≠ (x.getD p z34).f0
def jobsB (x : List S34) : Bool := decide (x.length ≤ 12) && (List.range x.length).all (fun p => okB (x.getD p z34).f0 (x.getD p z34).f1 (x.getD p z34).f2 (x.getD p z34).f4 && (List.range p).all (fun q => decide ((x.getD q z34).f0 ≠ (x.getD p z34).f0)))
theorem jobsB_iff (x : List S34) : jobsB x = true ↔ jobsP x := by
  unfold jobsB jobsP okJ
  simp only [Bool.and_eq_true, decide_eq_true_eq, List.all_eq_true, List.mem_range]
theorem specJobs_l0 (x : List S34) (hx : x.length ≤ 2097152) (d : Nat) : ∀ (k : Nat) (i : Nat), i + d = x.length → d * (x.length + 2) + x.length + 2 < k → ∃ r, spec_JobsOk.l0 k x i = some r ∧ (r = true ↔ x.length ≤ 12 ∧ ∀ p, i ≤ p → p < x.length → okJ (x.getD p z34) ∧ ∀ q, q < p → (x.getD q z34).f0 ≠ (x.getD p z34).f0) := by
  induction d with
  | zero =>
    intro k i hi hk
    obtain ⟨k, rfl⟩ : ∃ m, k = m + 1 := ⟨k - 1, by omega⟩
    rw [spec_JobsOk.l0, if_neg (by omega)]
    refine ⟨_, rfl, ⟨fun h => ⟨?_, fun p h1 h2 => by omega⟩, fun h => decide_eq_true (by omega)⟩⟩
    have := of_decide_eq_true h
    omega
  | succ d ih =>
    intro k i hi hk
    rw [Nat.succ_mul] at hk
    generalize d * (x.length + 2) = D at ih hk
    obtain ⟨k, rfl⟩ : ∃ m, k = m + 1 := ⟨k - 1, by omega⟩
    have e : rd_T34 x i = x.getD i z34 := by simp [rd_T34]
    have inner : ∀ (w k' j : Nat), j + w = i → w + (D + x.length + 2) + 1 < k' → ∃ r, spec_JobsOk.l1 k' x i j = some r ∧ (r = true ↔ x.length ≤ 12 ∧ (∀ q, j ≤ q → q < i → (x.getD q z34).f0 ≠ (x.getD i z34).f0) ∧ ∀ p, i + 1 ≤ p → p < x.length → okJ (x.getD p z34) ∧ ∀ q, q < p → (x.getD q z34).f0 ≠ (x.getD p z34).f0) := by
      intro w
      induction w with
      | zero =>
        intro k' j hj hk2
        obtain ⟨k', rfl⟩ : ∃ m, k' = m + 1 := ⟨k' - 1, by omega⟩
        rw [spec_JobsOk.l1, if_neg (by omega), wrap_cast i (by omega)]
        obtain ⟨r, e1, e2⟩ := ih k' (i + 1) (by omega) (by omega)
        refine ⟨r, e1, e2.trans ⟨fun h => ⟨h.1, fun q h1 h2 => by omega, h.2⟩, fun h => ⟨h.1, h.2.2⟩⟩⟩
      | succ w ihw =>
        intro k' j hj hk2
        obtain ⟨k', rfl⟩ : ∃ m, k' = m + 1 := ⟨k' - 1, by omega⟩
        have ej : rd_T34 x j = x.getD j z34 := by simp [rd_T34]
        rw [spec_JobsOk.l1, if_pos (by omega), if_pos (by omega), if_pos (by omega), if_pos (by omega), if_pos (by omega), e, ej]
        by_cases h : (x.getD j z34).f0 = (x.getD i z34).f0
        · rw [if_pos h]; exact ⟨false, rfl, ⟨fun h => (by cases h), fun hh => absurd h (hh.2.1 j (Nat.le_refl _) (by omega))⟩⟩
        · rw [if_neg h, wrap_cast j (by omega)]
          obtain ⟨r, e1, e2⟩ := ihw k' (j + 1) (by omega) (by omega)
          refine ⟨r, e1, e2.trans ⟨fun hr => ⟨hr.1, fun q h1 h2 => ?_, hr.2.2⟩, fun hr => ⟨hr.1, fun q h1 h2 => hr.2.1 q (by omega) h2, hr.2.2⟩⟩⟩
          by_cases hq : q = j
          · rw [hq]; exact h
          · exact hr.2.1 q (by omega) h2
    rw [spec_JobsOk.l0, if_pos (by omega), if_pos (by omega), e]
    simp only [ok_eq, Option.bind_some]
    by_cases h : okB (x.getD i z34).f0 (x.getD i z34).f1 (x.getD i z34).f2 (x.getD i z34).f4 = true
    · rw [if_pos h]
      obtain ⟨r, e1, e2⟩ := inner i k 0 (by omega) (by omega)
      refine ⟨r, e1, e2.trans ⟨fun hr => ⟨hr.1, fun p h1 h2 => ?_⟩, fun hr => ⟨hr.1, fun q _ h2 => (hr.2 i (Nat.le_refl _) (by omega)).2 q h2, fun p h1 h2 => hr.2 p (by omega) h2⟩⟩⟩
      by_cases hp : p = i
      · rw [hp]; exact ⟨h, fun q hq => hr.2.1 q (by omega) hq⟩
      · exact hr.2.2 p (by omega) h2
    · rw [if_neg h]; exact ⟨false, rfl, ⟨fun h => (by cases h), fun hh => absurd (hh.2 i (Nat.le_refl _) (by omega)).1 h⟩⟩
theorem specJobs_eq (x : List S34) (hx : x.length ≤ 2097152) (k : Nat) (hk : x.length * (x.length + 2) + x.length + 2 < k) : spec_JobsOk.f k x = some (jobsB x) := by
  obtain ⟨r, e1, e2⟩ := specJobs_l0 x hx x.length k 0 (by omega) hk
  have : r = jobsB x := by
    rw [Bool.eq_iff_iff, e2, jobsB_iff]
    exact ⟨fun h => ⟨h.1, fun p h2 => h.2 p (Nat.zero_le _) h2⟩, fun h => ⟨h.1, fun p _ h2 => h.2 p h2⟩⟩
  rw [← this]
  exact e1
theorem jobAtL_cases (id : Int) (x : List S34) : ∀ (i : Nat), (∃ p, p < x.length ∧ jobAtL id x i = ((i + p : Nat) : Int) ∧ (x.getD p z34).f0 = id ∧ ∀ q, q < p → (x.getD q z34).f0 ≠ id) ∨ (jobAtL id x i = -1 ∧ ∀ q, q < x.length → (x.getD q z34).f0 ≠ id) := by
  induction x with
  | nil => intro i; exact .inr ⟨rfl, fun q hq => by simp at hq⟩
  | cons y r ih =>
    intro i
    rw [jobAtL]
    by_cases h : y.f0 = id
    · rw [if_pos h]
      exact .inl ⟨0, by simp, by simp, by simpa using h, fun q hq => absurd hq (Nat.not_lt_zero _)⟩
    · rw [if_neg h]
      have e : ((i : Int) + 1) = ((i + 1 : Nat) : Int) := by omega
      rw [e]
      rcases ih (i + 1) with ⟨p, h1, h2, h3, h4⟩ | ⟨h1, h2⟩
      · refine .inl ⟨p + 1, by simp; omega, by rw [h2]; congr 1; omega, by simpa using h3, fun q hq => ?_⟩
        cases q with
        | zero => simpa using h
        | succ q => simpa using h4 q (by omega)
      · refine .inr ⟨h1, fun q hq => ?_⟩
        cases q with
        | zero => simpa using h
        | succ q => simpa using h2 q (by simpa using hq)
theorem jobAt_is (id : Int) (x : List S34) (p : Nat) (hp : p < x.length) : jobAtL id x 0 = (p : Int) ↔ (x.getD p z34).f0 = id ∧ ∀ q, q < p → (x.getD q z34).f0 ≠ id := by
  rcases jobAtL_cases id x 0 with ⟨p', h1, h2, h3, h4⟩ | ⟨h1, h2⟩
  · rw [show jobAtL id x 0 = _ from h2]
    constructor
    · intro h
      have : p' = p := by omega
      subst this
      exact ⟨h3, h4⟩
    · intro ⟨h5, h6⟩
      have a : ¬ p < p' := fun h => h4 p h h5
      have b : ¬ p' < p := fun h => h6 p' h h3
      omega
  · rw [show jobAtL id x 0 = _ from h1]
    constructor
    · intro h; omega
    · intro ⟨h5, _⟩; exact absurd h5 (h2 p hp)
theorem implJobs_l0 (x : List S34) (hx : x.length ≤ 12) (d : Nat) : ∀ (k : Nat) (i : Nat), i + d = x.length → d < k → ∃ r, impl_JobsOk.l0 k x x (x.length : Int) i = some r ∧ (r = true ↔ ∀ p, i ≤ p → p < x.length → okJ (x.getD p z34) ∧ ∀ q, q < p → (x.getD q z34).f0 ≠ (x.getD p z34).f0) := by
  induction d with
  | zero =>
    intro k i hi hk
    obtain ⟨k, rfl⟩ : ∃ m, k = m + 1 := ⟨k - 1, by omega⟩
    rw [impl_JobsOk.l0, if_neg (by omega)]
    exact ⟨true, rfl, ⟨fun _ p h1 h2 => by omega, fun _ => rfl⟩⟩
  | succ d ih =>
    intro k i hi hk
    obtain ⟨k, rfl⟩ : ∃ m, k = m + 1 := ⟨k - 1, by omega⟩
    have e : rd_T34 x i = x.getD i z34 := by simp [rd_T34]
    rw [impl_JobsOk.l0, if_pos (by omega), if_pos (by omega), if_pos (by omega), e]
    simp only [iok_eq, Option.bind_some, impl_jobAt.f]
    have ha := jobAt_is (x.getD i z34).f0 x i (by omega)
    by_cases h : okB (x.getD i z34).f0 (x.getD i z34).f1 (x.getD i z34).f2 (x.getD i z34).f4 = true
    · rw [if_pos h]
      by_cases h2 : jobAtL (x.getD i z34).f0 x 0 = (i : Int)
      · rw [if_pos h2, wrap_cast i (by omega)]
        obtain ⟨r, e1, e2⟩ := ih k (i + 1) (by omega) (by omega)
        have h3 := (ha.1 h2).2
        refine ⟨r, e1, e2.trans ⟨fun hr p h1 h4 => ?_, fun hr p h1 h4 => hr p (by omega) h4⟩⟩
        by_cases hp : p = i
        · rw [hp]; exact ⟨h, h3⟩
        · exact hr p (by omega) h4
      · rw [if_neg h2]
        exact ⟨false, rfl, ⟨fun h => (by cases h), fun hh => absurd (ha.2 ⟨rfl, (hh i (Nat.le_refl _) (by omega)).2⟩) h2⟩⟩
    · rw [if_neg h]; exact ⟨false, rfl, ⟨fun h => (by cases h), fun hh => absurd (hh i (Nat.le_refl _) (by omega)).1 h⟩⟩
theorem implJobs_eq (x : List S34) (k : Nat) (hk : x.length < k) : impl_JobsOk.f k x = some (jobsB x) := by
  rw [impl_JobsOk.f]
  by_cases h : x.length ≤ 12
  · rw [if_neg (by omega)]
    obtain ⟨r, e1, e2⟩ := implJobs_l0 x h x.length k 0 (by omega) hk
    have : r = jobsB x := by
      rw [Bool.eq_iff_iff, e2, jobsB_iff]
      exact ⟨fun hh => ⟨h, fun p h2 => hh p (Nat.zero_le _) h2⟩, fun hh p _ h2 => hh.2 p h2⟩
    rw [← this]
    exact e1
  · rw [if_pos (by omega)]
    have : jobsB x = false := by
      rw [← Bool.not_eq_true, jobsB_iff]
      exact fun hh => h hh.1
    rw [this]
theorem eqIntS_l0 (x : List Int) (hx : x.length ≤ 1048576) (d : Nat) : ∀ (k : Nat) (i : Nat), i + d = x.length → d < k → laws_eqIntS.l0 k x x i = some true := by
  induction d with
  | zero =>
    intro k i hi hk
    obtain ⟨k, rfl⟩ : ∃ m, k = m + 1 := ⟨k - 1, by omega⟩
    rw [laws_eqIntS.l0, if_neg (by omega)]
  | succ d ih =>
    intro k i hi hk
    obtain ⟨k, rfl⟩ : ∃ m, k = m + 1 := ⟨k - 1, by omega⟩
    rw [laws_eqIntS.l0, if_pos (by omega), if_pos (by omega), if_pos (by omega), if_pos rfl, wrap_cast i (by omega)]
    exact ih k (i + 1) (by omega) (by omega)
theorem eqIntS_eq (x : List Int) (hx : x.length ≤ 1048576) (k : Nat) (hk : x.length < k) : laws_eqIntS.f k x x = some true := by
  rw [laws_eqIntS.f, if_pos rfl]
  exact eqIntS_l0 x hx x.length k 0 (by omega) hk
def markL : Nat → Int → List Int
  | 0, _ => []
  | n + 1, m => m :: markL n (m + 1)
theorem markL_length (n : Nat) : ∀ m, (markL n m).length = n := by
  induction n with
  | zero => intro m; rfl
  | succ n ih => intro m; simp [markL, ih]
theorem set_at {α : Type} (p r : List α) (a b : α) : (p ++ a :: r).set p.length b = p ++ b :: r := by
  rw [List.set_append_right _ _ (Nat.le_refl _)]; simp
theorem markIntS_l0 (r : List Int) : ∀ (k : Nat) (p : List Int) (m : Int), r.length < k → p.length + r.length ≤ 8388608 → 0 ≤ m → m + r.length ≤ 100000000 → laws_markIntS.l0 k (p ++ r) m p.length = some (m + r.length, p ++ markL r.length m) := by
  induction r with
  | nil =>
    intro k p m hk hp h0 h1
    obtain ⟨k, rfl⟩ : ∃ q, k = q + 1 := ⟨k - 1, by omega⟩
    rw [laws_markIntS.l0, if_neg (by simp)]
    simp [markL]
  | cons a r ih =>
    intro k p m hk hp h0 h1
    simp only [List.length_cons] at hk hp h1
    obtain ⟨k, rfl⟩ : ∃ q, k = q + 1 := ⟨k - 1, by omega⟩
    have := ih k (p ++ [m]) (m + 1) (by omega) (by simp; omega) (by omega) (by omega)
    rw [laws_markIntS.l0, if_pos (by simp; omega), if_pos (by omega), Int.toNat_natCast, set_at, wrap_id (x := m + 1) (by omega) (by omega), wrap_cast p.length (by omega)]
    simp only [List.append_assoc, List.cons_append, List.nil_append, List.length_append, List.length_cons, List.length_nil, Nat.zero_add] at this
    rw [this]
    simp only [List.length_cons, markL]
    congr 2; omega
theorem markIntS_eq (x : List Int) (m : Int) (k : Nat) (hk : x.length < k) (hx : x.length ≤ 8388608) (h0 : 0 ≤ m) (h1 : m + x.length ≤ 100000000) : laws_markIntS.f k x m = some (m + x.length, markL x.length m) := by
  have := markIntS_l0 x k [] m hk (by simpa using hx) h0 h1
  simpa [laws_markIntS.f] using this
theorem heldIntS_l0 (n : Nat) : ∀ (k : Nat) (p : List Int) (m : Int), n < k → p.length + n ≤ 8388608 → 0 ≤ m → m + n ≤ 100000000 → laws_heldIntS.l0 k (p ++ markL n m) m p.length = some (m + n) := by
  induction n with
  | zero =>
    intro k p m hk hp h0 h1
    obtain ⟨k, rfl⟩ : ∃ q, k = q + 1 := ⟨k - 1, by omega⟩
    rw [laws_heldIntS.l0, if_neg (by simp [markL])]
    simp
  | succ n ih =>
    intro k p m hk hp h0 h1
    obtain ⟨k, rfl⟩ : ∃ q, k = q + 1 := ⟨k - 1, by omega⟩
    have := ih k (p ++ [m]) (m + 1) (by omega) (by simp; omega) (by omega) (by omega)
    have e : rd (p ++ markL (n + 1) m) (p.length : Int) = m := by rw [rd_nat]; simp [markL]
    rw [laws_heldIntS.l0, if_pos (by simp [markL_length]; omega), if_pos (by omega), e, if_pos rfl, wrap_id (x := m + 1) (by omega) (by omega), wrap_cast p.length (by omega)]
    simp only [List.append_assoc, List.cons_append, List.nil_append, List.length_append, List.length_cons, List.length_nil, Nat.zero_add] at this
    simp only [markL]
    rw [this]
    congr 1; omega
theorem heldIntS_eq (n : Nat) (m : Int) (k : Nat) (hk : n < k) (hn : n ≤ 8388608) (h0 : 0 ≤ m) (h1 : m + n ≤ 100000000) : laws_heldIntS.f k (markL n m) m = some (m + n) := by
  have := heldIntS_l0 n k [] m hk (by simpa using hn) h0 h1
  simpa [laws_heldIntS.f] using this
def markE (m : Int) : S34 := ⟨m, m + 1, m + 1 + 1, (Int.tmod (m + 1 + 1 + 1) 3 == 0), m + 1 + 1 + 1 + 1, (Int.tmod (m + 1 + 1 + 1 + 1 + 1) 3 == 0)⟩
def markJ : Nat → Int → List S34
  | 0, _ => []
  | n + 1, m => markE m :: markJ n (m + 6)
theorem markJ_length (n : Nat) : ∀ m, (markJ n m).length = n := by
  induction n with
  | zero => intro m; rfl
  | succ n ih => intro m; simp [markJ, ih]
theorem set_job {α : Type} (p r : List α) (a b : α) : (p ++ a :: r).set p.length b = p ++ b :: r := by
  rw [List.set_append_right _ _ (Nat.le_refl _)]; simp
theorem rd_job (p r : List S34) (a : S34) : rd_T34 (p ++ a :: r) (p.length : Int) = a := by simp [rd_T34]
theorem markJobS_l0 (r : List S34) : ∀ (k : Nat) (p : List S34) (m : Int), r.length < k → p.length + r.length ≤ 8388608 → 0 ≤ m → m + 6 * r.length ≤ 100000000 → laws_markJobS.l0 k (p ++ r) m p.length = some (m + 6 * r.length, p ++ markJ r.length m) := by
  induction r with
  | nil =>
    intro k p m hk hp h0 h1
    obtain ⟨k, rfl⟩ : ∃ q, k = q + 1 := ⟨k - 1, by omega⟩
    rw [laws_markJobS.l0, if_neg (by simp)]
    simp [markJ]
  | cons a r ih =>
    intro k p m hk hp h0 h1
    simp only [List.length_cons] at hk hp h1
    obtain ⟨k, rfl⟩ : ∃ q, k = q + 1 := ⟨k - 1, by omega⟩
    have e1 : wrap64 (m + 1) = m + 1 := wrap_id (by omega) (by omega)
    have e2 : wrap64 (m + 1 + 1) = m + 1 + 1 := wrap_id (by omega) (by omega)
    have e3 : wrap64 (m + 1 + 1 + 1) = m + 1 + 1 + 1 := wrap_id (by omega) (by omega)
    have e4 : wrap64 (m + 1 + 1 + 1 + 1) = m + 1 + 1 + 1 + 1 := wrap_id (by omega) (by omega)
    have e5 : wrap64 (m + 1 + 1 + 1 + 1 + 1) = m + 1 + 1 + 1 + 1 + 1 := wrap_id (by omega) (by omega)
    have e6 : wrap64 (m + 1 + 1 + 1 + 1 + 1 + 1) = m + 6 := (wrap_id (by omega) (by omega)).trans (by omega)
    have := ih k (p ++ [markE m]) (m + 6) (by omega) (by simp; omega) (by omega) (by omega)
    rw [laws_markJobS.l0, if_pos (by simp; omega), if_pos (by omega)]
    simp only [Int.toNat_natCast, set_job, rd_job, Option.bind_some, e1, e2, e3, e4, e5, e6]
    rw [wrap_cast p.length (by omega)]
    simp only [List.append_assoc, List.cons_append, List.nil_append, List.length_append, List.length_cons, List.length_nil, Nat.zero_add] at this
    unfold markE at this
    rw [this]
    simp only [List.length_cons, markJ, markE]
    congr 2; omega
theorem markJobS_eq (x : List S34) (m : Int) (k : Nat) (hk : x.length < k) (hx : x.length ≤ 8388608) (h0 : 0 ≤ m) (h1 : m + 6 * x.length ≤ 100000000) : laws_markJobS.f k x m = some (m + 6 * x.length, markJ x.length m) := by
  have := markJobS_l0 x k [] m hk (by simpa using hx) h0 h1
  simpa [laws_markJobS.f] using this
theorem copy_eq (x : List S34) (hx : x.length ≤ 2097152) : spec_l29Copy.f x = some x := by
  unfold spec_l29Copy.f
  simp only [Option.bind_some, List.nil_append, List.length_nil]
  rw [if_pos (by omega)]
theorem clone_eq (x : List S34) (hx : x.length ≤ 2097152) : impl_Job_44.f x = some x := by
  unfold impl_Job_44.f
  simp only [Option.bind_some, List.nil_append, List.length_nil]
  rw [if_pos (by omega)]
def better (x : List S34) (i : Nat) (b : Int) : Int := if (x.getD i z34).f5 = true then b else if b < 0 then i else if (x.getD i z34).f4 > (x.getD b.toNat z34).f4 then i else b
def nextL (x : List S34) : Nat → Nat → Int → Int
  | 0, _, b => b
  | d + 1, i, b => nextL x d (i + 1) (better x i b)
def nextF (x : List S34) : Int := if jobsB x = true then nextL x x.length 0 (-1) else -1
theorem better_range (x : List S34) (i : Nat) (b : Int) (hi : i < x.length) (hb : b < x.length) (h1 : -1 ≤ b) : better x i b < x.length ∧ -1 ≤ better x i b := by
  unfold better
  split
  · exact ⟨hb, h1⟩
  · split
    · omega
    · split <;> omega
theorem nextL_range (x : List S34) (d : Nat) : ∀ (i : Nat) (b : Int), i + d = x.length → b < x.length → -1 ≤ b → nextL x d i b < x.length ∧ -1 ≤ nextL x d i b := by
  induction d with
  | zero => intro i b _ h1 h2; exact ⟨h1, h2⟩
  | succ d ih =>
    intro i b hi h1 h2
    obtain ⟨h3, h4⟩ := better_range x i b (by omega) h1 h2
    exact ih (i + 1) _ (by omega) h3 h4
theorem nextF_range (x : List S34) : nextF x < x.length ∧ -1 ≤ nextF x := by
  unfold nextF
  split
  · exact nextL_range x x.length 0 (-1) (by omega) (by omega) (by omega)
  · omega
theorem implNext_l0 (x : List S34) (hx : x.length ≤ 1048576) (d : Nat) : ∀ (k : Nat) (i : Nat) (b : Int), i + d = x.length → d < k → b < x.length → -1 ≤ b → impl_NextJob.l0 k x b x (x.length : Int) i = some (nextL x d i b) := by
  induction d with
  | zero =>
    intro k i b hi hk h1 h2
    obtain ⟨k, rfl⟩ : ∃ m, k = m + 1 := ⟨k - 1, by omega⟩
    rw [impl_NextJob.l0, if_neg (by omega)]
    rfl
  | succ d ih =>
    intro k i b hi hk h1 h2
    obtain ⟨k, rfl⟩ : ∃ m, k = m + 1 := ⟨k - 1, by omega⟩
    have e : rd_T34 x i = x.getD i z34 := by simp [rd_T34]
    have eb : rd_T34 x b = x.getD b.toNat z34 := by simp [rd_T34]
    rw [impl_NextJob.l0, if_pos (by omega), if_pos (by omega), if_pos (by omega), e, eb, wrap_cast i (by omega), nextL]
    unfold better
    by_cases c1 : (x.getD i z34).f5 = true
    · rw [if_pos c1, if_pos c1]; exact ih k (i + 1) b (by omega) (by omega) h1 h2
    · rw [if_neg c1, if_neg c1]
      by_cases c2 : b < 0
      · rw [if_pos c2, if_pos c2]; exact ih k (i + 1) i (by omega) (by omega) (by omega) (by omega)
      · rw [if_neg c2, if_neg c2, if_pos (by omega), if_pos (by omega)]
        by_cases c3 : (x.getD i z34).f4 > (x.getD b.toNat z34).f4
        · rw [if_pos c3, if_pos c3]; exact ih k (i + 1) i (by omega) (by omega) (by omega) (by omega)
        · rw [if_neg c3, if_neg c3]; exact ih k (i + 1) b (by omega) (by omega) h1 h2
theorem implNext_eq (x : List S34) (hx : x.length ≤ 1048576) (k : Nat) (hk : x.length < k) : impl_NextJob.f k x = some (nextF x) := by
  rw [impl_NextJob.f, implJobs_eq x k hk]
  simp only [Option.bind_some]
  unfold nextF
  by_cases h : jobsB x = true
  · rw [if_pos h, if_pos h]; exact implNext_l0 x hx x.length k 0 (-1) (by omega) hk (by omega) (by omega)
  · rw [if_neg h, if_neg h]
theorem specNext_l0 (x : List S34) (hx : x.length ≤ 1048576) (hj : jobsB x = true) (d : Nat) : ∀ (k : Nat) (i : Nat) (b : Int), i + d = x.length → x.length * (x.length + 2) + x.length + 2 * d + 5 < k → b < x.length → -1 ≤ b → spec_NextJob.l0 k x b i = some (nextL x d i b) := by
  induction d with
  | zero =>
    intro k i b hi hk h1 h2
    obtain ⟨k, rfl⟩ : ∃ m, k = m + 1 := ⟨k - 1, by omega⟩
    rw [spec_NextJob.l0, if_neg (by omega)]
    obtain ⟨k, rfl⟩ : ∃ m, k = m + 1 := ⟨k - 1, by omega⟩
    rw [spec_NextJob.j1, if_neg (by simp)]
    rfl
  | succ d ih =>
    intro k i b hi hk h1 h2
    obtain ⟨k, rfl⟩ : ∃ m, k = m + 1 := ⟨k - 1, by omega⟩
    have e : rd_T34 x i = x.getD i z34 := by simp [rd_T34]
    have eb : rd_T34 x b = x.getD b.toNat z34 := by simp [rd_T34]
    rw [spec_NextJob.l0, if_pos (by omega), specJobs_eq x (by omega) k (by omega), hj]
    simp only [Option.bind_some]
    obtain ⟨k, rfl⟩ : ∃ m, k = m + 1 := ⟨k - 1, by omega⟩
    rw [spec_NextJob.j1, if_pos rfl, if_pos (by omega), if_pos (by omega), e, eb, wrap_cast i (by omega), nextL]
    unfold better
    by_cases c1 : (x.getD i z34).f5 = true
    · rw [if_pos c1, if_pos c1]; exact ih k (i + 1) b (by omega) (by omega) h1 h2
    · rw [if_neg c1, if_neg c1]
      by_cases c2 : b < 0
      · rw [if_pos c2, if_pos c2]; exact ih k (i + 1) i (by omega) (by omega) (by omega) (by omega)
      · rw [if_neg c2, if_neg c2, if_pos (by omega), if_pos (by omega)]
        by_cases c3 : (x.getD i z34).f4 > (x.getD b.toNat z34).f4
        · rw [if_pos c3, if_pos c3]; exact ih k (i + 1) i (by omega) (by omega) (by omega) (by omega)
        · rw [if_neg c3, if_neg c3]; exact ih k (i + 1) b (by omega) (by omega) h1 h2
theorem specNext_eq (x : List S34) (hx : x.length ≤ 1048576) (k : Nat) (hk : x.length * (x.length + 2) + 3 * x.length + 5 < k) : spec_NextJob.f k x = some (nextF x) := by
  rw [spec_NextJob.f, nextF]
  by_cases h : jobsB x = true
  · rw [if_pos h]; exact specNext_l0 x hx h x.length k 0 (-1) (by omega) (by omega) (by omega) (by omega)
  · rw [if_neg h]
    obtain ⟨k, rfl⟩ : ∃ m, k = m + 2 := ⟨k - 2, by omega⟩
    have h2 : jobsB x = false := by simpa using h
    rw [spec_NextJob.l0]
    by_cases c : (0 : Int) < x.length
    · rw [if_pos c, specJobs_eq x (by omega) (k + 1) (by omega), h2]
      simp only [Option.bind_some]
      rw [spec_NextJob.j1, if_neg (by simp)]
    · rw [if_neg c, spec_NextJob.j1, if_neg (by simp)]
def takeF (x : List S34) : List S34 × S34 × Bool := if nextF x < 0 then (x, ⟨0, 0, 0, false, 0, false⟩, false) else (x.eraseIdx (nextF x).toNat, rd_T34 x (nextF x), true)
theorem takeF_len (x : List S34) : (takeF x).1.length ≤ x.length := by
  unfold takeF
  split
  · exact Nat.le_refl _
  · exact List.length_eraseIdx_le _ _
theorem takeF_less (x : List S34) (h : (takeF x).2.2 = true) : (takeF x).1.length + 1 = x.length := by
  have hr := nextF_range x
  unfold takeF at h ⊢
  by_cases c : nextF x < 0
  · rw [if_pos c] at h; cases h
  · rw [if_neg c]
    simp only
    rw [List.length_eraseIdx_of_lt (by omega)]
    omega
theorem implTake_eq (x : List S34) (hx : x.length ≤ 1048576) (k : Nat) (hk : x.length < k) : impl_TakeJob.f k x = some ((takeF x).1, (takeF x).2.1.f0, (takeF x).2.1.f1, (takeF x).2.1.f2, (takeF x).2.1.f3, (takeF x).2.1.f4, (takeF x).2.1.f5, (takeF x).2.2) := by
  have hr := nextF_range x
  unfold impl_TakeJob.f takeF
  rw [implNext_eq x hx k hk, clone_eq x (by omega)]
  simp only [Option.bind_some]
  by_cases c : nextF x < 0
  · simp only [if_pos c]
  · simp only [if_neg c]
    unfold impl_Job_46.f
    rw [if_pos (by omega), if_pos (by omega), if_pos rfl]
    simp only [Option.bind_some]
    rw [if_pos (by omega), if_pos (by omega)]
theorem cut_out (x : List S34) (i : Int) (h0 : 0 ≤ i) (h1 : i < x.length) (hx : x.length ≤ 1048576) : x.take i.toNat ++ x.drop (wrap64 (i + 1)).toNat = x.eraseIdx i.toNat := by
  rw [List.eraseIdx_eq_take_drop_succ, wrap_id (x := i + 1) (by omega) (by omega), show (i + 1).toNat = i.toNat + 1 by omega]
theorem specTake_eq (x : List S34) (hx : x.length ≤ 1048576) (k : Nat) (hk : x.length * (x.length + 2) + 3 * x.length + 5 < k) : spec_TakeJob.f k x = some ((takeF x).1, (takeF x).2.1.f0, (takeF x).2.1.f1, (takeF x).2.1.f2, (takeF x).2.1.f3, (takeF x).2.1.f4, (takeF x).2.1.f5, (takeF x).2.2) := by
  have hr := nextF_range x
  unfold spec_TakeJob.f takeF
  rw [specNext_eq x hx k hk]
  simp only [Option.bind_some]
  by_cases c : nextF x < 0
  · simp only [if_pos c, copy_eq x (show x.length ≤ 2097152 by omega), Option.bind_some]
  · have hw : wrap64 (nextF x + 1) = nextF x + 1 := wrap_id (by omega) (by omega)
    have ht : (x.take (nextF x).toNat).length ≤ 1048576 := by rw [List.length_take]; omega
    have hd : (x.drop (wrap64 (nextF x + 1)).toNat).length ≤ 1048576 := by rw [List.length_drop]; omega
    simp only [if_neg c]
    rw [if_pos (by omega), if_pos (by omega), copy_eq _ (by omega)]
    simp only [Option.bind_some]
    rw [if_pos (by omega), if_pos (by omega), if_pos (by omega), if_pos (by omega), cut_out x _ (by omega) hr.1 hx]
def orderL : Nat → List S34 → List Int
  | 0, _ => []
  | n + 1, x => if (takeF x).2.2 = true then (takeF x).2.1.f0 :: orderL n (takeF x).1 else []
def orderF (x : List S34) : List Int := orderL (x.length + 1) x
theorem orderL_len (n : Nat) : ∀ (x : List S34), (orderL n x).length ≤ x.length := by
  induction n with
  | zero => intro x; exact Nat.zero_le _
  | succ n ih =>
    intro x
    rw [orderL]
    by_cases c : (takeF x).2.2 = true
    · rw [if_pos c]
      have h1 := takeF_less x c
      have h2 := ih (takeF x).1
      simp only [List.length_cons]
      omega
    · rw [if_neg c]; exact Nat.zero_le _
theorem orderF_len (x : List S34) : (orderF x).length ≤ x.length := orderL_len _ x
theorem implOrder_l0 (n : Nat) : ∀ (x : List S34) (k : Nat) (o : List Int), x.length < n → x.length ≤ 1048576 → o.length + x.length ≤ 1048576 → n + x.length < k → impl_PrintOrder.l0 k x o = some (o ++ orderL n x) := by
  induction n with
  | zero => intro x k o h; exact absurd h (Nat.not_lt_zero _)
  | succ n ih =>
    intro x k o hn hx ho hk
    obtain ⟨k, rfl⟩ : ∃ m, k = m + 1 := ⟨k - 1, by omega⟩
    rw [impl_PrintOrder.l0, implTake_eq x hx k (by omega), orderL]
    simp only [Option.bind_some]
    by_cases c : (takeF x).2.2 = true
    · have h1 := takeF_less x c
      rw [if_pos c, if_pos c, if_pos (by omega), ih _ k _ (by omega) (by omega) (by simp; omega) (by omega)]
      simp
    · rw [if_neg c, if_neg c]; simp
theorem implOrder_eq (x : List S34) (hx : x.length ≤ 1048576) (k : Nat) (hk : 2 * x.length + 1 < k) : impl_PrintOrder.f k x = some (orderF x) := by
  rw [impl_PrintOrder.f, implOrder_l0 (x.length + 1) x k [] (by omega) hx (by simpa using hx) (by omega)]
  rfl
theorem specOrder_l0 (N : Nat) (n : Nat) : ∀ (x : List S34) (k : Nat) (o : List Int), x.length < n → x.length ≤ N → N ≤ 1048576 → o.length + x.length ≤ 1048576 → N * (N + 2) + 3 * N + 5 + n < k → spec_PrintOrder.l0 k o x = some (o ++ orderL n x) := by
  induction n with
  | zero => intro x k o h; exact absurd h (Nat.not_lt_zero _)
  | succ n ih =>
    intro x k o hn hx hN ho hk
    obtain ⟨k, rfl⟩ : ∃ m, k = m + 1 := ⟨k - 1, by omega⟩
    have hq : x.length * (x.length + 2) ≤ N * (N + 2) := Nat.mul_le_mul hx (by omega)
    rw [spec_PrintOrder.l0, specTake_eq x (by omega) k (by omega), orderL]
    simp only [Option.bind_some]
    by_cases c : (takeF x).2.2 = true
    · have h1 := takeF_less x c
      rw [if_pos c, if_pos c, if_pos (by omega), ih _ k _ (by omega) (by omega) hN (by simp; omega) (by omega)]
      simp
    · rw [if_neg c, if_neg c]; simp
theorem specOrder_eq (x : List S34) (hx : x.length ≤ 1048576) (k : Nat) (hk : x.length * (x.length + 2) + 4 * x.length + 10 < k) : spec_PrintOrder.f k x = some (orderF x) := by
  rw [spec_PrintOrder.f, copy_eq x (by omega)]
  simp only [Option.bind_some]
  rw [specOrder_l0 x.length (x.length + 1) x k [] (by omega) (Nat.le_refl _) hx (by simpa using hx) (by omega)]
  rfl
theorem pure : laws_FnExactPrintOrder.Stm := by
  intro l hl _
  obtain ⟨K, hK⟩ : ∃ K, K = l.length * (l.length + 2) + 10 * l.length + 1100000 := ⟨_, rfl⟩
  refine ⟨K + 3, ?_⟩
  rw [laws_FnExactPrintOrder.f, szJobS_eq l hl]
  simp only [Option.bind_some]
  by_cases h : l.length ≤ 1048576
  · rw [if_pos h, if_neg (by omega)]
    have h' : (l.map toJob).length ≤ 1048576 := by simpa using h
    have hm : (l.map toJob).length = l.length := by simp
    have hg : (orderF (l.map toJob)).length ≤ 1048576 := Nat.le_trans (orderF_len _) h'
    have S := fun k (hk : K ≤ k) => specOrder_eq (l.map toJob) h' k (by rw [hm]; omega)
    have I := fun k (hk : K ≤ k) => implOrder_eq (l.map toJob) h' k (by omega)
    generalize orderF (l.map toJob) = g at hg S I
    simp only [toJobS_eq l h _ (by omega : l.length < K + 3), Option.bind_some, S (K + 3) (by omega), I (K + 3) (by omega), eqIntS_eq g hg _ (by omega : g.length < K + 3), if_true, eqJobS_eq _ h' _ (by omega : (l.map toJob).length < K + 3), markJobS_eq (l.map toJob) 1 _ (by omega : (l.map toJob).length < K + 3) (by omega) (by omega) (by omega), Bool.not_true]
    rw [if_neg (by omega), laws_FnExactPrintOrder.j0]
    simp only [Bool.false_eq_true, if_false, markIntS_eq g 1 _ (by omega : g.length < K + 2) (by omega) (by omega) (by omega), Option.bind_some, heldIntS_eq g.length 1 _ (by omega : g.length < K + 2) (by omega) (by omega) (by omega)]
    rw [if_neg (by omega)]
    simp only [if_true, toJobS_eq l h _ (by omega : l.length < K + 2), Option.bind_some, I (K + 2) (by omega), eqIntS_eq g hg _ (by omega : g.length < K + 2)]
    rw [if_neg (by omega)]
  · rw [if_neg h, if_pos (by omega)]
end Go.Proofs.Ytcahphhfknkjgaa.PureFnExactPrintOrder
